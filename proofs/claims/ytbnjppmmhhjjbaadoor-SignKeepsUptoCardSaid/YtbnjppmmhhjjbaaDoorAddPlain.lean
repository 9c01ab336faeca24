/- Symbols added to a signature, plain. -/
import Derived.Test.YtbnjppmmhhjjbaaDoorSgnPlain
namespace Go.Proofs.YtbnjppmmhhjjbaaDoor

def addL : List Sy → List Sy → List Sy
  | out, [] => out
  | out, x :: r => addL (if x ∈ out then out else out ++ [x]) r
def addErr : List Sy → Int
  | [] => 0
  | x :: r => if x.one ≠ 0 ∧ x ≠ truth then x.one else addErr r
def addRes (s l : List Sy) : List Sy × Int :=
  if sigCheck s ≠ 0 then ([], sigCheck s) else if addErr l ≠ 0 then ([], addErr l) else if 96 < (addL s l).length then ([], 3) else (addL s l, 0)

theorem addErr_step {l : List Sy} {k : Nat} (h : k < l.length) : addErr (l.drop k) = if (sget l k).one ≠ 0 ∧ sget l k ≠ truth then (sget l k).one else addErr (l.drop (k + 1)) := by
  rw [List.drop_eq_getElem_cons h, addErr, sget_lt h]
theorem addL_append : ∀ (out l r : List Sy), addL out (l ++ r) = addL (addL out l) r
  | _, [], _ => rfl
  | out, x :: l, r => by rw [List.cons_append, addL, addL, addL_append]
theorem addL_step {out l : List Sy} {k : Nat} (h : k < l.length) : addL out (l.take (k + 1)) = if sget l k ∈ addL out (l.take k) then addL out (l.take k) else addL out (l.take k) ++ [sget l k] := by
  rw [List.take_succ_eq_append_getElem h, addL_append, addL, addL, sget_lt h]
theorem addL_mem {P : Sy → Prop} : ∀ {l out : List Sy}, (∀ x ∈ out, P x) → (∀ x ∈ l, P x) → ∀ x ∈ addL out l, P x
  | [], _, h, _ => h
  | y :: l, out, h, h2 => by
    rw [addL]
    refine addL_mem ?_ (fun x hx => h2 x (by simp [hx]))
    intro x hx
    split at hx
    · exact h x hx
    · rcases List.mem_append.1 hx with hx | hx
      · exact h x hx
      · obtain rfl : x = y := by simpa using hx
        exact h2 x (by simp)
theorem addL_len : ∀ (l out : List Sy), out.length ≤ (addL out l).length ∧ (addL out l).length ≤ out.length + l.length
  | [], _ => by simp [addL]
  | x :: r, out => by
    rw [addL]
    have := addL_len r (if x ∈ out then out else out ++ [x])
    split at this <;> split <;> simp_all <;> omega
theorem mem_take {α : Type} {l : List α} {k : Nat} {x : α} (h : x ∈ l.take k) : x ∈ l := List.mem_of_mem_take h
theorem syAt_nonneg (x : Sy) (l : List Sy) : (0 : Int) ≤ syAt x l 0 ↔ x ∈ l := by
  have := syAt_mem x l 0 (Int.le_refl _)
  by_cases h : x ∈ l
  · exact ⟨fun _ => h, fun _ => this.1 h⟩
  · have := this.2 h; exact ⟨fun h' => by omega, fun h' => absurd h' h⟩

end Go.Proofs.YtbnjppmmhhjjbaaDoor
