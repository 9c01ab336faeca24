/- The walks through the document's variables of a term: the row they come to. -/
import Derived.Test.YtjkpecjlpgcalaaPlaces
import Derived.Test.YtjkpecjlpgcalaaOrd
namespace Go.Proofs.Ytjkpecjlpgcalaa
open Go.RowKit Go.Sort Go

/-- A number put into a row: as it is if it has it; else ahead of the first greater one. -/
def insI (v : Int) (l : List Int) : List Int := if v ∈ l then l else l.takeWhile (fun x => decide (x ≤ v)) ++ v :: l.dropWhile (fun x => decide (x ≤ v))
theorem insI_pos (v : Int) (l : List Int) : 0 < (insI v l).length := by
  unfold insI
  split
  · rename_i h; exact List.length_pos_of_mem h
  · simp; omega
theorem insI_le (v : Int) (l : List Int) : (insI v l).length ≤ l.length + 1 ∧ l.length ≤ (insI v l).length := by
  unfold insI
  split
  · omega
  · have := congrArg List.length (List.takeWhile_append_dropWhile (p := fun x => decide (x ≤ v)) (l := l))
    simp only [List.length_append, List.length_cons] at this ⊢
    omega
theorem insI_i64 {v : Int} {l : List Int} (hv : I64 v) (h : ∀ x ∈ l, I64 x) : ∀ x ∈ insI v l, I64 x := by
  unfold insI
  split
  · exact h
  · intro x hx
    simp only [List.mem_append, List.mem_cons] at hx
    rcases hx with hx | rfl | hx
    · exact h x ((List.takeWhile_sublist _).mem hx)
    · exact hv
    · exact h x ((List.dropWhile_sublist _).mem hx)

namespace T
mutual
def joinI : List Int → T → List Int
  | l, .mk f a => joinL (if f < 0 then insI (-1 - f) l else l) a
def joinL : List Int → List T → List Int
  | l, [] => l
  | l, t :: r => joinL (joinI l t) r
end
theorem joinL_append : ∀ (q r : List T) (l : List Int), joinL l (q ++ r) = joinL (joinL l q) r
  | [], r, l => rfl
  | t :: q, r, l => by rw [List.cons_append, joinL, joinL, joinL_append q r]
mutual
theorem joinI_le : ∀ (t : T) (l : List Int), (joinI l t).length ≤ l.length + t.size ∧ l.length ≤ (joinI l t).length
  | .mk f a, l => by
    have h := joinL_le a (if f < 0 then insI (-1 - f) l else l)
    rw [joinI, size]
    have := insI_le (-1 - f) l
    split at h <;> split <;> omega
theorem joinL_le : ∀ (a : List T) (l : List Int), (joinL l a).length ≤ l.length + T.sizeL a ∧ l.length ≤ (joinL l a).length
  | [], l => by simp [joinL, sizeL]
  | t :: r, l => by
    rw [joinL, sizeL]
    have := joinI_le t l
    have := joinL_le r (joinI l t)
    omega
end
mutual
theorem joinI_vars : ∀ (t : T) (l : List Int), (joinI l t).length = 0 → vars t = []
  | .mk f a, l, h => by
    rw [joinI] at h
    by_cases hf : f < 0
    · rw [if_pos hf] at h
      have := (joinL_le a (insI (-1 - f) l)).2
      have := insI_pos (-1 - f) l
      omega
    · rw [vars, if_neg hf]
      rw [if_neg hf] at h
      exact joinL_vars a l h
theorem joinL_vars : ∀ (a : List T) (l : List Int), (joinL l a).length = 0 → varsL a = []
  | [], l, _ => rfl
  | t :: r, l, h => by
    rw [joinL] at h
    have h1 := (joinL_le r (joinI l t)).2
    rw [varsL, joinI_vars t l (by omega), joinL_vars r _ h]; rfl
end
end T

def intV (n : Int) : Value := .int .i64 n

section
variable {w0 w : World} {ov : Value} {lo : List Int}
theorem wpList_appI {ops : Array Oper} {rest : List Oper} {o : Oper} {a : Act} {K : Exit → Act → World → Prop} {x y : Operand} {g : Nat} {v : Int} (hgd : o.guard = none) (ho : o.op = .call { callee := .builtin .append, args := #[x, y], argTypes := #[22, 22] })
    (hx : a.eval x = ov) (hy : a.eval y = .slice (some ⟨g, 0, none⟩) 1 1) (hB : Blk w g 3 #[.int .i64 v]) (h : w.ownsRow w0.heap.size 3 1 ov lo.length (lo.map intV)) (hb : Below w0.heap.size w0 w) (hlen : lo.length ≤ 4294967295)
    (hK : ∀ ra rc w', w'.ownsRow w0.heap.size 3 1 (.slice ra (lo.length + 1) rc) (lo ++ [v]).length ((lo ++ [v]).map intV) → Below w0.heap.size w0 w' → wpList Try.prog ops K rest (a.put o.dst (.slice ra (lo.length + 1) rc)) w') : wpList Try.prog ops K (o :: rest) a w := by
  have hint : (Try.prog.info? 3).map (fun i => (i.zero, i.size, i.bytes)) = some (some (.int .i64 0), 1, 8) := by kernel_rfl
  obtain ⟨i0, hi, hz0, hz1, hz2⟩ := info_parts hint
  have hN := hb.size
  refine wpList_append_lies w hgd x y 22 ho w0.heap.size 3 i0 (.int .i64 0) 1 8 Try.underlying22 hi hz0 hz1 hz2 rfl (by decide) ov lo.length (lo.map intV) hx h ⟨g, 0, none⟩ 1 1 [.int .i64 v] hy rfl (World.news_of_block hB) (ints_oneCell .i64 [v]) (by omega) (by unfold maxLen; omega) (by omega) (by omega) _ rfl ?_
  intro g1 c1 w4 hown hgrow hat _
  refine hK _ _ _ (by simpa [intV] using hown) (hb.grown hgrow hN (fun b hb2 => (h.lt b hb2).1))

/-- What owns a row of integers is one. -/
theorem ints_of_own2 {N : Nat} {a : Option Addr} {c : Nat} (h : w.ownsRow N 3 1 (.slice a lo.length c) lo.length (lo.map intV)) (hl : ∀ x ∈ lo, I64 x) : lo.length ≤ c ∧ c ≤ maxLen ∧ IsInts w lo a := by
  rcases h.2 with ⟨e, h0⟩ | ⟨g, cap, cur, e, _, hB, hc, hm, _, _⟩
  · simp only [Value.slice.injEq] at e
    have : lo = [] := List.length_eq_zero_iff.1 h0
    subst this
    exact ⟨Nat.zero_le _, by rw [e.2.2]; unfold maxLen; omega, fun k hk => by simp at hk⟩
  · simp only [Value.slice.injEq, true_and] at e
    obtain ⟨rfl, rfl⟩ := e
    refine ⟨hc, hm, fun k hk => ⟨g, 0, [.int .i64 lo[k]], rfl, rfl, fun j hj => ?_, rfl, hl _ (List.getElem_mem hk)⟩⟩
    have hj0 : j = 0 := by omega
    subst hj0
    have := h.cells (g := g) rfl k (.int .i64 lo[k]) (by simp [hk, intV])
    have e : (⟨g, 0, none⟩ : Addr).add k = ⟨g, k, none⟩ := by unfold Addr.add; split <;> simp_all
    rw [e] at this
    simpa using this
end

/-- What has been put out when 'k' numbers were read, none of them 'v'. -/
def outI (v : Int) (l : List Int) : List Int := if l.all (fun x => decide (x ≤ v)) then l else l.takeWhile (fun x => decide (x ≤ v)) ++ v :: l.dropWhile (fun x => decide (x ≤ v))
def doneI (v : Int) (l : List Int) : Bool := !l.all (fun x => decide (x ≤ v))

theorem outI_snoc_done {v x : Int} {l : List Int} (h : doneI v l = true) : outI v (l ++ [x]) = outI v l ++ [x] ∧ doneI v (l ++ [x]) = true := by
  unfold doneI at h ⊢
  have h1 : l.all (fun x => decide (x ≤ v)) = false := by simpa using h
  have h2 : (l ++ [x]).all (fun x => decide (x ≤ v)) = false := by rw [List.all_append, h1]; rfl
  have ht : ∀ l : List Int, l.all (fun x => decide (x ≤ v)) = false → (l ++ [x]).takeWhile (fun x => decide (x ≤ v)) = l.takeWhile (fun x => decide (x ≤ v)) ∧ (l ++ [x]).dropWhile (fun x => decide (x ≤ v)) = l.dropWhile (fun x => decide (x ≤ v)) ++ [x] := by
    intro l
    induction l with
    | nil => intro h; simp at h
    | cons a r ih =>
      intro h
      by_cases ha : a ≤ v
      · have hr : r.all (fun x => decide (x ≤ v)) = false := by simpa [ha] using h
        obtain ⟨i1, i2⟩ := ih hr
        simp [ha, i1, i2]
      · simp [ha]
  obtain ⟨i1, i2⟩ := ht l h1
  unfold outI
  rw [h1, h2, i1, i2]
  simp
theorem outI_snoc_le {v x : Int} {l : List Int} (h : doneI v l = false) (hx : x ≤ v) : outI v (l ++ [x]) = outI v l ++ [x] ∧ doneI v (l ++ [x]) = false := by
  unfold doneI at h ⊢
  have h1 : l.all (fun x => decide (x ≤ v)) = true := by simpa using h
  have h2 : (l ++ [x]).all (fun x => decide (x ≤ v)) = true := by rw [List.all_append, h1]; simp [hx]
  unfold outI
  rw [h1, h2]; simp
theorem outI_snoc_gt {v x : Int} {l : List Int} (h : doneI v l = false) (hx : ¬ x ≤ v) : outI v (l ++ [x]) = outI v l ++ [v] ++ [x] ∧ doneI v (l ++ [x]) = true := by
  unfold doneI at h ⊢
  have h1 : l.all (fun x => decide (x ≤ v)) = true := by simpa using h
  have h2 : (l ++ [x]).all (fun x => decide (x ≤ v)) = false := by rw [List.all_append, h1]; simp [hx]
  have ht : ∀ l : List Int, l.all (fun x => decide (x ≤ v)) = true → (l ++ [x]).takeWhile (fun x => decide (x ≤ v)) = l ∧ (l ++ [x]).dropWhile (fun x => decide (x ≤ v)) = [x] := by
    intro l
    induction l with
    | nil => intro _; simp [hx]
    | cons a r ih =>
      intro h
      simp only [List.all_cons, Bool.and_eq_true, decide_eq_true_eq] at h
      obtain ⟨i1, i2⟩ := ih h.2
      simp [h.1, i1, i2]
  obtain ⟨i1, i2⟩ := ht l h1
  unfold outI
  rw [h1, h2, i1, i2]
  simp
theorem outI_end {v : Int} {l : List Int} (h : v ∉ l) : insI v l = if doneI v l then outI v l else outI v l ++ [v] := by
  unfold insI doneI outI
  rw [if_neg h]
  cases ha : l.all (fun x => decide (x ≤ v)) with
  | false => simp
  | true =>
    have ht : ∀ l : List Int, l.all (fun x => decide (x ≤ v)) = true → l.takeWhile (fun x => decide (x ≤ v)) = l ∧ l.dropWhile (fun x => decide (x ≤ v)) = [] := by
      intro l
      induction l with
      | nil => intro _; simp
      | cons a r ih =>
        intro h
        simp only [List.all_cons, Bool.and_eq_true, decide_eq_true_eq] at h
        obtain ⟨i1, i2⟩ := ih h.2
        simp [h.1, i1, i2]
    obtain ⟨i1, i2⟩ := ht l ha
    simp [i1, i2]
theorem outI_le (v : Int) (l : List Int) : (outI v l).length ≤ l.length + 1 := by
  unfold outI
  split
  · omega
  · have := congrArg List.length (List.takeWhile_append_dropWhile (p := fun x => decide (x ≤ v)) (l := l))
    simp only [List.length_append, List.length_cons] at this ⊢
    omega
theorem outI_i64 {v : Int} {l : List Int} (hv : I64 v) (h : ∀ x ∈ l, I64 x) : ∀ x ∈ outI v l, I64 x := by
  unfold outI
  split
  · exact h
  · intro x hx
    simp only [List.mem_append, List.mem_cons] at hx
    rcases hx with hx | rfl | hx
    · exact h x ((List.takeWhile_sublist _).mem hx)
    · exact hv
    · exact h x ((List.dropWhile_sublist _).mem hx)

end Go.Proofs.Ytjkpecjlpgcalaa

/- The walks through the document's variables of a term. -/
namespace Go.Proofs.Ytjkpecjlpgcalaa
open Go.RowKit Go.Sort Go


set_option maxHeartbeats 4000000 in
theorem insert_any (l : List Int) (v : Int) (w : World) (a : Option Addr) (c : Nat) (hc : l.length ≤ c) (hm : c ≤ maxLen) (hlen : l.length ≤ 4294967290) (hl : IsInts w l a) (hv : I64 v) :
    Calls Try.prog 48 #[.slice a l.length c, .int .i64 v] w fun e w' => (∃ a' c', e = .returned (.slice a' (insI v l).length c') ∧ (insI v l).length ≤ c' ∧ c' ≤ maxLen ∧ IsInts w' (insI v l) a') ∧ Below w.heap.size w w' := by
  have hli : ∀ x ∈ l, I64 x := fun x hx => by
    obtain ⟨k, hk, rfl⟩ := List.getElem_of_mem hx
    obtain ⟨_, _, _, _, h⟩ := hl.at_ (Below.refl _ _) k hk
    exact h
  have Hli := Lib.hid hli
  have Hv := Lib.hid hv
  have Hm0 := Lib.hid (And.intro hc hm)
  clear hli hv
  unfold maxLen at hm
  go_enter Try.func48, Try.ntmps48
  go_wp2_with fail
  go_loopw [5, 6, 7] (fun ov dv iv wr => ∃ (k : Nat), k ≤ l.length ∧ iv = .int .i64 k ∧ dv = .bool (doneI v (l.take k)) ∧ Hid (wr.ownsRow w.heap.size 3 1 ov (outI v (l.take k)).length ((outI v (l.take k)).map intV)) ∧ Hid (v ∉ l.take k) ∧ Hid (∃ a n c, ov = .slice a n c) ∧ Below w.heap.size w wr) (fun _ _ iv _ => l.length - (intOf iv).toNat)
  case atStart => exact ⟨0, Nat.zero_le _, rfl, rfl, ⟨rfl, .inl ⟨rfl, rfl⟩⟩, by simp [Hid], ⟨_, _, _, rfl⟩, Below.refl _ _⟩
  case round =>
    obtain ⟨k, hk, rfl, rfl, HO, Hn, Hsh, hw⟩ := hrel
    have Hol := Lib.hid (show (outI v (l.take k)).length ≤ 4294967291 by have := outI_le v (l.take k); simp at this; omega)
    by_cases hlt : k < l.length
    · obtain ⟨b, o, rfl, g0, gI⟩ := hl.at_ hw k hlt
      have z0 : (0 : Int) ≤ (k : Int) := by omega
      have z1 : (k : Int) < (l.length : Int) := by omega
      clear gI
      by_cases heq : l[k] = v
      · have q1 : (l[k] == v) = true := by simp [heq]
        have HV := Lib.hid (show insI v l = l by unfold insI; rw [if_pos (by rw [← heq]; exact List.getElem_mem hlt)])
        clear heq
        go_wp2_with fail
        go_ret
        rw [HV.out]
        exact ⟨⟨_, c, rfl, Hm0.out.1, Hm0.out.2, hl.below hw⟩, hw⟩
      · have q1 : (l[k] == v) = false := by simpa using heq
        have Hne := Lib.hid heq
        clear heq
        obtain ⟨oa, on, oc, rfl⟩ := Hsh.out
        by_cases hle : l[k] ≤ v
        · have hle' : ¬ v < l[k] := by omega
          cases hd : doneI v (l.take k) with
          | true =>
            have HS := Lib.hid (show outI v (l.take k ++ [l[k]]) = outI v (l.take k) ++ [l[k]] ∧ doneI v (l.take k ++ [l[k]]) = true from outI_snoc_done hd)
            have Hhw := Lib.hid hw
            clear hw
            clear hd hle
            have Hlo3 := Lib.hid (show (outI v (l.take k)).length ≤ 4294967295 from Nat.le_trans Hol.out (by omega))
            go_wp2_with (with_reducible refine stop_app ?_)
            refine Stop.mk ?_
            refine wpList_appI (lo := outI v (l.take k)) rfl rfl rfl rfl (Blk.new' rfl) (oR_below HO.out (balloc _ _)) (bstep Hhw.out (balloc _ _)) Hlo3.out ?_
            intro ra rc w4 hown4 hb4
            have Hhown4 := Lib.hid hown4
            have Hhb4 := Lib.hid hb4
            clear hown4 hb4
            clear HO Hhw
            go_wp2_with fail
            go_roundw
            case measure => simp [intOf]; omega
            case rel =>
              refine ⟨k + 1, by omega, by go_num, ?_, ?_, ?_, ⟨_, _, _, rfl⟩, Hhb4.out⟩
              · rw [List.take_succ_eq_append_getElem hlt, HS.out.2]
              · rw [List.take_succ_eq_append_getElem hlt, HS.out.1]; simpa [Hid] using Hhown4.out
              · rw [List.take_succ_eq_append_getElem hlt]
                show v ∉ l.take k ++ [l[k]]
                rw [List.mem_append, List.mem_singleton]
                exact fun h => h.elim Hn.out (fun h => Hne.out h.symm)
          | false =>
            have HS := Lib.hid (show outI v (l.take k ++ [l[k]]) = outI v (l.take k) ++ [l[k]] ∧ doneI v (l.take k ++ [l[k]]) = false from outI_snoc_le hd hle)
            have Hhw := Lib.hid hw
            clear hw
            clear hd hle
            have Hlo3 := Lib.hid (show (outI v (l.take k)).length ≤ 4294967295 from Nat.le_trans Hol.out (by omega))
            go_wp2_with (with_reducible refine stop_app ?_)
            refine Stop.mk ?_
            refine wpList_appI (lo := outI v (l.take k)) rfl rfl rfl rfl (Blk.new' rfl) (oR_below HO.out (balloc _ _)) (bstep Hhw.out (balloc _ _)) Hlo3.out ?_
            intro ra rc w4 hown4 hb4
            have Hhown4 := Lib.hid hown4
            have Hhb4 := Lib.hid hb4
            clear hown4 hb4
            clear HO Hhw
            go_wp2_with fail
            go_roundw
            case measure => simp [intOf]; omega
            case rel =>
              refine ⟨k + 1, by omega, by go_num, ?_, ?_, ?_, ⟨_, _, _, rfl⟩, Hhb4.out⟩
              · rw [List.take_succ_eq_append_getElem hlt, HS.out.2]
              · rw [List.take_succ_eq_append_getElem hlt, HS.out.1]; simpa [Hid] using Hhown4.out
              · rw [List.take_succ_eq_append_getElem hlt]
                show v ∉ l.take k ++ [l[k]]
                rw [List.mem_append, List.mem_singleton]
                exact fun h => h.elim Hn.out (fun h => Hne.out h.symm)
        · have hgt : v < l[k] := by omega
          cases hd : doneI v (l.take k) with
          | true =>
            have HS := Lib.hid (show outI v (l.take k ++ [l[k]]) = outI v (l.take k) ++ [l[k]] ∧ doneI v (l.take k ++ [l[k]]) = true from outI_snoc_done hd)
            have Hhw := Lib.hid hw
            clear hw
            clear hd hle
            have Hlo3 := Lib.hid (show (outI v (l.take k)).length ≤ 4294967295 from Nat.le_trans Hol.out (by omega))
            go_wp2_with (with_reducible refine stop_app ?_)
            refine Stop.mk ?_
            refine wpList_appI (lo := outI v (l.take k)) rfl rfl rfl rfl (Blk.new' rfl) (oR_below HO.out (balloc _ _)) (bstep Hhw.out (balloc _ _)) Hlo3.out ?_
            intro ra rc w4 hown4 hb4
            have Hhown4 := Lib.hid hown4
            have Hhb4 := Lib.hid hb4
            clear hown4 hb4
            clear HO Hhw
            go_wp2_with fail
            go_roundw
            case measure => simp [intOf]; omega
            case rel =>
              refine ⟨k + 1, by omega, by go_num, ?_, ?_, ?_, ⟨_, _, _, rfl⟩, Hhb4.out⟩
              · rw [List.take_succ_eq_append_getElem hlt, HS.out.2]
              · rw [List.take_succ_eq_append_getElem hlt, HS.out.1]; simpa [Hid] using Hhown4.out
              · rw [List.take_succ_eq_append_getElem hlt]
                show v ∉ l.take k ++ [l[k]]
                rw [List.mem_append, List.mem_singleton]
                exact fun h => h.elim Hn.out (fun h => Hne.out h.symm)
          | false =>
            have HS := Lib.hid (show outI v (l.take k ++ [l[k]]) = outI v (l.take k) ++ [v] ++ [l[k]] ∧ doneI v (l.take k ++ [l[k]]) = true from outI_snoc_gt hd hle)
            have Hhw := Lib.hid hw
            clear hw
            clear hd hle
            go_wp2_with (with_reducible refine stop_app ?_)
            refine Stop.mk ?_
            refine wpList_appI rfl rfl rfl rfl (Blk.new' rfl) (oR_below HO.out (balloc _ _)) (bstep Hhw.out (balloc _ _)) (Nat.le_trans Hol.out (by omega)) ?_
            intro ra rc w4 hown4 hb4
            obtain ⟨b', o', e', g1, gI⟩ := hl.at_ hb4 k hlt
            simp only [Option.some.injEq, Addr.mk.injEq, and_true] at e'
            obtain ⟨rfl, rfl⟩ := e'
            have Hol2 := Lib.hid (show (outI v (l.take k) ++ [v]).length ≤ 4294967292 by have := Hol.out; simp; omega)
            have HO2 := Lib.hid hown4
            have Hhw2 := Lib.hid hb4
            clear HO Hhw Hol gI hown4 hb4 g0
            have HO := HO2
            have Hhw := Hhw2
            have Hol := Hol2
            clear HO2 Hhw2 Hol2
            have Hlo3 := Lib.hid (show (outI v (l.take k) ++ [v]).length ≤ 4294967295 from Nat.le_trans Hol.out (by omega))
            go_wp2_with (with_reducible refine stop_app ?_)
            refine Stop.mk ?_
            refine wpList_appI (lo := outI v (l.take k) ++ [v]) rfl rfl rfl rfl (Blk.new' rfl) (oR_below HO.out (balloc _ _)) (bstep Hhw.out (balloc _ _)) Hlo3.out ?_
            intro ra rc w4 hown4 hb4
            have Hhown4 := Lib.hid hown4
            have Hhb4 := Lib.hid hb4
            clear hown4 hb4
            clear HO Hhw
            go_wp2_with fail
            go_roundw
            case measure => simp [intOf]; omega
            case rel =>
              refine ⟨k + 1, by omega, by go_num, ?_, ?_, ?_, ⟨_, _, _, rfl⟩, Hhb4.out⟩
              · rw [List.take_succ_eq_append_getElem hlt, HS.out.2]
              · rw [List.take_succ_eq_append_getElem hlt, HS.out.1]; simpa [Hid] using Hhown4.out
              · rw [List.take_succ_eq_append_getElem hlt]
                show v ∉ l.take k ++ [l[k]]
                rw [List.mem_append, List.mem_singleton]
                exact fun h => h.elim Hn.out (fun h => Hne.out h.symm)
    · have Hnot := Lib.hid (show v ∉ l by have := Hn.out; rwa [List.take_of_length_le (by omega)] at this)
      rw [List.take_of_length_le (by omega)] at HO Hol ⊢
      obtain ⟨oa, on, oc, rfl⟩ := Hsh.out
      have Hhw := Lib.hid hw
      clear hw
      cases hd : doneI v l with
      | true =>
        have HV := Lib.hid (show insI v l = outI v l by rw [outI_end Hnot.out, if_pos hd])
        clear hd
        go_wp2_with fail
        go_ret
        have hn : on = (outI v l).length := by
          rcases HO.out.2 with ⟨e, h0⟩ | ⟨_, _, _, e, _⟩
          · simp only [Value.slice.injEq] at e; omega
          · simp only [Value.slice.injEq] at e; exact e.2.1
        subst hn
        obtain ⟨h1, h2, h3⟩ := ints_of_own2 HO.out (outI_i64 Hv.out Hli.out)
        rw [HV.out]
        exact ⟨⟨_, _, rfl, h1, h2, h3⟩, Hhw.out⟩
      | false =>
        have HV := Lib.hid (show insI v l = outI v l ++ [v] by rw [outI_end Hnot.out, if_neg (by simp [hd])])
        clear hd
        go_wp2_with (with_reducible refine stop_app ?_)
        refine Stop.mk ?_
        refine wpList_appI rfl rfl rfl rfl (Blk.new' rfl) (oR_below HO.out (balloc _ _)) (bstep Hhw.out (balloc _ _)) (Nat.le_trans Hol.out (by omega)) ?_
        intro ra rc w4 hown4 hb4
        have hl2 : (outI v l).length + 1 = (outI v l ++ [v]).length := by rw [List.length_append, List.length_singleton]
        obtain ⟨ol, hol⟩ : ∃ ol, ol = outI v l ++ [v] := ⟨_, rfl⟩
        rw [hl2] at hown4 ⊢
        rw [← hol] at hown4 HV ⊢
        have Hol3 := Lib.hid hol
        clear hl2 hol
        have Hhown4 := Lib.hid hown4
        have Hhb4 := Lib.hid hb4
        clear hown4 hb4
        go_wp2_with fail
        go_ret
        obtain ⟨h1, h2, h3⟩ := ints_of_own2 Hhown4.out (fun x hx => by
          rw [Hol3.out] at hx
          rcases List.mem_append.1 hx with h | h
          · exact outI_i64 Hv.out Hli.out x h
          · simp at h; rw [h]; exact Hv.out)
        rw [HV.out]
        exact ⟨⟨_, _, rfl, h1, h2, h3⟩, Hhb4.out⟩

end Go.Proofs.Ytjkpecjlpgcalaa

/- The walks through the document's variables of a term: Join, Vars. -/
namespace Go.Proofs.Ytjkpecjlpgcalaa
open Go.RowKit Go.Sort Go

theorem sizeL_append : ∀ l q : List T, T.sizeL (l ++ q) = T.sizeL l + T.sizeL q
  | [], q => by simp [T.sizeL]
  | t :: r, q => by rw [List.cons_append, T.sizeL, T.sizeL, sizeL_append r q]; omega





set_option maxHeartbeats 4000000 in
theorem join_any : ∀ (t : T) (l : List Int) (w : World) (a : Option Addr) (c : Nat) (v : Value), l.length ≤ c → c ≤ maxLen → l.length + t.size ≤ 4294967290 → IsInts w l a → IsT w t v →
    Calls Try.prog 35 #[.slice a l.length c, v] w fun e w' => (∃ a' c', e = .returned (.slice a' (T.joinI l t).length c') ∧ (T.joinI l t).length ≤ c' ∧ c' ≤ maxLen ∧ IsInts w' (T.joinI l t) a') ∧ Below w.heap.size w w' := by
  intro t
  induction t using T.ind with
  | h f ar ih =>
    intro l w a c v hc hm hmax hi hv
    obtain ⟨hf, at_, ct, rfl, hct, hctm, hl⟩ := hv
    have hsz := T.size_eq (T.mk f ar)
    simp only [T.args_mk] at hsz
    unfold maxLen at hctm
    have Hc := Lib.hid (And.intro hc (And.intro hm hi))
    have hm' := hm
    unfold maxLen at hm'
    by_cases hneg : f < 0
    · obtain ⟨n, rfl⟩ : ∃ n : Nat, f = -1 - n := ⟨(-1 - f).toNat, by omega⟩
      have hn : (-1 - (-1 - (n : Int))) = n := by omega
      have hI : I64 (n : Int) := ⟨by omega, by have := hf.1; omega⟩
      have hw64 := Lib.hid (show wrap64 (n : Int) = n from wrap64_id hI)
      have Hif := Lib.hid (show (if (-1 - (n : Int)) < 0 then insI (-1 - (-1 - (n : Int))) l else l) = insI (n : Int) l by rw [if_pos (by omega), hn])
      have Hmax0 := Lib.hid (show (insI (n : Int) l).length + T.sizeL ar ≤ 4294967290 by have := (insI_le n l).1; omega)
      have IN := fun (W : World) (h : IsInts W l a) => insert_any l n W a c hc hm (by omega) h hI
      obtain ⟨l0, hl0⟩ : ∃ l0, l0 = insI (n : Int) l := ⟨_, rfl⟩
      rw [← hl0] at IN Hif Hmax0
      clear hc hm hi hmax hsz hI hl0
      go_enter Try.func35, Try.ntmps35
      go_wp2_with fail
      rw [hw64.out]
      refine (IN _ (Hc.out.2.2.below (balloc _ _))).mono ?_
      rintro e w1 ⟨⟨a2, c2, rfl, h1, h2, h3⟩, hb1⟩
      obtain ⟨B1, hw1⟩ := box1 hb1
      have HI := Lib.hid (And.intro h1 (And.intro h2 h3))
      have HB1 := Lib.hid B1
      have Hhw1 := Lib.hid hw1
      clear B1 hw1
      clear IN hb1 h1 h2 h3
      go_wp2_with fail
      go_loopw [0, 5] (fun lv iv wr => ∃ (k : Nat) (l' : List Int) (a' : Option Addr) (c' : Nat), k ≤ ar.length ∧ iv = .int .i64 k ∧ lv = .slice a' l'.length c' ∧ Hid (l' = T.joinL (l0) (ar.take k)) ∧ Hid (l'.length ≤ c' ∧ c' ≤ maxLen ∧ IsInts wr l' a') ∧ Below w.heap.size w wr ∧ Box wr w.heap.size [.int .i64 (-1 - n), .slice at_ ar.length ct]) (fun _ iv _ => ar.length - (intOf iv).toNat)
      case atStart => exact ⟨0, l0, a2, c2, Nat.zero_le _, rfl, rfl, (show l0 = T.joinL (l0) (ar.take 0) by rw [List.take_zero, T.joinL]), HI.out, Hhw1.out, HB1.out⟩
      case round =>
        clear HI Hhw1 HB1
        obtain ⟨k, l', a', c', hk, rfl, rfl, Hl', HI, hw, hB⟩ := hrel
        obtain ⟨k0, k1⟩ := hB.two
        have Hsz := Lib.hid (show l'.length + T.sizeL (ar.drop k) ≤ 4294967290 by
          have h1 := T.joinL_le (ar.take k) (l0)
          have h2 : T.sizeL (ar.take k) + T.sizeL (ar.drop k) = T.sizeL ar := by rw [← sizeL_append, List.take_append_drop]
          rw [Hl'.out]
          have := Hmax0.out
          omega)
        by_cases hlt : k < ar.length
        · obtain ⟨bt, ot, a1, c1, rfl, g0, g1, gt⟩ := hl.at_ hw k hlt
          have Hgt := Lib.hid gt
          have hd : ar.drop k = ar[k] :: ar.drop (k + 1) := List.drop_eq_getElem_cons hlt
          have hs2 : l'.length + ar[k].size ≤ 4294967290 := by have := Hsz.out; rw [hd, T.sizeL] at this; omega
          have RC := ih ar[k] (List.getElem_mem hlt) l' wr a' c' _ HI.out.1 HI.out.2.1 hs2 HI.out.2.2 gt
          have z0 : (0 : Int) ≤ (k : Int) := by omega
          have z1 : (k : Int) < (ar.length : Int) := by omega
          have hct := HI.out.2.1
          unfold maxLen at hct
          have Hhw := Lib.hid hw
          have HhB := Lib.hid hB
          clear hw hB
          clear gt hd hs2 Hgt ih
          go_wp2_with fail
          refine RC.mono ?_
          rintro e w2 ⟨⟨a2, c2, rfl, h1, h2, h3⟩, hb2⟩
          have HI2 := Lib.hid (And.intro h1 (And.intro h2 h3))
          have Hw2 := Lib.hid (bstep Hhw.out hb2)
          have HB2 := Lib.hid (HhB.out.below hb2)
          clear RC hb2 h1 h2 h3 Hhw HhB
          go_wp2_with fail
          go_roundw
          case rel => exact ⟨k + 1, _, a2, c2, by omega, by go_num, rfl, (by rw [List.take_succ_eq_append_getElem hlt, T.joinL_append, ← Hl'.out]; show _ = _; simp only [T.joinL]), HI2.out, Hw2.out, HB2.out⟩
          case measure => simp [intOf]; omega
        · have HV := Lib.hid (show T.joinI l (.mk (-1 - n) ar) = l' by rw [T.joinI, Hif.out, Hl'.out, List.take_of_length_le (by omega)])
          go_wp2_with fail
          go_ret
          rw [HV.out]
          exact ⟨⟨a', c', rfl, HI.out⟩, hw⟩
    · have Hif := Lib.hid (show (if f < 0 then insI (-1 - f) l else l) = l by rw [if_neg hneg])
      have Hmax0 := Lib.hid (show l.length + T.sizeL ar ≤ 4294967290 by omega)
      clear hc hm hi hmax hsz
      go_enter Try.func35, Try.ntmps35
      go_wp2_with fail
      go_loopw [0, 5] (fun lv iv wr => ∃ (k : Nat) (l' : List Int) (a' : Option Addr) (c' : Nat), k ≤ ar.length ∧ iv = .int .i64 k ∧ lv = .slice a' l'.length c' ∧ Hid (l' = T.joinL (l) (ar.take k)) ∧ Hid (l'.length ≤ c' ∧ c' ≤ maxLen ∧ IsInts wr l' a') ∧ Below w.heap.size w wr ∧ Box wr w.heap.size [.int .i64 (f), .slice at_ ar.length ct]) (fun _ iv _ => ar.length - (intOf iv).toNat)
      case atStart => exact ⟨0, l, a, c, Nat.zero_le _, rfl, rfl, (show l = T.joinL l (ar.take 0) by rw [List.take_zero, T.joinL]), ⟨Hc.out.1, Hc.out.2.1, Hc.out.2.2.below (balloc _ _)⟩, balloc _ _, Box.new _ _ _⟩
      case round =>
        obtain ⟨k, l', a', c', hk, rfl, rfl, Hl', HI, hw, hB⟩ := hrel
        obtain ⟨k0, k1⟩ := hB.two
        have Hsz := Lib.hid (show l'.length + T.sizeL (ar.drop k) ≤ 4294967290 by
          have h1 := T.joinL_le (ar.take k) (l)
          have h2 : T.sizeL (ar.take k) + T.sizeL (ar.drop k) = T.sizeL ar := by rw [← sizeL_append, List.take_append_drop]
          rw [Hl'.out]
          have := Hmax0.out
          omega)
        by_cases hlt : k < ar.length
        · obtain ⟨bt, ot, a1, c1, rfl, g0, g1, gt⟩ := hl.at_ hw k hlt
          have Hgt := Lib.hid gt
          have hd : ar.drop k = ar[k] :: ar.drop (k + 1) := List.drop_eq_getElem_cons hlt
          have hs2 : l'.length + ar[k].size ≤ 4294967290 := by have := Hsz.out; rw [hd, T.sizeL] at this; omega
          have RC := ih ar[k] (List.getElem_mem hlt) l' wr a' c' _ HI.out.1 HI.out.2.1 hs2 HI.out.2.2 gt
          have z0 : (0 : Int) ≤ (k : Int) := by omega
          have z1 : (k : Int) < (ar.length : Int) := by omega
          have hct := HI.out.2.1
          unfold maxLen at hct
          have Hhw := Lib.hid hw
          have HhB := Lib.hid hB
          clear hw hB
          clear gt hd hs2 Hgt ih
          go_wp2_with fail
          refine RC.mono ?_
          rintro e w2 ⟨⟨a2, c2, rfl, h1, h2, h3⟩, hb2⟩
          have HI2 := Lib.hid (And.intro h1 (And.intro h2 h3))
          have Hw2 := Lib.hid (bstep Hhw.out hb2)
          have HB2 := Lib.hid (HhB.out.below hb2)
          clear RC hb2 h1 h2 h3 Hhw HhB
          go_wp2_with fail
          go_roundw
          case rel => exact ⟨k + 1, _, a2, c2, by omega, by go_num, rfl, (by rw [List.take_succ_eq_append_getElem hlt, T.joinL_append, ← Hl'.out]; show _ = _; simp only [T.joinL]), HI2.out, Hw2.out, HB2.out⟩
          case measure => simp [intOf]; omega
        · have HV := Lib.hid (show T.joinI l (.mk (f) ar) = l' by rw [T.joinI, Hif.out, Hl'.out, List.take_of_length_le (by omega)])
          go_wp2_with fail
          go_ret
          rw [HV.out]
          exact ⟨⟨a', c', rfl, HI.out⟩, hw⟩

theorem vars_any (t : T) (w : World) (v : Value) (hz : t.size ≤ 4294967290) (hv : IsT w t v) :
    Calls Try.prog 20 #[v] w fun e w' => (∃ a' c', e = .returned (.slice a' (T.joinI [] t).length c')) ∧ Below w.heap.size w w' := by
  have J := fun (W : World) (h : IsT W t v) => join_any t [] W none 0 v (Nat.le_refl _) (by unfold maxLen; omega) (by simpa using hz) (fun k hk => by simp at hk) h
  have Hv := Lib.hid hv
  obtain ⟨_, a1, c1, rfl, _, _, _⟩ := hv.form
  clear hv
  go_enter Try.func20, Try.ntmps20
  go_wp2_with fail
  refine (J _ (Hv.out.below (balloc _ _))).mono ?_
  rintro e w1 ⟨⟨a2, c2, rfl, _, _, _⟩, hb1⟩
  go_wp2_with fail
  go_ret
  exact ⟨⟨a2, c2, rfl⟩, bcall hb1⟩

end Go.Proofs.Ytjkpecjlpgcalaa
