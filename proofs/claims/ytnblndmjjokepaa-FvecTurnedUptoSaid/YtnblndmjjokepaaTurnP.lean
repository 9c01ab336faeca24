/- Variables moved, sides turned, literals in another order: features stay. Plain. -/
import Derived.Test.YtnblndmjjokepaaFvFeat
namespace Go.Proofs.Ytnblndmjjokepaa
open Go.RowKit Go
set_option linter.unusedVariables false
set_option linter.unusedSimpArgs false

def mvOk (v m : Int) : Bool := if 0 ≤ m then decide (m ≤ 2147483647) && decide (v ≤ 2147483647 - m) else decide (0 ≤ v + m) && decide (v + m ≤ 2147483647)
def mvTo (v m : Int) : Int := if mvOk v m then v + m else v
def mvF (f m : Int) : Int := if f < 0 then -1 - mvTo (-1 - f) m else f
mutual
def T.mv (m : Int) : T → T
  | .mk f l => .mk (mvF f m) (T.mvL m l)
def T.mvL (m : Int) : List T → List T
  | [] => []
  | t :: r => t.mv m :: T.mvL m r
end
theorem T.mvL_eq (m : Int) : ∀ l : List T, T.mvL m l = l.map (T.mv m)
  | [] => rfl
  | t :: r => by rw [T.mvL, T.mvL_eq m r]; rfl
theorem mv_mk (m f : Int) (l : List T) : (T.mk f l).mv m = .mk (mvF f m) (l.map (T.mv m)) := by rw [T.mv, T.mvL_eq]
theorem take_mv {m : Int} {l : List T} {k : Nat} (h : k < l.length) : (l.take k).map (T.mv m) ++ [(tget l k).mv m] = (l.take (k + 1)).map (T.mv m) := by
  rw [List.take_succ_eq_append_getElem h, List.map_append, tget_lt h]; rfl
theorem mvOk_iff {v m : Int} : mvOk v m = true ↔ (0 ≤ m ∧ m ≤ 2147483647 ∧ v ≤ 2147483647 - m) ∨ (m < 0 ∧ 0 ≤ v + m ∧ v + m ≤ 2147483647) := by
  unfold mvOk
  split <;> simp <;> omega
theorem mvTo_range {v m : Int} (h0 : 0 ≤ v) (h1 : v ≤ 9223372036854775807) : 0 ≤ mvTo v m ∧ mvTo v m ≤ 9223372036854775807 := by
  unfold mvTo
  split
  · have := mvOk_iff.1 ‹_›; omega
  · omega
theorem mvF_i64 {f m : Int} (h : I64 f) : I64 (mvF f m) := by
  unfold I64 at *
  unfold mvF
  split
  · have := mvTo_range (v := -1 - f) (m := m) (by omega) (by omega); omega
  · exact h
theorem mvF_neg {f m : Int} (h : f < 0) : mvF f m = -1 - mvTo (-1 - f) m := by unfold mvF; rw [if_pos h]
theorem mvF_pos {f m : Int} (h : ¬ f < 0) : mvF f m = f := by unfold mvF; rw [if_neg h]
theorem mvTo_yes {v m : Int} (h : mvOk v m = true) : mvTo v m = v + m := by unfold mvTo; rw [if_pos h]
theorem mvTo_no {v m : Int} (h : ¬ mvOk v m = true) : mvTo v m = v := by unfold mvTo; rw [if_neg h]
theorem mvTo_nonneg {v m : Int} (h : 0 ≤ v) : 0 ≤ mvTo v m := by
  unfold mvTo
  split
  · have := mvOk_iff.1 ‹_›; omega
  · exact h
theorem mvF_lt {f m : Int} (h : f < 0) : mvF f m < 0 := by
  rw [mvF_neg h]
  have := mvTo_nonneg (v := -1 - f) (m := m) (by omega)
  omega
mutual
theorem T.pl_mv (m : Int) : ∀ (t : T) (d : Nat), (t.mv m).pl d = t.pl d
  | .mk f l, d => by
    rw [T.mv, T.pl, T.pl, T.plL_mv m l (d + 1)]
    congr 1
    by_cases h : f < 0
    · rw [if_neg (by have := mvF_lt (m := m) h; omega), if_neg (by omega)]
    · rw [mvF_pos h]
theorem T.plL_mv (m : Int) : ∀ (l : List T) (d : Nat), T.plL (T.mvL m l) d = T.plL l d
  | [], d => rfl
  | a :: r, d => by rw [T.mvL, T.plL, T.plL, T.pl_mv m a d, T.plL_mv m r d]
end
mutual
theorem T.size_mv (m : Int) : ∀ t : T, (t.mv m).size = t.size
  | .mk f l => by rw [T.mv, T.size, T.size, T.sizeL_mv m l]
theorem T.sizeL_mv (m : Int) : ∀ l : List T, T.sizeL (T.mvL m l) = T.sizeL l
  | [] => rfl
  | a :: r => by rw [T.mvL, T.sizeL, T.sizeL, T.size_mv m a, T.sizeL_mv m r]
end
theorem T.isTrue_mv (m : Int) (t : T) : (t.mv m).isTrue = t.isTrue := by
  cases t with
  | mk f l =>
    rw [mv_mk, Bool.eq_iff_iff, T.isTrue_iff, T.isTrue_iff]
    simp only [T.f_mk, T.args_mk, List.length_map]
    by_cases h : f < 0
    · have := mvF_lt (m := m) h
      constructor <;> intro q <;> omega
    · rw [mvF_pos h]
theorem sof_mv (m : Int) (t : T) : sof (t.mv m) = sof t := by
  funext f
  unfold sof
  rw [T.isTrue_mv, ← T.cnt_pl f (t.mv m) 0, T.pl_mv, T.cnt_pl]
theorem sde_mv (m : Int) (t : T) : sde (t.mv m) = sde t := by
  funext f
  unfold sde
  rw [T.isTrue_mv, ← T.mx_pl f (t.mv m) 1, T.pl_mv, T.mx_pl]
/-- What a literal adds, whatever is there. -/
def litA (n : Nat) (g : Nat → Int) (x : Li) : Nat → Int := adds n x.way (fun f => sof x.l f + sof x.r f) (fun f => max (sde x.l f) (sde x.r f)) (gset g x.way (g x.way + 1))
theorem litA_nonneg {n : Nat} {x : Li} {g : Nat → Int} (h0 : ∀ k, 0 ≤ g k) : ∀ k, 0 ≤ litA n g x k := adds_nonneg (inc_nonneg h0)
theorem feat_litA {n : Nat} : ∀ (c : List Li) (g : Nat → Int), (∀ k, 0 ≤ g k) → c.foldl (litP n) g = c.foldl (litA n) g
  | [], g, _ => rfl
  | x :: r, g, h => by
    rw [List.foldl_cons, List.foldl_cons, litP_adds h]
    exact feat_litA r _ (litA_nonneg h)
theorem litA_comm {n : Nat} (g : Nat → Int) (x y : Li) : litA n (litA n g x) y = litA n (litA n g y) x := by
  have hx := x.way_le
  have hy := y.way_le
  have key : ∀ (x y : Li) (k : Nat), litA n (litA n g x) y k = if k < 2 then g k + (if k = x.way then 1 else 0) + (if k = y.way then 1 else 0) else if n ≤ (k - 2) / 4 then g k else
      if (k - 2) % 4 = 0 ∨ (k - 2) % 4 = 2 then g k + (if (k - 2) % 4 = 2 * x.way then (sof x.l ((k - 2) / 4) + sof x.r ((k - 2) / 4) : Nat) else 0 : Nat) + (if (k - 2) % 4 = 2 * y.way then (sof y.l ((k - 2) / 4) + sof y.r ((k - 2) / 4) : Nat) else 0 : Nat)
      else max (max (g k) (if (k - 2) % 4 = 2 * x.way + 1 then (max (sde x.l ((k - 2) / 4)) (sde x.r ((k - 2) / 4)) : Nat) else g k)) (if (k - 2) % 4 = 2 * y.way + 1 then (max (sde y.l ((k - 2) / 4)) (sde y.r ((k - 2) / 4)) : Nat) else g k) := by
    intro x y k
    have hx := x.way_le
    have hy := y.way_le
    unfold litA adds gset
    dsimp only
    by_cases h2 : k < 2
    · simp only [h2, true_or, if_true]
      by_cases e1 : k = x.way
      · by_cases e2 : k = y.way
        · have e3 : x.way = y.way := e1.symm.trans e2
          simp only [e3, e2, if_true]
          have : y.way < 2 := by omega
          simp [this]
        · rw [if_neg e2, if_pos e1, if_pos e1, if_neg e2]; rw [e1]; omega
      · rw [if_neg e1]
        by_cases e2 : k = y.way
        · rw [if_pos e2, if_pos e2]
          have e3 : ¬ y.way = x.way := by omega
          have : y.way < 2 := by omega
          simp only [this, true_or, if_true, e3, if_false]
          rw [e2]; omega
        · rw [if_neg e2, if_neg e2, if_neg e1]; omega
    · have ek1 : ¬ k = x.way := by omega
      have ek2 : ¬ k = y.way := by omega
      simp only [h2, false_or, if_false, ek1, ek2]
      by_cases h3 : n ≤ (k - 2) / 4
      · simp only [h3, if_true]
      · simp only [h3, if_false]
        by_cases h4 : (k - 2) % 4 = 0 ∨ (k - 2) % 4 = 2
        · rw [if_pos h4]
          have n1 : ¬ (k - 2) % 4 = 2 * x.way + 1 := by omega
          have n2 : ¬ (k - 2) % 4 = 2 * y.way + 1 := by omega
          simp only [n1, n2, if_false]
          by_cases e1 : (k - 2) % 4 = 2 * x.way
          · by_cases e2 : (k - 2) % 4 = 2 * y.way
            · rw [if_pos e2, if_pos e1, if_pos e1, if_pos e2]
            · rw [if_neg e2, if_pos e1, if_pos e1, if_neg e2]; simp
          · by_cases e2 : (k - 2) % 4 = 2 * y.way
            · rw [if_pos e2, if_neg e1, if_neg e1, if_pos e2]; simp
            · rw [if_neg e2, if_neg e1, if_neg e1, if_neg e2]; simp
        · rw [if_neg h4]
          have n1 : ¬ (k - 2) % 4 = 2 * x.way := by omega
          have n2 : ¬ (k - 2) % 4 = 2 * y.way := by omega
          simp only [n1, n2, if_false]
          by_cases e1 : (k - 2) % 4 = 2 * x.way + 1
          · by_cases e2 : (k - 2) % 4 = 2 * y.way + 1
            · rw [if_pos e2, if_pos e1, if_pos e1, if_pos e2]
            · rw [if_neg e2, if_pos e1, if_pos e1, if_neg e2]; omega
          · by_cases e2 : (k - 2) % 4 = 2 * y.way + 1
            · rw [if_pos e2, if_neg e1, if_neg e1, if_pos e2]; omega
            · rw [if_neg e2, if_neg e1, if_neg e1, if_neg e2]; omega
  funext k
  rw [key x y k, key y x k]
  split
  · omega
  · split
    · rfl
    · split
      · omega
      · split <;> split <;> omega
theorem featP_perm {n : Nat} {c d : List Li} (h : c.Perm d) : featP n c = featP n d := by
  unfold featP
  rw [feat_litA c _ (fun _ => Int.le_refl _), feat_litA d _ (fun _ => Int.le_refl _)]
  exact h.foldl_eq' (fun x _ y _ g => litA_comm g x y) _
/-- A literal turned, its variables moved. -/
def turnLi (m : Int) (b : Bool) (x : Li) : Li := if b = true then ⟨x.neg, x.r.mv m, x.l.mv m⟩ else ⟨x.neg, x.l.mv m, x.r.mv m⟩
theorem litA_turn {n : Nat} {m : Int} {b : Bool} {x : Li} {g : Nat → Int} : litA n g (turnLi m b x) = litA n g x := by
  unfold litA turnLi
  split
  · show adds n x.way _ _ (gset g x.way (g x.way + 1)) = _
    congr 1
    · funext f; simp only [sof_mv]; omega
    · funext f; simp only [sde_mv]; omega
  · show adds n x.way _ _ (gset g x.way (g x.way + 1)) = _
    simp only [sof_mv, sde_mv]
theorem featP_map {n : Nat} {f : Li → Li} (h : ∀ x g, litA n g (f x) = litA n g x) (c : List Li) : featP n (c.map f) = featP n c := by
  unfold featP
  rw [feat_litA _ _ (fun _ => Int.le_refl _), feat_litA _ _ (fun _ => Int.le_refl _), List.foldl_map]
  congr 1
  funext g x; exact h x g
/-- The clause that the law makes. -/
def rotI (l : List Li) (r i : Nat) : Li := lget l ((i + r) % l.length)
def turnT (l : List Li) (i : Nat) (x : Li) : Bool := decide (i % 2 = 1) && !x.r.isTrue && !x.l.isTrue
def turnC (m : Int) (l : List Li) (r : Nat) (k : Nat) : List Li := (List.range k).map fun i => turnLi m (turnT l i (rotI l r i)) (rotI l r i)
theorem turnC_succ {m : Int} {l : List Li} {r k : Nat} : turnC m l r (k + 1) = turnC m l r k ++ [turnLi m (turnT l k (rotI l r k)) (rotI l r k)] := by
  unfold turnC; rw [List.range_succ, List.map_append]; rfl
theorem rot_perm {l : List Li} {r : Nat} (hr : r < l.length) : ((List.range l.length).map (rotI l r)).Perm l := by
  have e : (List.range l.length).map (rotI l r) = l.drop r ++ l.take r := by
    apply List.ext_getElem
    · simp; omega
    · intro i h1 h2
      simp at h1
      simp only [List.getElem_map, List.getElem_range]
      unfold rotI
      rw [lget_lt (Nat.mod_lt _ (by omega)), List.getElem_append]
      split
      · rename_i h3
        simp at h3
        simp only [List.getElem_drop]
        congr 1
        rw [Nat.mod_eq_of_lt (by omega)]; omega
      · rename_i h3
        simp at h3
        simp only [List.getElem_take, List.length_drop]
        congr 1
        rw [show i + r = (i - (l.length - r)) + l.length by omega, Nat.add_mod_right, Nat.mod_eq_of_lt (by omega)]
  rw [e]
  exact List.perm_append_comm.trans (by rw [List.take_append_drop])
theorem featP_turn {n : Nat} {m : Int} {l : List Li} {r : Nat} (hr : r < l.length) : featP n (turnC m l r l.length) = featP n l := by
  have h1 : featP n (turnC m l r l.length) = featP n ((List.range l.length).map (rotI l r)) := by
    unfold featP turnC
    rw [feat_litA _ _ (fun _ => Int.le_refl _), feat_litA _ _ (fun _ => Int.le_refl _), List.foldl_map, List.foldl_map]
    congr 1
    funext g i
    exact litA_turn
  rw [h1]
  exact featP_perm (rot_perm hr)
theorem featsI_turn {n m : Int} {l : List Li} {r : Nat} (hr : r < l.length) : featsI n (turnC m l r l.length) = featsI n l := by
  unfold featsI; rw [featP_turn hr]
theorem turnC_len {m : Int} {l : List Li} {r k : Nat} : (turnC m l r k).length = k := by simp [turnC]
theorem turnC_size {m : Int} {l : List Li} {r k N : Nat} (hl : 0 < l.length) (h : ∀ x ∈ l, x.l.size ≤ N ∧ x.r.size ≤ N) : ∀ x ∈ turnC m l r k, x.l.size ≤ N ∧ x.r.size ≤ N := by
  intro x hx
  unfold turnC at hx
  obtain ⟨i, _, rfl⟩ := List.mem_map.1 hx
  have := h (rotI l r i) (by unfold rotI; exact lget_mem (Nat.mod_lt _ hl))
  unfold turnLi
  split <;> simp only [T.size_mv] <;> omega
end Go.Proofs.Ytnblndmjjokepaa
