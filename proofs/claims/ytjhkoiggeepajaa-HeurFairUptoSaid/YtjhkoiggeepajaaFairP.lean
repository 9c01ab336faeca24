/- With a queue that goes by age nobody waits for ever: by how many it is told at the latest. Plain. -/
import Derived.Test.YtjhkoiggeepajaaRoomP
namespace Go.Proofs.Ytjhkoiggeepajaa
open Go.RowKit Go
set_option linter.unusedVariables false
set_option linter.unusedSimpArgs false

def sumT (q : List Qu) : Nat → Int
  | 0 => 0
  | i + 1 => sumT q i + (qget q i).take
def TakeOk (q : List Qu) : Prop := ∀ k, k < q.length → 1 ≤ (qget q k).take ∧ (qget q k).take ≤ 1000
theorem sumT_le {q : List Qu} (h : TakeOk q) {i : Nat} : ∀ {j : Nat}, i ≤ j → j ≤ q.length → sumT q i ≤ sumT q j
  | 0, h1, _ => by obtain rfl : i = 0 := by omega
                   exact Int.le_refl _
  | j + 1, h1, h2 => by
    by_cases e : i = j + 1
    · rw [e]; exact Int.le_refl _
    · have := sumT_le h (i := i) (j := j) (by omega) (by omega)
      have := (h j (by omega)).1
      rw [sumT]; omega
theorem sumT_bd {q : List Qu} (h : TakeOk q) : ∀ {i : Nat}, i ≤ q.length → 0 ≤ sumT q i ∧ sumT q i ≤ (i : Int) * 1000
  | 0, _ => by simp [sumT]
  | i + 1, hi => by
    have := sumT_bd h (i := i) (by omega)
    have := h i (by omega)
    rw [sumT]; omega
/-- How many come ahead of the next turn of the queue 'g'. -/
def dgo (q : List Qu) (g at_ dn : Nat) : Int :=
  if sumT q at_ + dn < sumT q g then sumT q g - (sumT q at_ + dn) else if sumT q at_ + dn < sumT q (g + 1) then 0 else sumT q q.length - (sumT q at_ + dn) + sumT q g
theorem tick_ok {q : List Qu} (h : TakeOk q) {at_ dn : Nat} (hat : at_ < q.length) (hdn : (dn : Int) < (qget q at_).take) : (tick q at_ dn).1 < q.length ∧ ((tick q at_ dn).2 : Int) < (qget q (tick q at_ dn).1).take ∧
    ((sumT q (tick q at_ dn).1 + (tick q at_ dn).2 = sumT q at_ + dn + 1) ∨ (sumT q (tick q at_ dn).1 + (tick q at_ dn).2 = 0 ∧ sumT q at_ + dn + 1 = sumT q q.length)) := by
  unfold tick
  split
  · rename_i h1
    have hm := Nat.mod_lt (at_ + 1) (show 0 < q.length by omega)
    refine ⟨hm, ?_, ?_⟩
    · have := (h _ hm).1
      show ((0 : Nat) : Int) < (qget q ((at_ + 1) % q.length)).take
      omega
    · by_cases e : at_ + 1 = q.length
      · right
        have e2 : (at_ + 1) % q.length = 0 := by rw [e, Nat.mod_self]
        show sumT q ((at_ + 1) % q.length) + ((0 : Nat) : Int) = 0 ∧ _
        rw [e2, ← e, sumT, sumT]; omega
      · left
        have e2 : (at_ + 1) % q.length = at_ + 1 := Nat.mod_eq_of_lt (by omega)
        show sumT q ((at_ + 1) % q.length) + ((0 : Nat) : Int) = _
        rw [e2, sumT]; omega
  · rename_i h1
    refine ⟨hat, ?_, .inl ?_⟩
    · show ((dn + 1 : Nat) : Int) < (qget q at_).take
      omega
    · show sumT q at_ + ((dn + 1 : Nat) : Int) = _
      omega
theorem dgo_bd {q : List Qu} (h : TakeOk q) {g at_ dn : Nat} (hat : at_ < q.length) (hdn : (dn : Int) < (qget q at_).take) (hg : g < q.length) : 0 ≤ dgo q g at_ dn := by
  have h1 := sumT_le h (i := at_ + 1) (j := q.length) (by omega) (Nat.le_refl _)
  have h2 := (sumT_bd h (i := g) (by omega)).1
  rw [sumT] at h1
  unfold dgo
  split
  · omega
  · split <;> omega
theorem dgo_start {q : List Qu} (h : TakeOk q) {g : Nat} (hg : g < q.length) : dgo q g 0 0 ≤ sumT q q.length - 1 := by
  have h1 := sumT_le h (i := g + 1) (j := q.length) (by omega) (Nat.le_refl _)
  have h2 := (sumT_bd h (i := g) (by omega)).1
  have h3 := (h g hg).1
  rw [sumT] at h1
  unfold dgo
  rw [sumT, sumT]
  split
  · omega
  · split <;> omega
theorem dgo_ne {q : List Qu} (h : TakeOk q) {g at_ dn : Nat} (hat : at_ < q.length) (hdn : (dn : Int) < (qget q at_).take) (hg : g < q.length) (hne : at_ ≠ g) : dgo q g (tick q at_ dn).1 (tick q at_ dn).2 + 1 ≤ dgo q g at_ dn := by
  obtain ⟨_, _, h3⟩ := tick_ok h hat hdn
  have a1 := sumT_le h (i := at_ + 1) (j := q.length) (by omega) (Nat.le_refl _)
  have a2 := sumT_le h (i := g + 1) (j := q.length) (by omega) (Nat.le_refl _)
  have a3 := (sumT_bd h (i := g) (by omega)).1
  have a4 := (sumT_bd h (i := at_) (by omega)).1
  have a5 := (h g hg).1
  have e1 : sumT q (at_ + 1) = sumT q at_ + (qget q at_).take := rfl
  have e2 : sumT q (g + 1) = sumT q g + (qget q g).take := rfl
  unfold dgo
  rcases Nat.lt_or_gt_of_ne hne with hl | hl
  · have b1 := sumT_le h (i := at_ + 1) (j := g) hl (by omega)
    rcases h3 with h3 | ⟨h3, h4⟩
    · rw [h3]
      repeat' split
      all_goals omega
    · rw [h3]
      repeat' split
      all_goals omega
  · have b1 := sumT_le h (i := g + 1) (j := at_) hl (by omega)
    rcases h3 with h3 | ⟨h3, h4⟩
    · rw [h3]
      repeat' split
      all_goals omega
    · rw [h3]
      repeat' split
      all_goals omega
theorem dgo_eq {q : List Qu} (h : TakeOk q) {g dn : Nat} (hg : g < q.length) (hdn : (dn : Int) < (qget q g).take) : dgo q g (tick q g dn).1 (tick q g dn).2 ≤ sumT q q.length - 1 := by
  obtain ⟨_, _, h3⟩ := tick_ok h hg hdn
  have a2 := sumT_le h (i := g + 1) (j := q.length) (by omega) (Nat.le_refl _)
  have a3 := (sumT_bd h (i := g) (by omega)).1
  have a5 := (h g hg).1
  have e2 : sumT q (g + 1) = sumT q g + (qget q g).take := rfl
  unfold dgo
  rcases h3 with h3 | ⟨h3, h4⟩
  · rw [h3]
    repeat' split
    all_goals omega
  · rw [h3]
    repeat' split
    all_goals omega
/-- How many wait that came earlier. -/
def cntL (ws : List Wt) (n : Int) : Nat := (ws.filter (fun x => decide (x.id < n))).length
theorem cntL_app (ws : List Wt) (y : Wt) (n : Int) : cntL (ws ++ [y]) n = cntL ws n + (if y.id < n then 1 else 0) := by
  unfold cntL
  rw [List.filter_append, List.length_append]
  congr 1
  by_cases h : y.id < n <;> simp [h]
theorem cntL_le (ws : List Wt) (n : Int) : cntL ws n ≤ ws.length := List.length_filter_le _ _
theorem cntL_drop (ws : List Wt) (m n : Int) : cntL (dropW ws m) n ≤ cntL ws n := by
  unfold cntL dropW
  rw [List.filter_filter]
  induction ws with
  | nil => simp
  | cons x r ih =>
    simp only [List.filter_cons]
    by_cases h1 : x.id < n <;> by_cases h2 : x.id ≠ m <;> simp [h1, h2] <;> first | omega | (simp at ih; omega)
theorem cntL_drop1 {m n : Int} (hmn : m < n) : ∀ {ws : List Wt} {y : Wt}, y ∈ ws → y.id = m → cntL (dropW ws m) n + 1 ≤ cntL ws n
  | [], _, h, _ => absurd h (by simp)
  | x :: r, y, h, e => by
    have h0 := cntL_drop r m n
    unfold cntL dropW at h0 ⊢
    by_cases hx : x.id = m
    · have hxn : x.id < n := by omega
      simp only [List.filter_cons]
      simp [hx, hmn]
      simp at h0; omega
    · have hy : y ∈ r := by
        rcases List.mem_cons.1 h with rfl | h
        · exact absurd e hx
        · exact h
      have ih := cntL_drop1 hmn hy e
      unfold cntL dropW at ih
      simp only [List.filter_cons]
      by_cases h1 : x.id < n <;> simp [hx, h1] <;> simp at ih <;> omega
theorem dropW_len {n : Int} : ∀ {ws : List Wt} {y : Wt}, (ws.map (·.id)).Nodup → y ∈ ws → y.id = n → (dropW ws n).length + 1 = ws.length
  | [], _, _, h, _ => absurd h (by simp)
  | x :: r, y, hn, h, e => by
    rw [List.map_cons, List.nodup_cons] at hn
    by_cases hx : x.id = n
    · have h0 : ∀ z ∈ r, z.id ≠ n := fun z hz q => hn.1 (List.mem_map.2 ⟨z, hz, q.trans hx.symm⟩)
      have : dropW (x :: r) n = r := by
        unfold dropW
        rw [List.filter_cons, if_neg (by simp [hx]), List.filter_eq_self]
        intro z hz; simpa using h0 z hz
      rw [this]; simp
    · have hy : y ∈ r := by
        rcases List.mem_cons.1 h with rfl | h
        · exact absurd e hx
        · exact h
      have ih := dropW_len hn.2 hy e
      have : dropW (x :: r) n = x :: dropW r n := by
        unfold dropW
        rw [List.filter_cons, if_pos (by simpa using hx)]
      rw [this]; simp; omega
/-- Each that waits is told in time. -/
def Fair (q : List Qu) (ws : List Wt) (at_ dn k g : Nat) : Prop := ∀ x ∈ ws, (k : Int) + (cntL ws x.id : Int) * sumT q q.length + dgo q g at_ dn ≤ x.id * sumT q q.length + sumT q q.length - 1
theorem Fair.start {q : List Qu} (h : TakeOk q) {ws : List Wt} {g : Nat} (hg : g < q.length) (hc : ∀ x ∈ ws, (cntL ws x.id : Int) ≤ x.id) : Fair q ws 0 0 0 g := fun x hx => by
  have h1 := dgo_start h hg
  have h2 := (sumT_bd h (Nat.le_refl q.length)).1
  have h3 := Int.mul_le_mul_of_nonneg_right (hc x hx) h2
  simp only [Int.ofNat_zero] at *
  omega
theorem Fair.step {q : List Qu} (h : TakeOk q) {ws : List Wt} {at_ dn k g : Nat} (hf : Fair q ws at_ dn k g) (hw : (ws.map (·.id)).Nodup) (hat : at_ < q.length) (hdn : (dn : Int) < (qget q at_).take) (hg : g < q.length) (hb : (qget q g).by_ = 0) {x0 : Wt} (hx0 : x0 ∈ ws) (hm : ∀ x ∈ ws, (itemOf (qget q at_).by_ x0).le (itemOf (qget q at_).by_ x)) :
    Fair q (dropW ws x0.id) (tick q at_ dn).1 (tick q at_ dn).2 (k + 1) g := fun x hx => by
  obtain ⟨hx1, hx2⟩ := mem_dropW.1 hx
  have h1 := hf x hx1
  have h2 := (sumT_bd h (Nat.le_refl q.length)).1
  by_cases e : at_ = g
  · subst e
    have h3 := dgo_eq h hg hdn
    have h4 := dgo_bd h hat hdn hg
    have hl : x0.id < x.id := by
      have := hm x hx1
      rw [hb] at this
      unfold It.le itemOf weighP at this
      simp at this
      omega
    have h5 := cntL_drop1 hl hx0 rfl
    have h6 : ((cntL (dropW ws x0.id) x.id : Int) + 1) * sumT q q.length ≤ (cntL ws x.id : Int) * sumT q q.length := Int.mul_le_mul_of_nonneg_right (by omega) h2
    rw [Int.add_mul, Int.one_mul] at h6
    push_cast
    omega
  · have h3 := dgo_ne h hat hdn hg e
    have h5 := cntL_drop ws x0.id x.id
    have h6 : (cntL (dropW ws x0.id) x.id : Int) * sumT q q.length ≤ (cntL ws x.id : Int) * sumT q q.length := Int.mul_le_mul_of_nonneg_right (by omega) h2
    push_cast
    omega
theorem Fair.told {q : List Qu} (h : TakeOk q) {ws : List Wt} {at_ dn k g : Nat} (hf : Fair q ws at_ dn k g) (hat : at_ < q.length) (hdn : (dn : Int) < (qget q at_).take) (hg : g < q.length) {x0 : Wt} (hx0 : x0 ∈ ws) : ((k + 1 : Nat) : Int) ≤ (x0.id + 2) * sumT q q.length := by
  have h1 := hf x0 hx0
  have h2 := (sumT_bd h (Nat.le_refl q.length)).1
  have h4 := dgo_bd h hat hdn hg
  have h5 : 0 ≤ (cntL ws x0.id : Int) * sumT q q.length := Int.mul_nonneg (by omega) h2
  rw [Int.add_mul]
  push_cast
  omega
end Go.Proofs.Ytjhkoiggeepajaa
