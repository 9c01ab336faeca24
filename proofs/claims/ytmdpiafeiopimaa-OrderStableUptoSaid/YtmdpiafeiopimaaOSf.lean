/- Scopes (functions with labels) through which the run goes without a goto. -/
import Derived.Test.YtmdpiafeiopimaaOSe
import Derived.Test.YtmdpiafeiopimaaOSa
import Derived.Laws.MakeOwn
import Derived.Scope

/- Multisets by a comparison of their members: what holds of the members' comparison holds of the multisets'. -/
namespace Go.Proofs.Ytmdpiafeiopimaa
/-- A relation turned round. -/
def trn (r : Int) : Int := if r = 1 then 3 else if r = 3 then 1 else r
/-- A comparison (0 none, 1 below, 2 the same, 3 above) that is an order, for those of which P holds. -/
structure GoodC {α : Type} (P : α → Prop) (c : α → α → Int) : Prop where
  refl : ∀ x, P x → c x x = 2
  turn : ∀ x y, P x → P y → c y x = trn (c x y)
  trans : ∀ x y z, P x → P y → P z → c x y = 3 → c y z = 3 → c x z = 3
  same : ∀ x y z, P x → P y → P z → c x y = 2 → c x z = c y z
  rng : ∀ x y, P x → P y → 0 ≤ c x y ∧ c x y ≤ 3
section
variable {α : Type} {P : α → Prop} {c : α → α → Int}
theorem trn_3 {r : Int} : trn r = 3 ↔ r = 1 := by unfold trn; split <;> (try split) <;> omega
theorem GoodC.symm (g : GoodC P c) {x y : α} (hx : P x) (hy : P y) (h : c x y = 2) : c y x = 2 := by rw [g.turn x y hx hy, h]; rfl
theorem GoodC.eq2 (g : GoodC P c) {x y z : α} (hx : P x) (hy : P y) (hz : P z) (h : c x y = 2) : c z x = c z y := by
  rw [g.turn x z hx hz, g.turn y z hy hz, g.same x y z hx hy hz h]
theorem GoodC.irrefl (g : GoodC P c) {x : α} (hx : P x) : c x x ≠ 3 := by rw [g.refl x hx]; decide
/-- How many of a list are the same as x. -/
def cnt (c : α → α → Int) (x : α) (l : List α) : Nat := l.countP (fun y => c x y == 2)
theorem cnt_nil {x : α} : cnt c x [] = 0 := rfl
theorem cnt_cons {x y : α} {l : List α} : cnt c x (y :: l) = cnt c x l + (if c x y = 2 then 1 else 0) := by
  unfold cnt; rw [List.countP_cons]; simp
theorem cnt_append {x : α} {l k : List α} : cnt c x (l ++ k) = cnt c x l + cnt c x k := by unfold cnt; rw [List.countP_append]
theorem cnt_pos {x : α} {l : List α} : 0 < cnt c x l ↔ ∃ y ∈ l, c x y = 2 := by unfold cnt; rw [List.countP_pos_iff]; simp
theorem cnt_perm {x : α} {l k : List α} (h : l.Perm k) : cnt c x l = cnt c x k := h.countP_eq _
theorem cnt_same (g : GoodC P c) {x y : α} (hx : P x) (hy : P y) (h : c x y = 2) : ∀ {l : List α}, (∀ z ∈ l, P z) → cnt c x l = cnt c y l
  | [], _ => rfl
  | z :: l, hl => by rw [cnt_cons, cnt_cons, cnt_same g hx hy h (fun q hq => hl q (List.mem_cons_of_mem _ hq)), g.same x y z hx hy (hl z List.mem_cons_self) h]
theorem cnt_erase {x : α} : ∀ {l : List α} {j : Nat} (hj : j < l.length), cnt c x l = cnt c x (l.eraseIdx j) + (if c x l[j] = 2 then 1 else 0)
  | y :: l, 0, _ => by rw [cnt_cons]; rfl
  | y :: l, j + 1, hj => by
    rw [cnt_cons, List.eraseIdx_cons_succ, cnt_cons, cnt_erase (by simpa using hj)]; simp only [List.getElem_cons_succ]; omega
theorem multiLR_mem : ∀ {a b : List α}, (∀ x ∈ (multiLR c a b).1, x ∈ a) ∧ (∀ x ∈ (multiLR c a b).2, x ∈ b)
  | [], b => by simp [multiLR]
  | y :: a, b => by
    rw [multiLR]
    cases hs : strikeR c y b with
    | none => have z := @multiLR_mem a b; exact ⟨fun x hx => (List.mem_cons.1 hx).elim (fun e => e ▸ List.mem_cons_self) (fun h => List.mem_cons_of_mem _ (z.1 x h)), z.2⟩
    | some r' =>
      obtain ⟨j, hj, _, _, rfl⟩ := strikeR_some hs
      have z := @multiLR_mem a (b.eraseIdx j)
      exact ⟨fun x hx => List.mem_cons_of_mem _ (z.1 x hx), fun x hx => List.mem_of_mem_eraseIdx (z.2 x hx)⟩
theorem multiLR_cnt (g : GoodC P c) {x : α} (hx : P x) : ∀ {a b : List α}, (∀ z ∈ a, P z) → (∀ z ∈ b, P z) → cnt c x (multiLR c a b).1 = cnt c x a - cnt c x b ∧ cnt c x (multiLR c a b).2 = cnt c x b - cnt c x a
  | [], b, _, _ => by simp [multiLR, cnt_nil]
  | y :: a, b, ha, hb => by
    have hy := ha y List.mem_cons_self
    rw [multiLR]
    cases hs : strikeR c y b with
    | none =>
      have z := multiLR_cnt g hx (a := a) (b := b) (fun q hq => ha q (List.mem_cons_of_mem _ hq)) hb
      dsimp only
      rw [cnt_cons, cnt_cons, z.1, z.2]
      by_cases e : c x y = 2
      · have h0 : ¬ 0 < cnt c x b := fun h => by
          obtain ⟨q, hq, e2⟩ := cnt_pos.1 h
          exact strikeR_none.1 hs q hq (by rw [← g.same x y q hx hy (hb q hq) e]; exact e2)
        rw [if_pos e]; omega
      · rw [if_neg e]; omega
    | some r' =>
      obtain ⟨j, hj, h1, _, rfl⟩ := strikeR_some hs
      have z := multiLR_cnt g hx (a := a) (b := b.eraseIdx j) (fun q hq => ha q (List.mem_cons_of_mem _ hq)) (fun q hq => hb q (List.mem_of_mem_eraseIdx hq))
      dsimp only
      rw [z.1, z.2, cnt_cons, cnt_erase hj, g.eq2 hy (hb _ (List.getElem_mem hj)) hx h1]
      omega
/-- The comparison of multisets, by how often a member stands in them. -/
def HO (P : α → Prop) (c : α → α → Int) (a b : List α) : Prop := (∃ x, P x ∧ cnt c x a ≠ cnt c x b) ∧ ∀ x, P x → cnt c x a < cnt c x b → ∃ y, P y ∧ c y x = 3 ∧ cnt c y b < cnt c y a
def EQm (P : α → Prop) (c : α → α → Int) (a b : List α) : Prop := ∀ x, P x → cnt c x a = cnt c x b
theorem maxel (g : GoodC P c) : ∀ {l : List α}, (∀ x ∈ l, P x) → l ≠ [] → ∃ m ∈ l, ∀ z ∈ l, c z m ≠ 3
  | [], _, h => absurd rfl h
  | [x], hl, _ => ⟨x, List.mem_cons_self, fun z hz => by rw [List.mem_singleton.1 hz]; exact g.irrefl (hl x List.mem_cons_self)⟩
  | x :: y :: l, hl, _ => by
    have hx := hl x List.mem_cons_self
    obtain ⟨m, hm, h⟩ := maxel g (l := y :: l) (fun q hq => hl q (List.mem_cons_of_mem _ hq)) (by simp)
    have hm' := hl m (List.mem_cons_of_mem _ hm)
    by_cases e : c x m = 3
    · refine ⟨x, List.mem_cons_self, fun z hz => ?_⟩
      rcases List.mem_cons.1 hz with rfl | hz
      · exact g.irrefl hx
      · intro e2; exact h z hz (g.trans z x m (hl z (List.mem_cons_of_mem _ hz)) hx hm' e2 e)
    · refine ⟨m, List.mem_cons_of_mem _ hm, fun z hz => ?_⟩
      rcases List.mem_cons.1 hz with rfl | hz
      · exact e
      · exact h z hz
theorem maxel_of (g : GoodC P c) {l : List α} (hl : ∀ x ∈ l, P x) (D : α → Prop) [DecidablePred D] (hne : ∃ x ∈ l, D x) : ∃ m ∈ l, D m ∧ ∀ z ∈ l, D z → c z m ≠ 3 := by
  obtain ⟨x, hx, hd⟩ := hne
  obtain ⟨m, hm, h⟩ := maxel g (l := l.filter (fun y => decide (D y))) (fun y hy => hl y (List.mem_filter.1 hy).1) (fun e => by
    have : x ∈ l.filter (fun y => decide (D y)) := List.mem_filter.2 ⟨hx, by simpa using hd⟩
    rw [e] at this; cases this)
  have z := List.mem_filter.1 hm
  exact ⟨m, z.1, by simpa using z.2, fun q hq hd => h q (List.mem_filter.2 ⟨hq, by simpa using hd⟩)⟩
theorem rep {x : α} {a b : List α} (h : cnt c x a ≠ cnt c x b) : ∃ y ∈ a ++ b, c x y = 2 := by
  have : 0 < cnt c x (a ++ b) := by rw [cnt_append]; omega
  exact cnt_pos.1 this
theorem HO.asymm (g : GoodC P c) {a b : List α} (ha : ∀ z ∈ a, P z) (hb : ∀ z ∈ b, P z) (h : HO P c a b) (k : HO P c b a) : False := by
  have hab : ∀ z ∈ a ++ b, P z := fun z hz => (List.mem_append.1 hz).elim (ha z) (hb z)
  have cs : ∀ {x y : α}, P x → P y → c x y = 2 → cnt c x a = cnt c y a ∧ cnt c x b = cnt c y b := fun hx hy e => ⟨cnt_same g hx hy e ha, cnt_same g hx hy e hb⟩
  obtain ⟨⟨x, hx, hne⟩, h⟩ := h
  obtain ⟨x', hx', e⟩ := rep hne
  have q := cs hx (hab x' hx') e
  obtain ⟨m, hm, hd, hmax⟩ := maxel_of g hab (fun y => cnt c y a ≠ cnt c y b) ⟨x', hx', by rw [← q.1, ← q.2]; exact hne⟩
  have hPm := hab m hm
  have key : ∃ y, P y ∧ c y m = 3 ∧ cnt c y a ≠ cnt c y b := by
    rcases Nat.lt_or_gt_of_ne hd with hl | hl
    · obtain ⟨y, hy, h1, h2⟩ := h m hPm hl; exact ⟨y, hy, h1, by omega⟩
    · obtain ⟨y, hy, h1, h2⟩ := k.2 m hPm hl; exact ⟨y, hy, h1, by omega⟩
  obtain ⟨y, hy, h1, h2⟩ := key
  obtain ⟨y', hy', e2⟩ := rep h2
  have q2 := cs hy (hab y' hy') e2
  exact hmax y' hy' (by rw [← q2.1, ← q2.2]; exact h2) (by rw [← g.same y y' m hy (hab y' hy') hPm e2]; exact h1)
theorem HO.congr {a b a' b' : List α} (h : HO P c a b) (e : EQm P c a a') (e' : EQm P c b b') : HO P c a' b' := by
  obtain ⟨⟨x, hx, h1⟩, h2⟩ := h
  refine ⟨⟨x, hx, by rw [← e x hx, ← e' x hx]; exact h1⟩, fun x hx hl => ?_⟩
  rw [← e x hx, ← e' x hx] at hl
  obtain ⟨y, hy, h3, h4⟩ := h2 x hx hl
  exact ⟨y, hy, h3, by rw [← e y hy, ← e' y hy]; exact h4⟩
theorem EQm.symm {a b : List α} (h : EQm P c a b) : EQm P c b a := fun x hx => (h x hx).symm
theorem EQm.refl (a : List α) : EQm P c a a := fun _ _ => rfl
theorem HO.trans (g : GoodC P c) {a b d : List α} (ha : ∀ z ∈ a, P z) (hb : ∀ z ∈ b, P z) (hd : ∀ z ∈ d, P z) (h : HO P c a b) (k : HO P c b d) : HO P c a d := by
  have hab : ∀ z ∈ a ++ b, P z := fun z hz => (List.mem_append.1 hz).elim (ha z) (hb z)
  refine ⟨?_, fun x hx hl => ?_⟩
  · refine Classical.byContradiction (fun hn => ?_)
    have e : EQm P c a d := fun x hx => Decidable.byContradiction (fun q => hn ⟨x, hx, q⟩)
    exact HO.asymm g ha hb h (k.congr (EQm.refl b) e.symm)
  · have cs : ∀ {x y : α}, P x → P y → c x y = 2 → cnt c x a = cnt c y a ∧ cnt c x b = cnt c y b ∧ cnt c x d = cnt c y d := fun hx hy e => ⟨cnt_same g hx hy e ha, cnt_same g hx hy e hb, cnt_same g hx hy e hd⟩
    -- one of those that are above x and of which there are more in a than in b, or more in b than in d
    have find : ∀ y, P y → c y x = 3 → (cnt c y b < cnt c y a ∨ cnt c y d < cnt c y b) → ∃ y' ∈ a ++ b, c y y' = 2 ∧ c y' x = 3 ∧ (cnt c y' b < cnt c y' a ∨ cnt c y' d < cnt c y' b) := fun y hy h1 h2 => by
      have : 0 < cnt c y (a ++ b) := by rw [cnt_append]; omega
      obtain ⟨y', hy', e⟩ := cnt_pos.1 this
      have q := cs hy (hab y' hy') e
      exact ⟨y', hy', e, by rw [← g.same y y' x hy (hab y' hy') hx e]; exact h1, by rw [← q.1, ← q.2.1, ← q.2.2]; exact h2⟩
    have first : ∃ y, P y ∧ c y x = 3 ∧ (cnt c y b < cnt c y a ∨ cnt c y d < cnt c y b) := by
      by_cases e : cnt c x b < cnt c x d
      · obtain ⟨y, hy, h1, h2⟩ := k.2 x hx e; exact ⟨y, hy, h1, .inr h2⟩
      · obtain ⟨y, hy, h1, h2⟩ := h.2 x hx (by omega); exact ⟨y, hy, h1, .inl h2⟩
    obtain ⟨y, hy, h1, h2⟩ := first
    obtain ⟨y', hy', _, h1', h2'⟩ := find y hy h1 h2
    obtain ⟨m, hm, ⟨hm1, hm2⟩, hmax⟩ := maxel_of g hab (fun y => c y x = 3 ∧ (cnt c y b < cnt c y a ∨ cnt c y d < cnt c y b)) ⟨y', hy', h1', h2'⟩
    have hPm := hab m hm
    refine ⟨m, hPm, hm1, Decidable.byContradiction (fun hn => ?_)⟩
    have up : ∃ z, P z ∧ c z m = 3 ∧ (cnt c z b < cnt c z a ∨ cnt c z d < cnt c z b) := by
      rcases hm2 with q | q
      · obtain ⟨z, hz, q1, q2⟩ := k.2 m hPm (by omega); exact ⟨z, hz, q1, .inr q2⟩
      · obtain ⟨z, hz, q1, q2⟩ := h.2 m hPm (by omega); exact ⟨z, hz, q1, .inl q2⟩
    obtain ⟨z, hz, q1, q2⟩ := up
    obtain ⟨z', hz', e, q3, q4⟩ := find z hz (g.trans z m x hz hPm hx q1 hm1) q2
    exact hmax z' hz' ⟨q3, q4⟩ (by rw [← g.same z z' m hz (hab z' hz') hPm e]; exact q1)
theorem multiLR_nil (g : GoodC P c) {a b : List α} (ha : ∀ z ∈ a, P z) (hb : ∀ z ∈ b, P z) : ((multiLR c a b).1 = [] ∧ (multiLR c a b).2 = []) ↔ EQm P c a b := by
  constructor
  · intro h x hx
    have z := multiLR_cnt g hx ha hb
    rw [h.1, h.2] at z; simp only [cnt_nil] at z; omega
  · intro h
    have aux : ∀ l : List α, (∀ x ∈ l, P x) → (∀ x, P x → cnt c x l = 0) → l = [] := fun l hl h0 => by
      cases l with
      | nil => rfl
      | cons y l => have hy := hl y List.mem_cons_self; have z := h0 y hy; rw [cnt_cons, if_pos (g.refl y hy)] at z; omega
    refine ⟨aux _ (fun x hx => ha x (multiLR_mem.1 x hx)) (fun x hx => ?_), aux _ (fun x hx => hb x (multiLR_mem.2 x hx)) (fun x hx => ?_)⟩
    · rw [(multiLR_cnt g hx ha hb).1, h x hx]; omega
    · rw [(multiLR_cnt g hx ha hb).2, h x hx]; omega
theorem allAb_iff {x y : List α} : allAb c x y = true ↔ ∀ q ∈ y, ∃ p ∈ x, c p q = 3 := by simp [allAb]
theorem allAb_cnt (g : GoodC P c) {a b L R : List α} (hL : ∀ z ∈ L, P z) (hR : ∀ z ∈ R, P z)
    (h1 : ∀ x, P x → cnt c x L = cnt c x a - cnt c x b) (h2 : ∀ x, P x → cnt c x R = cnt c x b - cnt c x a) : (∀ q ∈ R, ∃ p ∈ L, c p q = 3) ↔ ∀ x, P x → cnt c x a < cnt c x b → ∃ y, P y ∧ c y x = 3 ∧ cnt c y b < cnt c y a := by
  constructor
  · intro h x hx hl
    obtain ⟨q, hq, e⟩ := cnt_pos.1 (show 0 < cnt c x R by rw [h2 x hx]; omega)
    obtain ⟨p, hp, e2⟩ := h q hq
    refine ⟨p, hL p hp, by rw [g.eq2 hx (hR q hq) (hL p hp) e]; exact e2, ?_⟩
    have z : 0 < cnt c p L := cnt_pos.2 ⟨p, hp, g.refl p (hL p hp)⟩
    rw [h1 p (hL p hp)] at z; omega
  · intro h q hq
    have z : 0 < cnt c q R := cnt_pos.2 ⟨q, hq, g.refl q (hR q hq)⟩
    rw [h2 q (hR q hq)] at z
    obtain ⟨y, hy, e, hlt⟩ := h q (hR q hq) (by omega)
    obtain ⟨p, hp, e2⟩ := cnt_pos.1 (show 0 < cnt c y L by rw [h1 y hy]; omega)
    exact ⟨p, hp, by rw [← g.same y p q hy (hL p hp) (hR q hq) e2]; exact e⟩
theorem multiP_2 (g : GoodC P c) {a b : List α} (ha : ∀ z ∈ a, P z) (hb : ∀ z ∈ b, P z) : multiP c a b = 2 ↔ EQm P c a b := by
  rw [← multiLR_nil g ha hb]
  unfold multiP
  constructor
  · intro h
    by_cases e : ((multiLR c a b).1.isEmpty && (multiLR c a b).2.isEmpty) = true
    · simpa using e
    · rw [if_neg e] at h; split at h <;> (try split at h) <;> omega
  · intro h; rw [if_pos (by simpa using h)]
theorem allAb_HO (g : GoodC P c) {a b : List α} (ha : ∀ z ∈ a, P z) (hb : ∀ z ∈ b, P z) : (¬ EQm P c a b ∧ allAb c (multiLR c a b).1 (multiLR c a b).2 = true) ↔ HO P c a b := by
  have hL : ∀ z ∈ (multiLR c a b).1, P z := fun x hx => ha x (multiLR_mem.1 x hx)
  have hR : ∀ z ∈ (multiLR c a b).2, P z := fun x hx => hb x (multiLR_mem.2 x hx)
  have z := allAb_cnt g hL hR (fun x hx => (multiLR_cnt g hx ha hb).1) (fun x hx => (multiLR_cnt g hx ha hb).2)
  rw [allAb_iff, z]
  constructor
  · rintro ⟨h1, h2⟩; exact ⟨Classical.byContradiction (fun hn => h1 (fun x hx => Decidable.byContradiction (fun q => hn ⟨x, hx, q⟩))), h2⟩
  · rintro ⟨⟨x, hx, h1⟩, h2⟩; exact ⟨fun e => h1 (e x hx), h2⟩
theorem allAb_HO' (g : GoodC P c) {a b : List α} (ha : ∀ z ∈ a, P z) (hb : ∀ z ∈ b, P z) : (¬ EQm P c a b ∧ allAb c (multiLR c a b).2 (multiLR c a b).1 = true) ↔ HO P c b a := by
  have hL : ∀ z ∈ (multiLR c a b).1, P z := fun x hx => ha x (multiLR_mem.1 x hx)
  have hR : ∀ z ∈ (multiLR c a b).2, P z := fun x hx => hb x (multiLR_mem.2 x hx)
  have z := allAb_cnt g hR hL (fun x hx => (multiLR_cnt g hx ha hb).2) (fun x hx => (multiLR_cnt g hx ha hb).1)
  rw [allAb_iff, z]
  constructor
  · rintro ⟨h1, h2⟩; exact ⟨Classical.byContradiction (fun hn => h1 (fun x hx => Decidable.byContradiction (fun q => hn ⟨x, hx, fun e => q e.symm⟩))), h2⟩
  · rintro ⟨⟨x, hx, h1⟩, h2⟩; exact ⟨fun e => h1 (e x hx).symm, h2⟩
theorem multiP_3 (g : GoodC P c) {a b : List α} (ha : ∀ z ∈ a, P z) (hb : ∀ z ∈ b, P z) : multiP c a b = 3 ↔ HO P c a b := by
  rw [← allAb_HO g ha hb, ← multiLR_nil g ha hb]
  unfold multiP
  by_cases e : ((multiLR c a b).1.isEmpty && (multiLR c a b).2.isEmpty) = true
  · rw [if_pos e]; simp at e; simp [e]
  · rw [if_neg e]; simp at e
    by_cases e2 : allAb c (multiLR c a b).1 (multiLR c a b).2 = true
    · rw [if_pos e2]; simp only [true_iff]; exact ⟨fun h => e h.1 h.2, e2⟩
    · rw [if_neg e2]; constructor
      · intro h; split at h <;> omega
      · intro h; exact absurd h.2 e2
theorem multiP_1 (g : GoodC P c) {a b : List α} (ha : ∀ z ∈ a, P z) (hb : ∀ z ∈ b, P z) : multiP c a b = 1 ↔ HO P c b a := by
  have h3 := multiP_3 g ha hb
  constructor
  · intro h
    refine (allAb_HO' g ha hb).1 ⟨fun e => ?_, ?_⟩
    · rw [(multiP_2 g ha hb).2 e] at h; omega
    · unfold multiP at h; split at h
      · omega
      · split at h
        · omega
        · split at h
          · assumption
          · omega
  · intro h
    have hn : ¬ multiP c a b = 3 := fun e => HO.asymm g ha hb (h3.1 e) h
    have h2 := (allAb_HO' g ha hb).2 h
    have he : ¬ multiP c a b = 2 := fun e => h2.1 ((multiP_2 g ha hb).1 e)
    unfold multiP at hn he ⊢
    split at hn
    · rename_i q; rw [if_pos q] at he; omega
    · rename_i q; rw [if_neg q] at he ⊢
      split at hn
      · omega
      · rename_i q2; rw [if_neg q2, if_pos h2.2]
theorem multiP_rng {a b : List α} : 0 ≤ multiP c a b ∧ multiP c a b ≤ 3 := by
  unfold multiP; split <;> (try split) <;> (try split) <;> omega
theorem multiP_congr (g : GoodC P c) {a b z : List α} (ha : ∀ x ∈ a, P x) (hb : ∀ x ∈ b, P x) (hz : ∀ x ∈ z, P x) (e : EQm P c a b) : multiP c a z = multiP c b z := by
  have r1 := @multiP_rng α c a z
  have r2 := @multiP_rng α c b z
  have k2 : multiP c a z = 2 ↔ multiP c b z = 2 := by
    rw [multiP_2 g ha hz, multiP_2 g hb hz]; exact ⟨fun h x hx => by rw [← e x hx]; exact h x hx, fun h x hx => by rw [e x hx]; exact h x hx⟩
  have k3 : multiP c a z = 3 ↔ multiP c b z = 3 := by
    rw [multiP_3 g ha hz, multiP_3 g hb hz]; exact ⟨fun h => h.congr e (EQm.refl _), fun h => h.congr e.symm (EQm.refl _)⟩
  have k1 : multiP c a z = 1 ↔ multiP c b z = 1 := by
    rw [multiP_1 g ha hz, multiP_1 g hb hz]; exact ⟨fun h => h.congr (EQm.refl _) e, fun h => h.congr (EQm.refl _) e.symm⟩
  omega
/-- Multisets are ordered as their members are. -/
theorem GoodC.multi (g : GoodC P c) : GoodC (fun l : List α => ∀ x ∈ l, P x) (multiP c) where
  refl a ha := (multiP_2 g ha ha).2 (EQm.refl a)
  turn a b ha hb := by
    have r1 := @multiP_rng α c a b
    have r2 := @multiP_rng α c b a
    have k2 : multiP c a b = 2 ↔ multiP c b a = 2 := by rw [multiP_2 g ha hb, multiP_2 g hb ha]; exact ⟨EQm.symm, EQm.symm⟩
    have k3 : multiP c a b = 3 ↔ multiP c b a = 1 := by rw [multiP_3 g ha hb, multiP_1 g hb ha]
    have k1 : multiP c a b = 1 ↔ multiP c b a = 3 := by rw [multiP_1 g ha hb, multiP_3 g hb ha]
    unfold trn; split
    · omega
    · split <;> omega
  trans a b d ha hb hd h k := (multiP_3 g ha hd).2 (HO.trans g ha hb hd ((multiP_3 g ha hb).1 h) ((multiP_3 g hb hd).1 k))
  same a b d ha hb hd h := multiP_congr g ha hb hd ((multiP_2 g ha hb).1 h)
  rng a b _ _ := multiP_rng
/-- Two lists, pair by pair. -/
inductive TwoL {α β : Type} (R : α → β → Prop) : List α → List β → Prop where
  | nil : TwoL R [] []
  | cons {x : α} {y : β} {l : List α} {k : List β} : R x y → TwoL R l k → TwoL R (x :: l) (y :: k)
theorem erase_perm : ∀ {l : List α} {j : Nat} (hj : j < l.length), l.Perm (l[j] :: l.eraseIdx j)
  | y :: l, 0, _ => .refl _
  | y :: l, j + 1, hj => by
    rw [List.eraseIdx_cons_succ, List.getElem_cons_succ]
    exact ((erase_perm (by simpa using hj)).cons y).trans (.swap ..)
/-- What is struck: the lists are what is left and pairs of the same. -/
theorem multiLR_split : ∀ {a b : List α}, ∃ K K' : List α, a.Perm ((multiLR c a b).1 ++ K) ∧ b.Perm ((multiLR c a b).2 ++ K') ∧ (∀ x ∈ K, x ∈ a) ∧ (∀ x ∈ K', x ∈ b) ∧ TwoL (fun x y => c x y = 2) K K'
  | [], b => ⟨[], [], by simp [multiLR], by simp [multiLR], by simp, by simp, .nil⟩
  | y :: a, b => by
    rw [multiLR]
    cases hs : strikeR c y b with
    | none =>
      obtain ⟨K, K', h1, h2, h3, h4, h5⟩ := @multiLR_split a b
      exact ⟨K, K', h1.cons y, h2, fun x hx => List.mem_cons_of_mem _ (h3 x hx), h4, h5⟩
    | some r' =>
      obtain ⟨j, hj, e, _, rfl⟩ := strikeR_some hs
      obtain ⟨K, K', h1, h2, h3, h4, h5⟩ := @multiLR_split a (b.eraseIdx j)
      refine ⟨y :: K, b[j] :: K', (h1.cons y).trans List.perm_middle.symm, ?_, ?_, ?_, .cons e h5⟩
      · exact (erase_perm hj).trans ((h2.cons _).trans List.perm_middle.symm)
      · intro x hx; exact (List.mem_cons.1 hx).elim (fun e => e ▸ List.mem_cons_self) (fun h => List.mem_cons_of_mem _ (h3 x h))
      · intro x hx; exact (List.mem_cons.1 hx).elim (fun e => e ▸ List.getElem_mem hj) (fun h => List.mem_of_mem_eraseIdx (h4 x h))
theorem EQm.pairs (g : GoodC P c) : ∀ {K K' : List α}, (∀ x ∈ K, P x) → (∀ x ∈ K', P x) → TwoL (fun x y => c x y = 2) K K' → EQm P c K K'
  | [], [], _, _, _ => EQm.refl _
  | x :: K, y :: K', h, h', .cons e r => fun q hq => by
    rw [cnt_cons, cnt_cons, EQm.pairs g (fun z hz => h z (List.mem_cons_of_mem _ hz)) (fun z hz => h' z (List.mem_cons_of_mem _ hz)) r q hq, g.eq2 (h x List.mem_cons_self) (h' y List.mem_cons_self) hq e]
theorem HO.add {a b K K' : List α} (h : HO P c a b) (e : EQm P c K K') : HO P c (a ++ K) (b ++ K') := by
  obtain ⟨⟨x, hx, h1⟩, h2⟩ := h
  refine ⟨⟨x, hx, by rw [cnt_append, cnt_append, e x hx]; omega⟩, fun x hx hl => ?_⟩
  rw [cnt_append, cnt_append, e x hx] at hl
  obtain ⟨y, hy, h3, h4⟩ := h2 x hx (by omega)
  exact ⟨y, hy, h3, by rw [cnt_append, cnt_append, e y hy]; omega⟩
theorem HO.dom (g : GoodC P c) {L R : List α} (hL : ∀ z ∈ L, P z) (hR : ∀ z ∈ R, P z) (hne : L ≠ []) (h : ∀ q ∈ R, ∃ p ∈ L, c p q = 3) : HO P c L R := by
  refine ⟨?_, fun x hx hl => ?_⟩
  · obtain ⟨m, hm, hmax⟩ := maxel g hL hne
    refine ⟨m, hL m hm, fun e => ?_⟩
    have z : 0 < cnt c m L := cnt_pos.2 ⟨m, hm, g.refl m (hL m hm)⟩
    obtain ⟨q, hq, e2⟩ := cnt_pos.1 (show 0 < cnt c m R by omega)
    obtain ⟨p, hp, e3⟩ := h q hq
    exact hmax p hp (by rw [g.eq2 (hL m hm) (hR q hq) (hL p hp) e2]; exact e3)
  · obtain ⟨q, hq, e⟩ := cnt_pos.1 (show 0 < cnt c x R by omega)
    obtain ⟨p, hp, e2⟩ := h q hq
    have e3 : c p x = 3 := by rw [g.eq2 hx (hR q hq) (hL p hp) e]; exact e2
    obtain ⟨m, hm, h1, hmax⟩ := maxel_of g hL (fun y => c y x = 3) ⟨p, hp, e3⟩
    refine ⟨m, hL m hm, h1, Decidable.byContradiction (fun hn => ?_)⟩
    have z : 0 < cnt c m L := cnt_pos.2 ⟨m, hm, g.refl m (hL m hm)⟩
    obtain ⟨q, hq, e4⟩ := cnt_pos.1 (show 0 < cnt c m R by omega)
    obtain ⟨p, hp, e5⟩ := h q hq
    have e6 : c p m = 3 := by rw [g.eq2 (hL m hm) (hR q hq) (hL p hp) e4]; exact e5
    exact hmax p hp (g.trans p m x (hL p hp) (hL m hm) hx e6 h1) e6
theorem forall2_map {β : Type} {R : α → α → Prop} {R' : β → β → Prop} {f : α → β} : ∀ {K K' : List α}, (∀ x ∈ K, ∀ y ∈ K', R x y → R' (f x) (f y)) → TwoL R K K' → TwoL R' (K.map f) (K'.map f)
  | [], [], _, _ => .nil
  | x :: K, y :: K', h, .cons e r => .cons (h x List.mem_cons_self y List.mem_cons_self e) (forall2_map (fun a ha b hb => h a (List.mem_cons_of_mem _ ha) b (List.mem_cons_of_mem _ hb)) r)
end
/-- f leaves above what is above, the same what is the same. -/
structure MonoC {α β : Type} (P : α → Prop) (c : α → α → Int) (P' : β → Prop) (c' : β → β → Int) (f : α → β) : Prop where
  into : ∀ x, P x → P' (f x)
  above : ∀ x y, P x → P y → c x y = 3 → c' (f x) (f y) = 3
  same : ∀ x y, P x → P y → c x y = 2 → c' (f x) (f y) = 2
theorem MonoC.multi {α β : Type} {P : α → Prop} {c : α → α → Int} {P' : β → Prop} {c' : β → β → Int} {f : α → β} (g : GoodC P c) (g' : GoodC P' c') (m : MonoC P c P' c' f) : MonoC (fun l => ∀ x ∈ l, P x) (multiP c) (fun l => ∀ x ∈ l, P' x) (multiP c') (List.map f) := by
  have into : ∀ l : List α, (∀ x ∈ l, P x) → ∀ x ∈ l.map f, P' x := fun l hl x hx => by
    obtain ⟨y, hy, rfl⟩ := List.mem_map.1 hx; exact m.into y (hl y hy)
  have pairs : ∀ {K K' : List α}, (∀ x ∈ K, P x) → (∀ x ∈ K', P x) → TwoL (fun x y => c x y = 2) K K' → EQm P' c' (K.map f) (K'.map f) := fun h h' r =>
    EQm.pairs g' (into _ h) (into _ h') (forall2_map (fun x hx y hy e => m.same x y (h x hx) (h' y hy) e) r)
  refine ⟨into, fun a b ha hb h => ?_, fun a b ha hb h => ?_⟩
  · have hho := (multiP_3 g ha hb).1 h
    obtain ⟨hne, hall⟩ := (allAb_HO g ha hb).2 hho
    obtain ⟨_, _, h1, h2, h3, h4, h5⟩ := @multiLR_split α c a b
    have hL : ∀ z ∈ (multiLR c a b).1, P z := fun x hx => ha x (multiLR_mem.1 x hx)
    have hR : ∀ z ∈ (multiLR c a b).2, P z := fun x hx => hb x (multiLR_mem.2 x hx)
    have hall := allAb_iff.1 hall
    have hLne : (multiLR c a b).1 ≠ [] := fun e => by
      have hRe : (multiLR c a b).2 = [] := by
        cases hr : (multiLR c a b).2 with
        | nil => rfl
        | cons q r => obtain ⟨p, hp, _⟩ := hall q (by rw [hr]; exact List.mem_cons_self); rw [e] at hp; cases hp
      exact hne ((multiLR_nil g ha hb).1 ⟨e, hRe⟩)
    refine (multiP_3 g' (into a ha) (into b hb)).2 ?_
    have hd : HO P' c' ((multiLR c a b).1.map f) ((multiLR c a b).2.map f) := HO.dom g' (into _ hL) (into _ hR) (by simpa using hLne) (fun q hq => by
      obtain ⟨q0, hq0, rfl⟩ := List.mem_map.1 hq
      obtain ⟨p, hp, e⟩ := hall q0 hq0
      exact ⟨f p, List.mem_map.2 ⟨p, hp, rfl⟩, m.above p q0 (hL p hp) (hR q0 hq0) e⟩)
    have hk := hd.add (pairs (fun x hx => ha x (h3 x hx)) (fun x hx => hb x (h4 x hx)) h5)
    rw [← List.map_append, ← List.map_append] at hk
    exact hk.congr (fun x _ => cnt_perm (h1.map f).symm) (fun x _ => cnt_perm (h2.map f).symm)
  · obtain ⟨_, _, h1, h2, h3, h4, h5⟩ := @multiLR_split α c a b
    obtain ⟨e1, e2⟩ := (multiLR_nil g ha hb).2 ((multiP_2 g ha hb).1 h)
    rw [e1, List.nil_append] at h1
    rw [e2, List.nil_append] at h2
    have hk := pairs (fun x hx => ha x (h3 x hx)) (fun x hx => hb x (h4 x hx)) h5
    exact (multiP_2 g' (into a ha) (into b hb)).2 (fun x hx => by rw [cnt_perm (h1.map f), cnt_perm (h2.map f)]; exact hk x hx)
end Go.Proofs.Ytmdpiafeiopimaa

/- Elements of rows that are made: what lies in them lies in blocks that are told. -/
namespace Go.Proofs.Ytmdpiafeiopimaa
open Go.RowKit Go
set_option linter.unusedVariables false
set_option linter.unusedSimpArgs false
/-- A kind of element: so many cells, and what they hold of 'x', in blocks of 'S'. -/
structure Elt (α : Type) where
  k : Nat
  In : (Nat → Prop) → World → α → List Value → Prop
  keep : ∀ {S : Nat → Prop} {w w' : World} {x : α} {cs : List Value}, (∀ (p : Addr) (v : Value), S p.block → w.cell? p = some v → w'.cell? p = some v) → In S w x cs → In S w' x cs
  mono : ∀ {S S' : Nat → Prop} {w : World} {x : α} {cs : List Value}, (∀ b, S b → b < w.heap.size → S' b) → In S w x cs → In S' w x cs
  len : ∀ {S : Nat → Prop} {w : World} {x : α} {cs : List Value}, In S w x cs → cs.length = k
  one : ∀ {S : Nat → Prop} {w : World} {x : α} {cs : List Value}, In S w x cs → ∀ v ∈ cs, v.oneCell' = true
section
variable {α : Type} {E : Elt α} {S S' : Nat → Prop} {w w' : World}
theorem Elt.below {x : α} {cs : List Value} (h : E.In S w x cs) (hb : Below w.heap.size w w') : E.In S w' x cs := E.keep (fun p v _ hv => bkeeps hb p v hv) h
theorem Elt.chg {S2 : Nat → Prop} {x : α} {cs : List Value} (h : E.In S w x cs) (hc : Chg S2 w w') (hS : ∀ b, S b → ¬ S2 b) : E.In S w' x cs := E.keep (fun p v hp hv => by
  have hb := World.block_lt_of_cell? _ _ hv
  unfold World.cell? at hv ⊢
  rw [hc.block p.block hb (hS _ hp)]; exact hv) h
def Elts (E : Elt α) (S : Nat → Prop) (w : World) : List α → List Value → Prop
  | [], xs => xs = []
  | x :: l, xs => ∃ cs r, xs = cs ++ r ∧ E.In S w x cs ∧ Elts E S w l r
theorem Elts.keep (hb : ∀ (p : Addr) (v : Value), S p.block → w.cell? p = some v → w'.cell? p = some v) : ∀ {l : List α} {xs : List Value}, Elts E S w l xs → Elts E S w' l xs
  | [], _, h => h
  | _ :: _, _, ⟨cs, r, e, h1, h2⟩ => ⟨cs, r, e, E.keep hb h1, Elts.keep hb h2⟩
theorem Elts.mono (hb : ∀ b, S b → b < w.heap.size → S' b) : ∀ {l : List α} {xs : List Value}, Elts E S w l xs → Elts E S' w l xs
  | [], _, h => h
  | _ :: _, _, ⟨cs, r, e, h1, h2⟩ => ⟨cs, r, e, E.mono hb h1, Elts.mono hb h2⟩
theorem Elts.len : ∀ {l : List α} {xs : List Value}, Elts E S w l xs → xs.length = l.length * E.k
  | [], _, h => by rw [h]; simp
  | _ :: l, _, ⟨cs, r, e, h1, h2⟩ => by rw [e, List.length_append, E.len h1, h2.len, List.length_cons, Nat.add_mul]; omega
theorem Elts.snoc {x : α} {cs : List Value} (hx : E.In S w x cs) : ∀ {l : List α} {xs : List Value}, Elts E S w l xs → Elts E S w (l ++ [x]) (xs ++ cs)
  | [], _, h => by rw [h]; exact ⟨cs, [], by simp, hx, rfl⟩
  | _ :: _, _, ⟨c, r, e, h1, h2⟩ => ⟨c, r ++ cs, by rw [e, List.append_assoc], h1, Elts.snoc hx h2⟩
theorem Elts.at_ : ∀ {l : List α} {xs : List Value}, Elts E S w l xs → ∀ i (hi : i < l.length), ∃ cs, E.In S w l[i] cs ∧ ∀ j, j < E.k → xs[i * E.k + j]? = cs[j]?
  | [], _, _, i, hi => by simp at hi
  | x :: l, _, ⟨cs, r, e, h1, h2⟩, 0, _ => ⟨cs, h1, fun j hj => by rw [e, Nat.zero_mul, Nat.zero_add, List.getElem?_append_left (by rw [E.len h1]; exact hj)]⟩
  | x :: l, _, ⟨cs, r, e, h1, h2⟩, i + 1, hi => by
    obtain ⟨c, h3, h4⟩ := h2.at_ i (by simpa using hi)
    refine ⟨c, h3, fun j hj => ?_⟩
    rw [e, List.getElem?_append_right (by rw [E.len h1, Nat.add_mul]; omega), E.len h1, ← h4 j hj]
    congr 1
    rw [Nat.add_mul]; omega
theorem Elts.one : ∀ {l : List α} {xs : List Value}, Elts E S w l xs → ∀ v ∈ xs, v.oneCell' = true
  | [], _, h, v, hv => by rw [h] at hv; cases hv
  | _ :: _, _, ⟨cs, r, e, h1, h2⟩, v, hv => by
    rw [e, List.mem_append] at hv
    exact hv.elim (E.one h1 v) (h2.one v)
/-- A row that lies in memory, in blocks of 'S', its elements too. -/
def InRow (E : Elt α) (S : Nat → Prop) (w : World) (l : List α) (a : Option Addr) : Prop :=
  ∀ i (hi : i < l.length), ∃ (b o : Nat) (cs : List Value), a = some ⟨b, o, none⟩ ∧ S b ∧ E.In S w l[i] cs ∧ ∀ j, j < E.k → w.cell? ⟨b, o + i * E.k + j, none⟩ = cs[j]?
theorem InRow.keep {l : List α} {a : Option Addr} (hb : ∀ (p : Addr) (v : Value), S p.block → w.cell? p = some v → w'.cell? p = some v) (h : InRow E S w l a) : InRow E S w' l a := fun i hi => by
  obtain ⟨b, o, cs, h1, h2, h3, h4⟩ := h i hi
  refine ⟨b, o, cs, h1, h2, E.keep hb h3, fun j hj => ?_⟩
  have := h4 j hj
  rw [List.getElem?_eq_getElem (by rw [E.len h3]; exact hj)] at this ⊢
  exact hb ⟨b, _, none⟩ _ h2 this
theorem InRow.mono {l : List α} {a : Option Addr} (hk : 0 < E.k) (hb : ∀ b, S b → b < w.heap.size → S' b) (h : InRow E S w l a) : InRow E S' w l a := fun i hi => by
  obtain ⟨b, o, cs, h1, h2, h3, h4⟩ := h i hi
  have := h4 0 hk
  rw [List.getElem?_eq_getElem (by rw [E.len h3]; exact hk)] at this
  exact ⟨b, o, cs, h1, hb b h2 (World.block_lt_of_cell? _ _ this), E.mono hb h3, h4⟩
theorem InRow.below {l : List α} {a : Option Addr} (h : InRow E S w l a) (hb : Below w.heap.size w w') : InRow E S w' l a := h.keep (fun p v _ hv => bkeeps hb p v hv)
theorem InRow.nil {a : Option Addr} : InRow E S w [] a := fun i hi => by simp at hi
/-- A row of the call's own, made by append: its block lies at or behind 'B', its elements' too, but in other blocks. -/
structure RowE (E : Elt α) (w : World) (B e : Nat) (ra : Option Addr) (rc n : Nat) (l : List α) : Prop where
  row : ∃ xs, w.ownsRow B e E.k (.slice ra n rc) n xs ∧ Elts E (fun b => B ≤ b ∧ (Value.slice ra n rc).ownBlock ≠ some b) w l xs
  len : n = l.length
variable {B e : Nat} {ra : Option Addr} {rc n : Nat} {l : List α}
theorem RowE.nil : RowE E w B e none 0 0 ([] : List α) := ⟨⟨[], World.ownsRow_nil _ _ _ _, rfl⟩, rfl⟩
theorem RowE.keep (h : RowE E w B e ra rc n l) (hb : ∀ b, B ≤ b → b < w.heap.size → w'.heap[b]? = w.heap[b]?) : RowE E w' B e ra rc n l := by
  obtain ⟨⟨xs, h1, h2⟩, h3⟩ := h
  refine ⟨⟨xs, ⟨h1.1, h1.2.imp id ?_⟩, h2.keep (fun p v hp hv => ?_)⟩, h3⟩
  · rintro ⟨g, cap, cur, e1, e2, e3, r⟩
    exact ⟨g, cap, cur, e1, e2, (hb g e2 (Array.getElem?_eq_some_iff.1 e3).1).trans e3, r⟩
  · have hlt := World.block_lt_of_cell? _ _ hv
    unfold World.cell? at hv ⊢
    rw [hb p.block hp.1 hlt]; exact hv
theorem RowE.below (h : RowE E w B e ra rc n l) (hb : Below w.heap.size w w') : RowE E w' B e ra rc n l := h.keep (fun b _ hlt => hb.block b hlt)
theorem RowE.upd {g : Nat} (h : RowE E w B e ra rc n l) (hu : Upd g w w') (hg : g < B) : RowE E w' B e ra rc n l := h.keep (fun b hB _ => hu.block b (by omega))
theorem RowE.chg {S : Nat → Prop} (h : RowE E w B e ra rc n l) (hc : Chg S w w') (hS : ∀ b, B ≤ b → ¬ S b) : RowE E w' B e ra rc n l := h.keep (fun b hB hlt => hc.block b hlt (hS b hB))
theorem RowE.lt (h : RowE E w B e ra rc n l) : ∀ b, (Value.slice ra n rc).ownBlock = some b → B ≤ b ∧ b < w.heap.size := by
  obtain ⟨⟨xs, h1, _⟩, _⟩ := h
  exact h1.lt
/-- What lies in the row, once it is whole. -/
theorem RowE.inRow (h : RowE E w B e ra rc n l) : InRow E (fun b => B ≤ b) w l ra ∧ n = l.length ∧ n ≤ rc ∧ rc ≤ maxLen := by
  obtain ⟨⟨xs, h1, h2⟩, rfl⟩ := h
  rcases h1.2 with ⟨e1, h0⟩ | ⟨g, cap, cur, e1, hg, hb, hc, hm, _, _⟩
  · simp only [Value.slice.injEq] at e1
    obtain ⟨_, _, rfl⟩ := e1
    exact ⟨fun i hi => by omega, rfl, by omega, by unfold maxLen; omega⟩
  · have e1' := e1
    simp only [Value.slice.injEq, true_and] at e1'
    obtain ⟨rfl, rfl⟩ := e1'
    refine ⟨fun i hi => ?_, rfl, hc, hm⟩
    obtain ⟨cs, h3, h4⟩ := h2.at_ i hi
    refine ⟨g, 0, cs, rfl, hg, E.mono (fun b hb _ => hb.1) h3, fun j hj => ?_⟩
    have hjl : j < cs.length := by rw [E.len h3]; exact hj
    have hx := h4 j hj
    rw [List.getElem?_eq_getElem hjl] at hx ⊢
    have := h1.cells (g := g) rfl _ _ hx
    rw [add_plain2] at this
    rwa [show 0 + i * E.k + j = 0 + (i * E.k + j) by omega]
/-! ### A row that is made whole, and filled one element after the other -/
structure MRow (E : Elt α) (w : World) (B g e n : Nat) (D : List Value) (l : List α) : Prop where
  blk : ∃ xs, Blk w g e (xs ++ D.drop xs.length).toArray ∧ Elts E (fun b => B ≤ b ∧ b ≠ g) w l xs
  dlen : D.length = n * E.k
  le : l.length ≤ n
  base : B ≤ g
variable {g : Nat} {D : List Value}
theorem MRow.lt (h : MRow E w B g e n D l) : g < w.heap.size := by obtain ⟨⟨xs, h1, _⟩, _⟩ := h; exact h1.lt
theorem MRow.keep (h : MRow E w B g e n D l) (hb : ∀ b, B ≤ b → b < w.heap.size → w'.heap[b]? = w.heap[b]?) : MRow E w' B g e n D l := by
  obtain ⟨⟨xs, h1, h2⟩, h0, h3, h4⟩ := h
  refine ⟨⟨xs, (hb g h4 h1.lt).trans h1, h2.keep (fun p v hp hv => ?_)⟩, h0, h3, h4⟩
  have hlt := World.block_lt_of_cell? _ _ hv
  unfold World.cell? at hv ⊢
  rw [hb p.block hp.1 hlt]; exact hv
theorem MRow.below (h : MRow E w B g e n D l) (hb : Below w.heap.size w w') : MRow E w' B g e n D l := h.keep (fun b _ hlt => hb.block b hlt)
theorem MRow.upd {g' : Nat} (h : MRow E w B g e n D l) (hu : Upd g' w w') (hg : g' < B) : MRow E w' B g e n D l := h.keep (fun b hB _ => hu.block b (by omega))
theorem MRow.chg {S : Nat → Prop} (h : MRow E w B g e n D l) (hc : Chg S w w') (hS : ∀ b, B ≤ b → ¬ S b) : MRow E w' B g e n D l := h.keep (fun b hB hlt => hc.block b hlt (hS b hB))
theorem MRow.start (hB : Blk w g e D.toArray) (hd : D.length = n * E.k) (hb : B ≤ g) : MRow E w B g e n D ([] : List α) := ⟨⟨[], by simpa using hB, rfl⟩, hd, Nat.zero_le _, hb⟩
/-- The next element is stored. -/
theorem MRow.store {x : α} {cs : List Value} (h : MRow E w B g e n D l) (hu : Upd g w w') (hl : l.length < n) (hin : E.In (fun b => B ≤ b ∧ b ≠ g) w x cs)
    (hB : ∀ xs : List Value, xs.length = l.length * E.k → Blk w g e (xs ++ D.drop xs.length).toArray → Blk w' g e (xs ++ cs ++ D.drop (xs ++ cs).length).toArray) : MRow E w' B g e n D (l ++ [x]) := by
  obtain ⟨⟨xs, h1, h2⟩, h0, h3, h4⟩ := h
  have hk : ∀ (p : Addr) (v : Value), (B ≤ p.block ∧ p.block ≠ g) → w.cell? p = some v → w'.cell? p = some v := fun p v hp hv => by
    unfold World.cell? at hv ⊢
    rw [hu.block p.block hp.2]; exact hv
  exact ⟨⟨xs ++ cs, hB xs h2.len h1, Elts.snoc (E.keep hk hin) (h2.keep hk)⟩, h0, by simp; omega, h4⟩
theorem MRow.inRow (h : MRow E w B g e n D l) : InRow E (fun b => B ≤ b) w l (some ⟨g, 0, none⟩) := fun i hi => by
  obtain ⟨⟨xs, h1, h2⟩, _, h3, h4⟩ := h
  obtain ⟨cs, h5, h6⟩ := h2.at_ i hi
  refine ⟨g, 0, cs, rfl, h4, E.mono (fun b hb _ => hb.1) h5, fun j hj => ?_⟩
  have hx := h2.len
  have hlt : i * E.k + j < xs.length := by
    rw [hx]
    have : (i + 1) * E.k ≤ l.length * E.k := Nat.mul_le_mul_right _ hi
    rw [Nat.add_mul] at this; omega
  rw [h1.cell, ← h6 j hj, show 0 + i * E.k + j = i * E.k + j by omega, List.getElem?_toArray, List.getElem?_append_left hlt]
end
section
variable {α : Type} {E : Elt α} {P : Program} {w : World} {a : Act} {K : Act → World → Prop} {Q : Exit → Act → World → Prop} {o : Oper}
/-- One element more, by append. -/
theorem wp_appE {s x : Operand} {t e B : Nat} {z : Value} {size bytes n rc g1 : Nat} {ra : Option Addr} {l : List α} {y : α} {cs : List Value} (hk : E.k = size) (ht : P.underlying t = some (.slice e)) (hinfo : (P.info? e).map (fun i => (i.zero, i.size, i.bytes)) = some (some z, size, bytes)) (hzs : z.cells.size = size) (hsz : 0 < size)
    (ho : o.op = .call { callee := .builtin .append, args := #[s, x], argTypes := #[t, t] }) (hs : a.eval s = .slice ra n rc) (hx : a.eval x = .slice (some ⟨g1, 0, none⟩) 1 1) (hrow : RowE E w B e ra rc n l) (hB : Blk w g1 e cs.toArray) (hin : E.In (fun b => B ≤ b ∧ (Value.slice ra n rc).ownBlock ≠ some b) w y cs)
    (hb : (n + 1) * bytes ≤ 140737488355328) (hn : n + 1 ≤ 9223372036854775807) (hbase : B ≤ w.heap.size) (hK : ∀ ra' rc' w', RowE E w' B e ra' rc' (n + 1) (l ++ [y]) → Chg (fun b => (Value.slice ra n rc).ownBlock = some b) w w' → KeepsFrom 0 w w' → K (a.put o.dst (.slice ra' (n + 1) rc')) w') : o.wp P a w K Q := by
  subst hk
  obtain ⟨⟨xs, h1, h2⟩, rfl⟩ := hrow
  refine wp_app (m := 1) (news := cs) ht hinfo hzs hsz ho hs hx h1 (SrcIs.ofBlk hB) (by rw [E.len hin]; omega) (E.one hin) hb hn hbase (fun ra' rc' w' h => hK _ _ _ ?_ ⟨h.grow.os, h.grow.tape, h.grow.output, h.grow.size, fun k hk hSk => h.grow.block k hk (fun e => hSk e.symm)⟩ ?_)
  · have key : ∀ (p : Addr) (v : Value), (Value.slice ra l.length rc).ownBlock ≠ some p.block → w.cell? p = some v → w'.cell? p = some v := fun p v hp hv => h.grow.cell hv (Ne.symm hp)
    refine ⟨⟨xs ++ cs, h.own, ?_⟩, by simp⟩
    have far : ∀ b, (B ≤ b ∧ (Value.slice ra l.length rc).ownBlock ≠ some b) ∧ b < w.heap.size → B ≤ b ∧ (Value.slice ra' (l.length + 1) rc').ownBlock ≠ some b := fun b hb => ⟨hb.1.1, fun e => by
      rcases h.at_ with e2 | e2
      · exact hb.1.2 (e2 ▸ e)
      · rw [e2] at e; have := Option.some.inj e; omega⟩
    refine Elts.mono (fun b hb _ => far b hb) (Elts.keep (w := w) (fun p v hp hv => key p v hp.1.2 hv) ?_)
    exact Elts.snoc (E.mono (fun b hb hlt => ⟨hb, hlt⟩) hin) (Elts.mono (fun b hb hlt => ⟨hb, hlt⟩) h2)
  · refine ⟨h.grow.size, fun k o _ hk ho => (h.grow.block k (Array.getElem?_eq_some_iff.1 hk).1 (fun e => ?_)).trans hk⟩
    rcases h1.2 with ⟨e1, _⟩ | ⟨g, cap, cur, e1, _, e3, _⟩
    · rw [e1] at e; cases e
    · rw [e1] at e
      have : k = g := by simpa [Value.ownBlock] using e
      subst this
      rw [show w.heap[k]? = _ from e3] at hk
      obtain rfl := Option.some.inj hk
      cases ho
end
section
variable {P : Program} {w : World} {a : Act} {K : Act → World → Prop} {Q : Exit → Act → World → Prop} {o : Oper}
end
/-! ### Integers, as elements -/
end Go.Proofs.Ytmdpiafeiopimaa

/- Regions in whatever order, in which what is made comes first and, last, one thing is written ('row[i] = f(..)'), or two ('box = append(box, f(..))'). -/
namespace Go.Proofs.Ytmdpiafeiopimaa
open Go.RowKit Go
set_option linter.unusedVariables false
set_option linter.unusedSimpArgs false
/-- What an operation yields: a value, or one of which something holds that blocks of 'S' do not touch. -/
inductive SpS (S : Nat → Prop) where
 | val (x : Value)
 | mem (p : Value → World → Prop) (h : ∀ v w w', Chg S w w' → p v w → p v w')
def SpS.holds {S : Nat → Prop} : SpS S → Value → World → Prop
 | .val x, v, _ => v = x
 | .mem p _, v, w => p v w
def optS {S : Nat → Prop} (l : List (Bool × SpS S)) (i : Nat) (v : Value) (w : World) : Prop := ((l.getD i (true, .val undef)).1 = true → (l.getD i (true, .val undef)).2.holds v w) ∧ ((l.getD i (true, .val undef)).1 = false → v = undef)
theorem optSKeep {S : Nat → Prop} (l : List (Bool × SpS S)) (i : Nat) (v : Value) (w w' : World) (h : optS l i v w) (hb : Chg S w w') : optS l i v w' := by
 refine ⟨fun e => ?_, h.2⟩
 have := h.1 e
 generalize (l.getD i (true, .val undef)).2 = s at *
 cases s with
 | val x => exact this
 | mem p hp => exact hp _ _ _ hb this
theorem optSVal {S : Nat → Prop} {l : List (Bool × SpS S)} {i : Nat} {v x : Value} {w : World} {β : Bool} (h : optS l i v w) (e : l.getD i (true, .val undef) = (β, .val x)) (hβ : β = true) : v = x := by
 have := h.1 (by rw [e]; exact hβ)
 rw [e] at this
 exact this
theorem optSMem {S : Nat → Prop} {l : List (Bool × SpS S)} {i : Nat} {v : Value} {w : World} {β : Bool} {p : Value → World → Prop} {hp : ∀ v w w', Chg S w w' → p v w → p v w'} (h : optS l i v w) (e : l.getD i (true, .val undef) = (β, .mem p hp)) (hβ : β = true) : p v w := by
 have := h.1 (by rw [e]; exact hβ)
 rw [e] at this
 exact this
/-- A row of one, new. -/
def OneRow {α : Type} (E : Elt α) (w0 : World) (e : TypeId) (x : α) (v : Value) (w : World) : Prop := ∃ g cs, v = .slice (some ⟨g, 0, none⟩) 1 1 ∧ w0.heap.size ≤ g ∧ Blk w g e cs.toArray ∧ E.In (fun b => w0.heap.size ≤ b) w x cs
theorem OneRow.chg {α : Type} {E : Elt α} {w0 w w' : World} {e : TypeId} {x : α} {v : Value} {S : Nat → Prop} (h : OneRow E w0 e x v w) (hc : Chg S w w') (hS : ∀ b, S b → b < w0.heap.size) : OneRow E w0 e x v w' := by
 obtain ⟨g, cs, e1, h1, h2, h3⟩ := h
 exact ⟨g, cs, e1, h1, chg_blk h2 hc (fun hs => by have := hS g hs; omega), Elt.chg h3 hc (fun b hb hs => by have := hS b hs; omega)⟩
section
variable {P : Program} {ops : Array Oper} {S : Nat → Prop}
/-- What an operation finds that does not write. -/
structure CtxA (ops : Array Oper) (l : List (Bool × SpS S)) (chain : List Nat) (first : Nat) (n : Fr) (K : Known) (w0 : World) (i : Nat) (o : Oper) (a : Act) (w : World) : Prop where
 chg : Chg S w0 w
 kn : Kn n K a
 dep : ∀ j d, depB ops o j d = true → chain.contains j = false → optS l j (a.tmps.getD d undef) w
 early : (ancL ops first).contains i = true → Below w0.heap.size w0 w
/-- What an operation finds that writes first. -/
structure CtxB (ops : Array Oper) (l : List (Bool × SpS S)) (chain : List Nat) (n : Fr) (K : Known) (w0 : World) (o : Oper) (a : Act) (w : World) : Prop where
 below : Below w0.heap.size w0 w
 kn : Kn n K a
 dep : ∀ j d, depB ops o j d = true → chain.contains j = false → optS l j (a.tmps.getD d undef) w
def Tail1 (P : Program) (ops : Array Oper) (Q : Exit → Act → World → Prop) (l : List (Bool × SpS S)) (n : Fr) (K : Known) (w0 : World) (q : Nat) (GS : World → Prop) : Nat → List Oper → Prop
 | _, [] => True
 | i, o :: r => (([q].contains i = false ∧ ∃ β, GuardIs (optS l) o β ∧ (∀ g b, o.guard = some (g, b) → [q].contains g = false) ∧ (β = false → ∀ w, optS l i undef w) ∧
   (β = true → ∀ a w, CtxA ops l [q] q n K w0 i o a w → o.wp P a w (fun a' w' => ∃ v, a' = Act.put a o.dst v ∧ Below w.heap.size w w' ∧ optS l i v w') Q)) ∨
  (i = q ∧ o.guard = none ∧ ∀ a w, CtxB ops l [q] n K w0 o a w → o.wp P a w (fun a' w' => ∃ v, a' = Act.put a o.dst v ∧ GS w' ∧ Chg S w w') Q)) ∧ Tail1 P ops Q l n K w0 q GS (i + 1) r
def G1 (S : Nat → Prop) (w0 : World) (GS : World → Prop) : List (Option Value) → World → Prop
 | [none], w => Below w0.heap.size w0 w
 | [some _], w => GS w ∧ Chg S w0 w
 | _, _ => False
theorem Tail1.gen {Q : Exit → Act → World → Prop} {l : List (Bool × SpS S)} {n : Fr} {K : Known} {w0 : World} {q : Nat} {GS : World → Prop} (hGS : ∀ w w', Below w.heap.size w w' → GS w → GS w') : ∀ {lo : List Oper} {i : Nat}, Tail1 P ops Q l n K w0 q GS i lo →
  SoundFromG P ops Q [q] (optS l) (Chg S) (G1 S w0 GS) n K i lo
 | [], _, _ => trivial
 | o :: r, i, ⟨h, hr⟩ => by
  refine ⟨?_, hr.gen hGS⟩
  rcases h with ⟨hi, β, h1, h2, h3, h4⟩ | ⟨rfl, hg, h4⟩
  ·refine .inl ⟨hi, β, h1, h2, h3, fun hβ a w vs C => ?_⟩
   have hc : Chg S w0 w := by
    match vs, C.len, C.now with
    | [none], _, h => exact .ofBelow h
    | [some _], _, h => exact h.2
   refine Oper.wpIn_mono ?_ (wpIn_of (h4 hβ a w ⟨hc, C.kn, C.dep, fun he => ?_⟩) (by rintro a' w' ⟨v, rfl, _⟩; exact put_defers _ _ _))
   ·rintro a' w' ⟨v, rfl, hb, hR⟩
    refine ⟨v, rfl, .ofBelow hb, ?_, hR⟩
    match vs, C.len, C.now with
    | [none], _, h => exact bstep h hb
    | [some _], _, h => exact ⟨hGS _ _ hb h.1, h.2.trans (.ofBelow hb)⟩
   ·have := C.mostT 0 q rfl he
    match vs, C.len, C.now, this with
    | [none], _, h, _ => exact h
  ·refine .inr ⟨0, rfl, hg, fun a w vs C hn => ?_⟩
   match vs, C.len, C.now, hn, C with
   | [none], _, h, _, C =>
    refine Oper.wpIn_mono ?_ (wpIn_of (h4 a w ⟨h, C.kn, C.dep⟩) (by rintro a' w' ⟨v, rfl, _⟩; exact put_defers _ _ _))
    rintro a' w' ⟨v, rfl, hG, hc⟩
    exact ⟨v, rfl, hc, hG, (Chg.ofBelow h).trans hc⟩
theorem WC.tail1 {id : Nat} {dr : Bool} {Q : Exit → Act → World → Prop} {n : Fr} {K : Known} {w : World} (l : List (Bool × SpS S)) (K0 : Known) (q : Nat) (GS : World → Prop) (hGS : ∀ w w', Below w.heap.size w w' → GS w → GS w')
  (hs : subK K0 K) (hclear : clearB ops K0 = true) (hm : P.follows .mixedOrders = true) (hB : opsB ops n.n = true) (hin : ([q].all fun c => Nat.blt c ops.size) = true)
  (h : Tail1 P ops Q l n K0 w q GS 0 ops.toList)
  (hQ : ∀ (a : Act) (w' : World), Kn n K0 a → GS w' → Chg S w w' → (∀ i d, (ops[i]?).bind (·.dst) = some d → [q].contains i = false → optS l i (a.tmps.getD d undef) w') → Q .normal a w') :
  WC P n K w (.region id ops dr) Q := by
 refine WC.gen [q] (optS l) (Chg S) (G1 S w GS) K0 hs hclear hm hB (by simp) hin (optSKeep l) ?_ (h.gen hGS) (fun a w' vs hk hlen hall hG hu _ => ?_)
 ·cases dr with
  | true => exact (Below.refl _ _).drew
  | false => exact Below.refl _ _
 ·obtain ⟨v, hv⟩ := hall 0 (by simp)
  match vs, hlen, hv, hG with
  | [some _], _, _, hG => exact hQ a w' hk hG.1 hG.2 hu
def Tail2 (P : Program) (ops : Array Oper) (Q : Exit → Act → World → Prop) (l : List (Bool × SpS S)) (n : Fr) (K : Known) (w0 : World) (p q N : Nat) (GA GS : Option Addr → Nat → World → Prop) : Nat → List Oper → Prop
 | _, [] => True
 | i, o :: r => (([p, q].contains i = false ∧ ∃ β, GuardIs (optS l) o β ∧ (∀ g b, o.guard = some (g, b) → [p, q].contains g = false) ∧ (β = false → ∀ w, optS l i undef w) ∧
   (β = true → ∀ a w, CtxA ops l [p, q] p n K w0 i o a w → o.wp P a w (fun a' w' => ∃ v, a' = Act.put a o.dst v ∧ Below w.heap.size w w' ∧ optS l i v w') Q)) ∨
  (i = p ∧ o.guard = none ∧ ∀ a w, CtxB ops l [p, q] n K w0 o a w → o.wp P a w (fun a' w' => ∃ ra rc, a' = Act.put a o.dst (.slice ra N rc) ∧ GA ra rc w' ∧ Chg S w w') Q) ∨
  (i = q ∧ o.guard = none ∧ ∃ d, depB ops o p d = true ∧ ∀ a w ra rc, Kn n K a → (∀ j d, depB ops o j d = true → [p, q].contains j = false → optS l j (a.tmps.getD d undef) w) → a.tmps.getD d undef = .slice ra N rc → GA ra rc w → o.wp P a w (fun a' w' => ∃ v, a' = Act.put a o.dst v ∧ GS ra rc w' ∧ Chg S w w') Q)) ∧ Tail2 P ops Q l n K w0 p q N GA GS (i + 1) r
def G2 (S : Nat → Prop) (w0 : World) (N : Nat) (GA GS : Option Addr → Nat → World → Prop) : List (Option Value) → World → Prop
 | [none, none], w => Below w0.heap.size w0 w
 | [some v, none], w => ∃ ra rc, v = .slice ra N rc ∧ GA ra rc w ∧ Chg S w0 w
 | [some v, some _], w => ∃ ra rc, v = .slice ra N rc ∧ GS ra rc w ∧ Chg S w0 w
 | _, _ => False
theorem G2.chg {w0 w : World} {N : Nat} {GA GS : Option Addr → Nat → World → Prop} : ∀ {vs : List (Option Value)}, G2 S w0 N GA GS vs w → Chg S w0 w
 | [none, none], h => .ofBelow h
 | [some _, none], h => by obtain ⟨_, _, _, _, h⟩ := h; exact h
 | [some _, some _], h => by obtain ⟨_, _, _, _, h⟩ := h; exact h
 | [none, some _], h => h.elim
 | [], h => h.elim
 | [x], h => by cases x <;> exact h.elim
 | _ :: _ :: _ :: _, h => by simp [G2] at h
theorem Tail2.gen {Q : Exit → Act → World → Prop} {l : List (Bool × SpS S)} {n : Fr} {K : Known} {w0 : World} {p q N : Nat} {GA GS : Option Addr → Nat → World → Prop} (hpq : p ≠ q) (hGA : ∀ ra rc w w', Below w.heap.size w w' → GA ra rc w → GA ra rc w') (hGS : ∀ ra rc w w', Below w.heap.size w w' → GS ra rc w → GS ra rc w') : ∀ {lo : List Oper} {i : Nat}, Tail2 P ops Q l n K w0 p q N GA GS i lo →
  SoundFromG P ops Q [p, q] (optS l) (Chg S) (G2 S w0 N GA GS) n K i lo
 | [], _, _ => trivial
 | o :: r, i, ⟨h, hr⟩ => by
  refine ⟨?_, hr.gen hpq hGA hGS⟩
  rcases h with ⟨hi, β, h1, h2, h3, h4⟩ | ⟨rfl, hg, h4⟩ | ⟨rfl, hg, d, hd, h4⟩
  ·refine .inl ⟨hi, β, h1, h2, h3, fun hβ a w vs C => ?_⟩
   refine Oper.wpIn_mono ?_ (wpIn_of (h4 hβ a w ⟨C.now.chg, C.kn, C.dep, fun he => ?_⟩) (by rintro a' w' ⟨v, rfl, _⟩; exact put_defers _ _ _))
   ·rintro a' w' ⟨v, rfl, hb, hR⟩
    refine ⟨v, rfl, .ofBelow hb, ?_, hR⟩
    match vs, C.len, C.now with
    | [none, none], _, h => exact bstep h hb
    | [some _, none], _, ⟨ra, rc, e, h, hc⟩ => exact ⟨ra, rc, e, hGA _ _ _ _ hb h, hc.trans (.ofBelow hb)⟩
    | [some _, some _], _, ⟨ra, rc, e, h, hc⟩ => exact ⟨ra, rc, e, hGS _ _ _ _ hb h, hc.trans (.ofBelow hb)⟩
    | [none, some _], _, h => exact h.elim
   ·have := C.mostT 0 p rfl he
    match vs, C.len, C.now, this with
    | [none, none], _, h, _ => exact h
    | [none, some _], _, h, _ => exact h.elim
  ·refine .inr ⟨0, rfl, hg, fun a w vs C hn => ?_⟩
   match vs, C.len, C.now, hn, C with
   | [none, none], _, h, _, C =>
    refine Oper.wpIn_mono ?_ (wpIn_of (h4 a w ⟨h, C.kn, C.dep⟩) (by rintro a' w' ⟨_, _, rfl, _⟩; exact put_defers _ _ _))
    rintro a' w' ⟨ra, rc, rfl, hG, hc⟩
    exact ⟨_, rfl, hc, ra, rc, rfl, hG, (Chg.ofBelow h).trans hc⟩
   | [none, some _], _, h, _, _ => exact h.elim
  ·refine .inr ⟨1, rfl, hg, fun a w vs C hn => ?_⟩
   have hl := C.link 0 p d rfl hd
   match vs, C.len, C.now, hn, hl, C with
   | [some v, none], _, ⟨ra, rc, e, h, hc⟩, _, hl, C =>
    have hv : v = a.tmps.getD d undef := by simpa using hl
    refine Oper.wpIn_mono ?_ (wpIn_of (h4 a w ra rc C.kn C.dep (hv ▸ e) h) (by rintro a' w' ⟨v, rfl, _⟩; exact put_defers _ _ _))
    rintro a' w' ⟨u, rfl, hG, hc2⟩
    exact ⟨u, rfl, hc2, ra, rc, e, hG, hc.trans hc2⟩
theorem WC.tail2 {id : Nat} {dr : Bool} {Q : Exit → Act → World → Prop} {n : Fr} {K : Known} {w : World} (l : List (Bool × SpS S)) (K0 : Known) (p q N dp : Nat) (GA GS : Option Addr → Nat → World → Prop) (hpq : p ≠ q) (hGA : ∀ ra rc w w', Below w.heap.size w w' → GA ra rc w → GA ra rc w') (hGS : ∀ ra rc w w', Below w.heap.size w w' → GS ra rc w → GS ra rc w')
  (hs : subK K0 K) (hclear : clearB ops K0 = true) (hm : P.follows .mixedOrders = true) (hB : opsB ops n.n = true) (hin : ([p, q].all fun c => Nat.blt c ops.size) = true) (hdp : (ops[p]?).bind (·.dst) = some dp)
  (h : Tail2 P ops Q l n K0 w p q N GA GS 0 ops.toList)
  (hQ : ∀ (a : Act) (w' : World) (ra : Option Addr) (rc : Nat), Kn n K0 a → a.tmps.getD dp undef = .slice ra N rc → GS ra rc w' → Chg S w w' → (∀ i d, (ops[i]?).bind (·.dst) = some d → [p, q].contains i = false → optS l i (a.tmps.getD d undef) w') → Q .normal a w') :
  WC P n K w (.region id ops dr) Q := by
 refine WC.gen [p, q] (optS l) (Chg S) (G2 S w N GA GS) K0 hs hclear hm hB (by simpa using hpq) hin (optSKeep l) ?_ (h.gen hpq hGA hGS) (fun a w' vs hk hlen hall hG hu hl => ?_)
 ·cases dr with
  | true => exact (Below.refl _ _).drew
  | false => exact Below.refl _ _
 ·obtain ⟨v, hv⟩ := hall 0 (by simp)
  obtain ⟨u, hu1⟩ := hall 1 (by simp)
  have hx := hl 0 p dp rfl hdp
  match vs, hlen, hv, hu1, hx, hG with
  | [some y, some _], _, _, _, hx, ⟨ra, rc, e, hG, hc⟩ =>
   have hy : y = a.tmps.getD dp undef := by simpa using hx
   exact hQ a w' ra rc hk (hy ▸ e) hG hc hu
end
end Go.Proofs.Ytmdpiafeiopimaa

/- Regions in whatever order in which a row grows by append and is then given to a variable ('l = append(l, f(..))'). -/
namespace Go.Proofs.Ytmdpiafeiopimaa
open Go.RowKit Go
set_option linter.unusedVariables false
set_option linter.unusedSimpArgs false
section
variable {P : Program} {ops : Array Oper}
structure CtxH (ops : Array Oper) (chain : List Nat) (R : Nat → Value → World → Prop) (G : List (Option Value) → World → Prop) (n : Fr) (K Ke : Known) (i : Nat) (o : Oper) (a : Act) (w : World) (vs : List (Option Value)) : Prop where
 now : G vs w
 kn : Kn n K a
 dep : ∀ j d, depB ops o j d = true → chain.contains j = false → R j (a.tmps.getD d undef) w
 len : vs.length = chain.length
 link : ∀ (p c d : Nat), chain[p]? = some c → depB ops o c d = true → vs[p]? = some (some (a.tmps.getD d undef))
 done : ∀ (p c : Nat), chain[p]? = some c → o.after.any (fun e => e.on == c && Region.binds .any e) = true → ∃ v, vs[p]? = some (some v)
 most : ∀ (p c : Nat), chain[p]? = some c → afterB ops c i = true → vs[p]? = some none
 mostT : ∀ (p c : Nat), chain[p]? = some c → (ancL ops c).contains i = true → vs[p]? = some none
 old : ∀ d v, look Ke d = some v → (∀ c, (ops[c]?).bind (·.dst) = some d → (ancL ops c).contains i = true) → a.tmps.getD d undef = v
def SoundH (P : Program) (ops : Array Oper) (Q : Exit → Act → World → Prop) (chain : List Nat) (R : Nat → Value → World → Prop) (Le : World → World → Prop) (G : List (Option Value) → World → Prop) (n : Fr) (K Ke : Known) (i : Nat) (o : Oper) : Prop :=
 (chain.contains i = false ∧ ∃ β, GuardIs R o β ∧ (∀ g b, o.guard = some (g, b) → chain.contains g = false) ∧ (β = false → ∀ w, R i undef w) ∧
  (β = true → ∀ (a : Act) (w : World) (vs : List (Option Value)), CtxH ops chain R G n K Ke i o a w vs →
   o.wpIn (fen n.r) 0 P a w (fun a' w' => ∃ v, a' = Act.put a o.dst v ∧ Le w w' ∧ G vs w' ∧ R i v w') Q)) ∨
 (∃ p, chain[p]? = some i ∧ o.guard = none ∧ ∀ (a : Act) (w : World) (vs : List (Option Value)), CtxH ops chain R G n K Ke i o a w vs → vs[p]? = some none →
   o.wpIn (fen n.r) 0 P a w (fun a' w' => ∃ v, a' = Act.put a o.dst v ∧ Le w w' ∧ G (vs.set p (some v)) w') Q)
def SoundFromH (P : Program) (ops : Array Oper) (Q : Exit → Act → World → Prop) (chain : List Nat) (R : Nat → Value → World → Prop) (Le : World → World → Prop) (G : List (Option Value) → World → Prop) (n : Fr) (K Ke : Known) : Nat → List Oper → Prop
 | _, [] => True
 | k, o :: r => SoundH P ops Q chain R Le G n K Ke k o ∧ SoundFromH P ops Q chain R Le G n K Ke (k + 1) r
theorem SoundFromH.at_ {Q : Exit → Act → World → Prop} {chain : List Nat} {R : Nat → Value → World → Prop} {Le : World → World → Prop} {G : List (Option Value) → World → Prop} {n : Fr} {K Ke : Known} : ∀ {l : List Oper} {k : Nat}, SoundFromH P ops Q chain R Le G n K Ke k l → ∀ i o, l[i]? = some o → SoundH P ops Q chain R Le G n K Ke (k + i) o
 | [], _, _, i, o, h => by simp at h
 | x :: r, k, h, 0, o, ho => by simp at ho; subst ho; exact h.1
 | x :: r, k, h, i + 1, o, ho => by
  have := h.2.at_ i o (by simpa using ho)
  rwa [show k + 1 + i = k + (i + 1) by omega] at this
structure AtH (ops : Array Oper) (chain : List Nat) (R : Nat → Value → World → Prop) (G : List (Option Value) → World → Prop) (n : Fr) (K Ke : Known) (listed : Array Bool) (a : Act) (vs : List (Option Value)) (w : World) : Prop where
 size : listed.size = ops.size
 kn : Kn n K a
 plain : ∀ i d, chain.contains i = false → listed.getD i false = true → (ops[i]?).bind (·.dst) = some d → R i (a.tmps.getD d undef) w
 link : ∀ p c : Nat, chain[p]? = some c → (listed.getD c false = true ↔ ∃ v, vs[p]? = some (some v))
 vals : ∀ (p c d : Nat), chain[p]? = some c → listed.getD c false = true → (ops[c]?).bind (·.dst) = some d → vs[p]? = some (some (a.tmps.getD d undef))
 len : vs.length = chain.length
 closed : ∀ i o, ops[i]? = some o → listed.getD i false = true → ∀ e ∈ o.after, Region.binds .any e = true → listed.getD e.on false = true
 now : G vs w
 old : ∀ d v, look Ke d = some v → (∀ c, (ops[c]?).bind (·.dst) = some d → listed.getD c false = false) → a.tmps.getD d undef = v
theorem wp_any_genH {Q : Exit → Act → World → Prop} {n : Fr} {K Ke : Known} (chain : List Nat) (R : Nat → Value → World → Prop) (Le : World → World → Prop) (G : List (Option Value) → World → Prop)
  (hB : opsB ops n.n = true) (hnd : chain.Nodup) (hin : (chain.all fun c => Nat.blt c ops.size) = true) (hclear : clearB ops K = true)
  (hR : ∀ i v w w', R i v w → Le w w' → R i v w')
  (h : SoundFromH P ops Q chain R Le G n K Ke 0 ops.toList)
  (hQ : ∀ (a : Act) (w : World) (vs : List (Option Value)), Kn n K a → vs.length = chain.length → (∀ p, p < chain.length → ∃ v, vs[p]? = some (some v)) → G vs w → (∀ i d, (ops[i]?).bind (·.dst) = some d → chain.contains i = false → R i (a.tmps.getD d undef) w) → (∀ (p c d : Nat), chain[p]? = some c → (ops[c]?).bind (·.dst) = some d → vs[p]? = some (some (a.tmps.getD d undef))) → Q .normal a w) :
  ∀ (a0 : Act) (w0 : World), Kn n K a0 → Kn n Ke a0 → G (List.replicate chain.length none) w0 → wpAnyIn (fen n.r) 0 P .any ops Q ops.size (Array.replicate ops.size false) a0 w0 := by
 have main : ∀ (fuel : Nat) (listed : Array Bool) (a : Act) (vs : List (Option Value)) (w : World), listed.toList.count false ≤ fuel → AtH ops chain R G n K Ke listed a vs w →
   wpAnyIn (fen n.r) 0 P .any ops Q fuel listed a w := by
  intro fuel
  have done : ∀ (listed : Array Bool) (a : Act) (vs : List (Option Value)) (w : World), Region.ready .any ops listed = [] → AtH ops chain R G n K Ke listed a vs w → Q .normal a w := by
   intro listed a vs w hr H
   have all : ∀ i, i < ops.size → listed.getD i false = true := fun i hi => by
    have := ready_nil hB H.size hr i hi
    have hs := H.size
    simpa [Array.getD, show i < listed.size by omega] using this
   have hin' : ∀ p c, chain[p]? = some c → c < ops.size := fun p c hc => by
    have := List.all_eq_true.1 hin _ (List.mem_of_getElem? hc)
    simpa [Nat.blt_eq] using this
   have lt_of : ∀ i d, (ops[i]?).bind (·.dst) = some d → i < ops.size := fun i d hd => by
    rcases Nat.lt_or_ge i ops.size with h | h
    ·exact h
    ·simp [Array.getElem?_eq_none h] at hd
   exact hQ a w vs H.kn H.len (fun p hp => (H.link p chain[p] (by simp [hp])).1 (all _ (hin' p _ (by simp [hp])))) H.now (fun i d hd hc => H.plain i d hc (all i (lt_of i d hd)) hd) (fun p c d hc hd => H.vals p c d hc (all c (hin' p c hc)) hd)
  induction fuel with
  | zero =>
   intro listed a vs w hc H
   have hr : Region.ready .any ops listed = [] := by
    cases hr : Region.ready .any ops listed with
    | nil => rfl
    | cons i r =>
     have := (mem_ready (md := .any) (ops := ops) (j := i) (listed := listed)).1 (by rw [hr]; simp)
     rw [count_zero hc i] at this
     simp at this
   exact ⟨hr, done listed a vs w hr H⟩
  | succ fuel ih =>
   intro listed a vs w hc H
   refine ⟨fun hr => done listed a vs w hr H, fun i hi => ?_⟩
   obtain ⟨hun, o, ho, haf⟩ := mem_ready.1 hi
   have hilt : i < ops.size := by
    rcases Nat.lt_or_ge i ops.size with h | h
    ·exact h
    ·simp [Array.getElem?_eq_none h] at ho
   have hils : i < listed.size := by have := H.size; omega
   have hun' := getD_false_of hun
   have ok := opsB_spec hB ho
   have hs2 := h.at_ i o (by simpa using ho)
   rw [Nat.zero_add] at hs2
   have after_of : ∀ j d, depB ops o j d = true → listed.getD j false = true ∧ (ops[j]?).bind (·.dst) = some d := by
    intro j d hj
    simp only [depB, Bool.and_eq_true, Array.any_eq_true, beq_iff_eq] at hj
    obtain ⟨⟨k, hk, h1, h2⟩, h3⟩ := hj
    exact ⟨h1 ▸ haf _ (Array.getElem_mem hk) h2, h3⟩
   have ctx : CtxH ops chain R G n K Ke i o a w vs := by
    have opt : ∀ p c, chain[p]? = some c → listed.getD c false = false → vs[p]? = some none := fun p c hc hl => by
     have hp : p < vs.length := by rw [H.len]; exact (List.getElem?_eq_some_iff.1 hc).1
     rw [List.getElem?_eq_getElem hp]
     cases hx : vs[p] with
     | none => rfl
     | some v =>
      have := (H.link p c hc).2 ⟨v, by rw [List.getElem?_eq_getElem hp, hx]⟩
      rw [hl] at this; cases this
    refine ⟨H.now, H.kn, fun j d hj hc => H.plain j d hc (after_of j d hj).1 (after_of j d hj).2, H.len, fun p c d hc hj => H.vals p c d hc (after_of c d hj).1 (after_of c d hj).2, fun p c hc ha => ?_, fun p c hc ha => opt p c hc ?_, fun p c hc ha => opt p c hc ?_, fun d v hd hc => H.old d v hd fun c hcd => ?_⟩
    ·simp only [Array.any_eq_true, Bool.and_eq_true, beq_iff_eq] at ha
     obtain ⟨k, hk, h1, h2⟩ := ha
     exact (H.link p c hc).1 (h1 ▸ haf _ (Array.getElem_mem hk) h2)
    ·cases hl : listed.getD c false with
     | false => rfl
     | true =>
      exfalso
      unfold afterB at ha
      split at ha
      ·rename_i oc hoc
       simp only [Array.any_eq_true, Bool.and_eq_true, beq_iff_eq] at ha
       obtain ⟨k, hk, h1, h2⟩ := ha
       have := H.closed c oc hoc hl _ (Array.getElem_mem hk) h2
       rw [h1, hun'] at this
       cases this
      ·cases ha
    ·cases hl : listed.getD c false with
     | false => rfl
     | true =>
      exfalso
      have := anc_listed H.closed hl i (by simpa using ha)
      rw [hun'] at this
      cases this
    ·cases hl : listed.getD c false with
     | false => rfl
     | true =>
      exfalso
      have := anc_listed H.closed hl i (by simpa using hc c hcd)
      rw [hun'] at this
      cases this
   unfold wpOpIn
   simp only [ho]
   -- what is behind a step
   have step : ∀ (v : Value) (vs' : List (Option Value)) (w' : World), (∀ j u, R j u w → R j u w') → G vs' w' → (∀ d, o.dst = some d → chain.contains i = false → R i v w') →
     ((chain.contains i = false ∧ vs' = vs) ∨ (∃ p, chain[p]? = some i ∧ vs' = vs.set p (some v))) →
     wpAnyIn (fen n.r) 0 P .any ops Q fuel (listed.setIfInBounds i true) (Act.put a o.dst v) w' := by
    intro v vs' w' hle hG hRi hvs
    have hc' := count_set (l := listed) hils hun hc
    have hset : ∀ j, (listed.setIfInBounds i true).getD j false = true ↔ j = i ∨ listed.getD j false = true := by
     intro j
     by_cases hj : j = i
     ·subst hj; simp [getD_set_eq hils]
     ·rw [getD_set_ne false (Ne.symm hj)]; simp [hj]
    have hother : ∀ j k, j ≠ i → (ops[j]?).bind (·.dst) = some k → (Act.put a o.dst v).tmps.getD k undef = a.tmps.getD k undef := by
     intro j k hji hjk
     refine act_put_other (fun hd => ?_)
     have hjlt : j < ops.size := by
      rcases Nat.lt_or_ge j ops.size with h | h
      ·exact h
      ·simp [Array.getElem?_eq_none h] at hjk
     exact hji (ok.own k j hd hjlt hjk).symm
    have hself : ∀ d, (ops[i]?).bind (·.dst) = some d → (Act.put a o.dst v).tmps.getD d undef = v := by
     intro d hd
     rw [ho] at hd
     simp only [Option.bind_some] at hd
     rw [hd]
     exact act_put_self (by rw [H.kn.size]; exact ok.lt d hd)
    refine ih _ _ vs' w' hc' ⟨by simpa using H.size, H.kn.put_clear (fun k hk => clearB_look hclear (mem_dsts ho hk)) v, fun j d hjc hj hjd => ?_, fun p c hpc => ?_, fun p c d hpc hp hcd => ?_, ?_, fun j oj hoj hj e he hb => ?_, hG, fun d u hd hc => ?_⟩
    ·by_cases hji : j = i
     ·subst hji
      rw [hself d hjd]
      rw [ho] at hjd
      exact hRi d hjd hjc
     ·rw [hother j d hji hjd]
      exact hle _ _ (H.plain j d hjc (((hset j).1 hj).resolve_left hji) hjd)
    ·rw [hset]
     rcases hvs with ⟨hci, rfl⟩ | ⟨q, hq, rfl⟩
     ·have : c ≠ i := by
       rintro rfl
       have := List.mem_of_getElem? hpc
       simp [this] at hci
      exact ⟨fun h => (H.link p c hpc).1 (h.resolve_left this), fun h => .inr ((H.link p c hpc).2 h)⟩
     ·have hpl : q < vs.length := by rw [H.len]; exact (List.getElem?_eq_some_iff.1 hq).1
      by_cases hpq : p = q
      ·subst hpq
       rw [hq] at hpc
       simp only [Option.some.injEq] at hpc
       subst hpc
       exact ⟨fun _ => ⟨v, by rw [List.getElem?_set_self hpl]⟩, fun _ => .inl rfl⟩
      ·have hci : c ≠ i := by
        rintro rfl
        exact hpq ((List.getElem?_inj (List.getElem?_eq_some_iff.1 hpc).1 hnd).1 (hpc.trans hq.symm))
       rw [List.getElem?_set_ne (Ne.symm hpq)]
       exact ⟨fun h => (H.link p c hpc).1 (h.resolve_left hci), fun h => .inr ((H.link p c hpc).2 h)⟩
    ·rcases hvs with ⟨hci, rfl⟩ | ⟨q, hq, rfl⟩
     ·have hne : c ≠ i := by
       rintro rfl
       have := List.mem_of_getElem? hpc
       simp [this] at hci
      rw [hother c d hne hcd]
      exact H.vals p c d hpc (((hset c).1 hp).resolve_left hne) hcd
     ·have hpl : q < vs.length := by rw [H.len]; exact (List.getElem?_eq_some_iff.1 hq).1
      by_cases hpq : p = q
      ·subst hpq
       rw [hq] at hpc
       simp only [Option.some.injEq] at hpc
       subst hpc
       rw [hself d hcd, List.getElem?_set_self hpl]
      ·have hne : c ≠ i := by
        rintro rfl
        exact hpq ((List.getElem?_inj (List.getElem?_eq_some_iff.1 hpc).1 hnd).1 (hpc.trans hq.symm))
       rw [hother c d hne hcd, List.getElem?_set_ne (Ne.symm hpq)]
       exact H.vals p c d hpc (((hset c).1 hp).resolve_left hne) hcd
    ·rcases hvs with ⟨hci, rfl⟩ | ⟨q, hq, rfl⟩
     ·exact H.len
     ·rw [List.length_set]; exact H.len
    ·rw [hset]
     by_cases hji : j = i
     ·subst hji
      rw [ho] at hoj
      simp only [Option.some.injEq] at hoj
      subst hoj
      exact .inr (haf e he hb)
     ·exact .inr (H.closed j oj hoj (((hset j).1 hj).resolve_left hji) e he hb)
    ·have hne : o.dst ≠ some d := fun e => by
      have := hc i (by rw [ho]; exact e)
      rw [(hset i).2 (.inl rfl)] at this
      cases this
     rw [act_put_other hne]
     refine H.old d u hd fun c hcd => ?_
     cases hl : listed.getD c false with
     | false => rfl
     | true => have := hc c hcd; rw [(hset c).2 (.inr hl)] at this; cases this
   rcases hs2 with ⟨hci, β, hg, hgc, hs1, hs2⟩ | ⟨p, hp, hgn, hs2⟩
   ·have hwant : Region.wanted o (yielded ops a.tmps) = β := by
     have known : ∀ g c d b, o.guard = some (g, b) → (∀ v w, R g v w → (d = true → v = .bool c) ∧ (d = false → v = undef)) → yielded ops a.tmps g = if d then some c else none := by
      intro g c dd b hgb hv
      obtain ⟨⟨e, he, h1, h2⟩, d, hd⟩ := ok.guard g b hgb
      have hv := hv (a.tmps.getD d undef) w (H.plain g d (hgc g b hgb) (h1 ▸ haf e he h2) hd)
      have hdlt : d < a.tmps.size := by
       obtain ⟨og, hog, hgd⟩ := Option.bind_eq_some_iff.1 hd
       rw [H.kn.size]
       exact (opsB_spec hB hog).lt d hgd
      unfold yielded
      rw [hd]
      simp only [Array.getD_eq_getD_getElem?, Array.getElem?_eq_getElem hdlt, Option.getD_some] at hv
      cases dd with
      | true => simp [hdlt, hv.1 rfl]
      | false => simp [hdlt, hv.2 rfl, undef]
     cases hg with
     | none h => unfold Region.wanted; rw [h]
     | @yes g c d h hv => have := known _ _ _ _ h hv; unfold Region.wanted; rw [h]; simp only [this]; cases d <;> simp
     | @no g c d h hv => have := known _ _ _ _ h hv; unfold Region.wanted; rw [h]; simp only [this]; cases d <;> cases c <;> simp
    cases hβ : β with
    | false =>
     rw [hβ] at hwant
     simp only [hwant, Bool.false_eq_true, if_false]
     refine ⟨fun f _ => fen_fn _ f, ?_⟩
     exact step undef vs w (fun _ _ h => h) H.now (fun _ _ _ => hs1 hβ w) (.inl ⟨hci, rfl⟩)
    | true =>
     rw [hβ] at hwant
     simp only [hwant, if_true]
     refine Oper.wpIn_mono ?_ (hs2 hβ a w vs ctx)
     rintro a' w' ⟨v, rfl, hle, hG, hRi⟩
     exact step v vs w' (fun j u hj => hR j u _ _ hj hle) hG (fun _ _ _ => hRi) (.inl ⟨hci, rfl⟩)
   ·have hwant : Region.wanted o (yielded ops a.tmps) = true := by unfold Region.wanted; rw [hgn]
    have hnone : vs[p]? = some none := by
     have hp' : p < vs.length := by rw [H.len]; exact (List.getElem?_eq_some_iff.1 hp).1
     rw [List.getElem?_eq_getElem hp']
     cases hx : vs[p] with
     | none => rfl
     | some v =>
      have := (H.link p i hp).2 ⟨v, by rw [List.getElem?_eq_getElem hp', hx]⟩
      rw [hun'] at this; cases this
    simp only [hwant, if_true]
    refine Oper.wpIn_mono ?_ (hs2 a w vs ctx hnone)
    rintro a' w' ⟨v, rfl, hle, hG⟩
    have hcc : chain.contains i = true := by
     have := List.mem_of_getElem? hp
     simpa using this
    exact step v (vs.set p (some v)) w' (fun j u hj => hR j u _ _ hj hle) hG (fun _ _ h => by rw [hcc] at h; cases h) (.inr ⟨p, hp, rfl⟩)
 intro a0 w0 hk0 hke h0
 have nothing' : ∀ i, (Array.replicate ops.size false).getD i false = false := fun i => by
  by_cases h : i < ops.size <;> simp [Array.getD, h]
 refine main _ _ _ (List.replicate chain.length none) _ (by simp) ⟨by simp, hk0, fun i d _ hi => ?_, fun p c hpc => ?_, fun p c d _ hp => ?_, by simp, fun i o _ hi => ?_, h0, fun d v hd _ => hke.knows d v hd⟩
 ·rw [nothing'] at hi; cases hi
 ·rw [nothing']
  refine ⟨fun h => (by cases h), fun ⟨v, hv⟩ => ?_⟩
  have hp := (List.getElem?_eq_some_iff.1 hpc).1
  simp [hp] at hv
 ·rw [nothing'] at hp; cases hp
 ·rw [nothing'] at hi; cases hi
/-- The law: of what is known of the frame 'K0' is what the region does not write. -/
theorem WC.genH {id : Nat} {dr : Bool} {Q : Exit → Act → World → Prop} {n : Fr} {K : Known} {w : World} (chain : List Nat) (R : Nat → Value → World → Prop) (Le : World → World → Prop) (G : List (Option Value) → World → Prop) (K0 : Known)
  (hs : subK K0 K) (hclear : clearB ops K0 = true) (hm : P.follows .mixedOrders = true) (hB : opsB ops n.n = true) (hnd : chain.Nodup) (hin : (chain.all fun c => Nat.blt c ops.size) = true)
  (hR : ∀ i v w w', R i v w → Le w w' → R i v w') (h0 : G (List.replicate chain.length none) (bif dr then w.drew else w))
  (h : SoundFromH P ops Q chain R Le G n K0 K 0 ops.toList)
  (hQ : ∀ (a : Act) (w : World) (vs : List (Option Value)), Kn n K0 a → vs.length = chain.length → (∀ p, p < chain.length → ∃ v, vs[p]? = some (some v)) → G vs w → (∀ i d, (ops[i]?).bind (·.dst) = some d → chain.contains i = false → R i (a.tmps.getD d undef) w) → (∀ (p c d : Nat), chain[p]? = some c → (ops[c]?).bind (·.dst) = some d → vs[p]? = some (some (a.tmps.getD d undef))) → Q .normal a w) :
  WC P n K w (.region id ops dr) Q := by
 intro a ha
 have main := wp_any_genH (Ke := K) chain R Le G hB hnd hin hclear hR h hQ a
 cases dr with
 | true => exact wpIn_region_any hm (main _ (ha.sub hs) ha h0)
 | false => exact any_start hB (main _ (ha.sub hs) ha h0)
end
section
variable {P : Program} {ops : Array Oper} {S : Nat → Prop}
/-- That slot 'd' is not written yet. -/
def earlyB (ops : Array Oper) (i d : Nat) : Bool := (List.range ops.size).all fun c => !((ops[c]?).bind (·.dst) == some d) || (ancL ops c).contains i
theorem earlyB_of {ops : Array Oper} {i d : Nat} (h : earlyB ops i d = true) : ∀ c, (ops[c]?).bind (·.dst) = some d → (ancL ops c).contains i = true := fun c hc => by
 have hlt : c < ops.size := by
  rcases Nat.lt_or_ge c ops.size with h | h
  ·exact h
  ·simp [Array.getElem?_eq_none h] at hc
 have := List.all_eq_true.1 h c (List.mem_range.2 hlt)
 simpa [hc] using this
structure CtxA3 (ops : Array Oper) (l : List (Bool × SpS S)) (chain : List Nat) (first : Nat) (n : Fr) (K Ke : Known) (w0 : World) (i : Nat) (o : Oper) (a : Act) (w : World) : Prop extends CtxA ops l chain first n K w0 i o a w where
 old : ∀ d v, look Ke d = some v → earlyB ops i d = true → a.tmps.getD d undef = v
def Tail3 (P : Program) (ops : Array Oper) (Q : Exit → Act → World → Prop) (l : List (Bool × SpS S)) (n : Fr) (K Ke : Known) (w0 : World) (p q N : Nat) (GA : Option Addr → Nat → World → Prop) : Nat → List Oper → Prop
 | _, [] => True
 | i, o :: r => (([p, q].contains i = false ∧ ∃ β, GuardIs (optS l) o β ∧ (∀ g b, o.guard = some (g, b) → [p, q].contains g = false) ∧ (β = false → ∀ w, optS l i undef w) ∧
   (β = true → ∀ a w, CtxA3 ops l [p, q] p n K Ke w0 i o a w → o.wp P a w (fun a' w' => ∃ v, a' = Act.put a o.dst v ∧ Below w.heap.size w w' ∧ optS l i v w') Q)) ∨
  (i = p ∧ o.guard = none ∧ ∀ a w, CtxB ops l [p, q] n K w0 o a w → o.wp P a w (fun a' w' => ∃ ra rc, a' = Act.put a o.dst (.slice ra N rc) ∧ GA ra rc w' ∧ Chg S w w') Q) ∨
  (i = q ∧ o.guard = none ∧ ∃ d, depB ops o p d = true ∧ o.op = .assign (.tmp d))) ∧ Tail3 P ops Q l n K Ke w0 p q N GA (i + 1) r
def G3 (S : Nat → Prop) (w0 : World) (N : Nat) (GA : Option Addr → Nat → World → Prop) : List (Option Value) → World → Prop
 | [none, none], w => Below w0.heap.size w0 w
 | [some v, none], w => ∃ ra rc, v = .slice ra N rc ∧ GA ra rc w ∧ Chg S w0 w
 | [some v, some u], w => ∃ ra rc, v = .slice ra N rc ∧ u = .slice ra N rc ∧ GA ra rc w ∧ Chg S w0 w
 | _, _ => False
theorem G3.chg {w0 w : World} {N : Nat} {GA : Option Addr → Nat → World → Prop} : ∀ {vs : List (Option Value)}, G3 S w0 N GA vs w → Chg S w0 w
 | [none, none], h => .ofBelow h
 | [some _, none], h => by obtain ⟨_, _, _, _, h⟩ := h; exact h
 | [some _, some _], h => by obtain ⟨_, _, _, _, _, h⟩ := h; exact h
 | [none, some _], h => h.elim
 | [], h => h.elim
 | [x], h => by cases x <;> exact h.elim
 | _ :: _ :: _ :: _, h => by simp [G3] at h
theorem Tail3.gen {Q : Exit → Act → World → Prop} {l : List (Bool × SpS S)} {n : Fr} {K Ke : Known} {w0 : World} {p q N : Nat} {GA : Option Addr → Nat → World → Prop} (hpq : p ≠ q) (hGA : ∀ ra rc w w', Below w.heap.size w w' → GA ra rc w → GA ra rc w') : ∀ {lo : List Oper} {i : Nat}, Tail3 P ops Q l n K Ke w0 p q N GA i lo →
  SoundFromH P ops Q [p, q] (optS l) (Chg S) (G3 S w0 N GA) n K Ke i lo
 | [], _, _ => trivial
 | o :: r, i, ⟨h, hr⟩ => by
  refine ⟨?_, hr.gen hpq hGA⟩
  rcases h with ⟨hi, β, h1, h2, h3, h4⟩ | ⟨rfl, hg, h4⟩ | ⟨rfl, hg, d, hd, ho⟩
  ·refine .inl ⟨hi, β, h1, h2, h3, fun hβ a w vs C => ?_⟩
   refine Oper.wpIn_mono ?_ (wpIn_of (h4 hβ a w ⟨⟨C.now.chg, C.kn, C.dep, fun he => ?_⟩, fun d v hd hb => C.old d v hd (earlyB_of hb)⟩) (by rintro a' w' ⟨v, rfl, _⟩; exact put_defers _ _ _))
   ·rintro a' w' ⟨v, rfl, hb, hR⟩
    refine ⟨v, rfl, .ofBelow hb, ?_, hR⟩
    match vs, C.len, C.now with
    | [none, none], _, h => exact bstep h hb
    | [some _, none], _, ⟨ra, rc, e, h, hc⟩ => exact ⟨ra, rc, e, hGA _ _ _ _ hb h, hc.trans (.ofBelow hb)⟩
    | [some _, some _], _, ⟨ra, rc, e, e2, h, hc⟩ => exact ⟨ra, rc, e, e2, hGA _ _ _ _ hb h, hc.trans (.ofBelow hb)⟩
    | [none, some _], _, h => exact h.elim
   ·have := C.mostT 0 p rfl he
    match vs, C.len, C.now, this with
    | [none, none], _, h, _ => exact h
    | [none, some _], _, h, _ => exact h.elim
  ·refine .inr ⟨0, rfl, hg, fun a w vs C hn => ?_⟩
   match vs, C.len, C.now, hn, C with
   | [none, none], _, h, _, C =>
    refine Oper.wpIn_mono ?_ (wpIn_of (h4 a w ⟨h, C.kn, C.dep⟩) (by rintro a' w' ⟨_, _, rfl, _⟩; exact put_defers _ _ _))
    rintro a' w' ⟨ra, rc, rfl, hG, hc⟩
    exact ⟨_, rfl, hc, ra, rc, rfl, hG, (Chg.ofBelow h).trans hc⟩
   | [none, some _], _, h, _, _ => exact h.elim
  ·refine .inr ⟨1, rfl, hg, fun a w vs C hn => ?_⟩
   have hl := C.link 0 p d rfl hd
   match vs, C.len, C.now, hn, hl, C with
   | [some v, none], _, ⟨ra, rc, e, h, hc⟩, _, hl, C =>
    have hv : v = a.tmps.getD d undef := by simpa using hl
    refine Oper.wpIn_mono ?_ (wpIn_of (K := fun a' w' => a' = Act.put a o.dst (.slice ra N rc) ∧ w' = w) (wp_assign ho (show a.tmps.getD d undef = .slice ra N rc from (hv ▸ e)) ⟨rfl, rfl⟩) (by rintro a' w' ⟨rfl, _⟩; exact put_defers _ _ _))
    rintro a' w' ⟨rfl, rfl⟩
    exact ⟨_, rfl, .refl _ _, ra, rc, e, rfl, h, hc⟩
theorem WC.tail3 {id : Nat} {dr : Bool} {Q : Exit → Act → World → Prop} {n : Fr} {K : Known} {w : World} (l : List (Bool × SpS S)) (K0 : Known) (p q N dp dq : Nat) (GA : Option Addr → Nat → World → Prop) (hpq : p ≠ q) (hGA : ∀ ra rc w w', Below w.heap.size w w' → GA ra rc w → GA ra rc w')
  (hs : subK K0 K) (hclear : clearB ops K0 = true) (hm : P.follows .mixedOrders = true) (hB : opsB ops n.n = true) (hin : ([p, q].all fun c => Nat.blt c ops.size) = true) (hdp : (ops[p]?).bind (·.dst) = some dp) (hdq : (ops[q]?).bind (·.dst) = some dq)
  (h : Tail3 P ops Q l n K0 K w p q N GA 0 ops.toList)
  (hQ : ∀ (a : Act) (w' : World) (ra : Option Addr) (rc : Nat), Kn n K0 a → a.tmps.getD dp undef = .slice ra N rc → a.tmps.getD dq undef = .slice ra N rc → GA ra rc w' → Chg S w w' → (∀ i d, (ops[i]?).bind (·.dst) = some d → [p, q].contains i = false → optS l i (a.tmps.getD d undef) w') → Q .normal a w') :
  WC P n K w (.region id ops dr) Q := by
 refine WC.genH [p, q] (optS l) (Chg S) (G3 S w N GA) K0 hs hclear hm hB (by simpa using hpq) hin (optSKeep l) ?_ (h.gen hpq hGA) (fun a w' vs hk hlen hall hG hu hl => ?_)
 ·cases dr with
  | true => exact (Below.refl _ _).drew
  | false => exact Below.refl _ _
 ·obtain ⟨v, hv⟩ := hall 0 (by simp)
  obtain ⟨u, hu1⟩ := hall 1 (by simp)
  have hx := hl 0 p dp rfl hdp
  have hx2 := hl 1 q dq rfl hdq
  match vs, hlen, hv, hu1, hx, hx2, hG with
  | [some y, some z], _, _, _, hx, hx2, ⟨ra, rc, e, e2, hG, hc⟩ =>
   have hy : y = a.tmps.getD dp undef := by simpa using hx
   have hz : z = a.tmps.getD dq undef := by simpa using hx2
   exact hQ a w' ra rc hk (hy ▸ e) (hz ▸ e2) hG hc hu
end
end Go.Proofs.Ytmdpiafeiopimaa

/- Regions in whatever order, in which operations that change the memory may be guarded: one behind the other, each with what it yields. -/
namespace Go.Proofs.Ytmdpiafeiopimaa
open Go.RowKit Go
set_option linter.unusedVariables false
set_option linter.unusedSimpArgs false
section
variable {P : Program} {ops : Array Oper}
structure CtxQ (ops : Array Oper) (chain : List Nat) (R : Nat → Value → World → Prop) (G : List (Option Value) → World → Prop) (n : Fr) (K Ke : Known) (i : Nat) (o : Oper) (a : Act) (w : World) (vs : List (Option Value)) : Prop extends CtxH ops chain R G n K Ke i o a w vs where
 anc : ∀ (p c : Nat), chain[p]? = some c → o.after.any (fun e => Region.binds .any e && (ancL ops e.on).contains c) = true → ∃ v, vs[p]? = some (some v)
def SoundQ (P : Program) (ops : Array Oper) (Q : Exit → Act → World → Prop) (chain : List Nat) (R : Nat → Value → World → Prop) (Le : World → World → Prop) (G : List (Option Value) → World → Prop) (n : Fr) (K Ke : Known) (i : Nat) (o : Oper) : Prop :=
 (chain.contains i = false ∧ ∃ β, GuardIs R o β ∧ (∀ g b, o.guard = some (g, b) → chain.contains g = false) ∧ (β = false → ∀ w, R i undef w) ∧
  (β = true → ∀ (a : Act) (w : World) (vs : List (Option Value)), CtxQ ops chain R G n K Ke i o a w vs →
   o.wpIn (fen n.r) 0 P a w (fun a' w' => ∃ v, a' = Act.put a o.dst v ∧ Le w w' ∧ G vs w' ∧ R i v w') Q)) ∨
 (∃ p, chain[p]? = some i ∧ ∃ β, GuardIs R o β ∧ (∀ g b, o.guard = some (g, b) → chain.contains g = false) ∧
  (β = false → ∀ (a : Act) (w : World) (vs : List (Option Value)), CtxQ ops chain R G n K Ke i o a w vs → vs[p]? = some none → G (vs.set p (some undef)) w) ∧
  (β = true → ∀ (a : Act) (w : World) (vs : List (Option Value)), CtxQ ops chain R G n K Ke i o a w vs → vs[p]? = some none →
   o.wpIn (fen n.r) 0 P a w (fun a' w' => ∃ v, a' = Act.put a o.dst v ∧ Le w w' ∧ G (vs.set p (some v)) w') Q))
def SoundFromQ (P : Program) (ops : Array Oper) (Q : Exit → Act → World → Prop) (chain : List Nat) (R : Nat → Value → World → Prop) (Le : World → World → Prop) (G : List (Option Value) → World → Prop) (n : Fr) (K Ke : Known) : Nat → List Oper → Prop
 | _, [] => True
 | k, o :: r => SoundQ P ops Q chain R Le G n K Ke k o ∧ SoundFromQ P ops Q chain R Le G n K Ke (k + 1) r
theorem SoundFromQ.at_ {Q : Exit → Act → World → Prop} {chain : List Nat} {R : Nat → Value → World → Prop} {Le : World → World → Prop} {G : List (Option Value) → World → Prop} {n : Fr} {K Ke : Known} : ∀ {l : List Oper} {k : Nat}, SoundFromQ P ops Q chain R Le G n K Ke k l → ∀ i o, l[i]? = some o → SoundQ P ops Q chain R Le G n K Ke (k + i) o
 | [], _, _, i, o, h => by simp at h
 | x :: r, k, h, 0, o, ho => by simp at ho; subst ho; exact h.1
 | x :: r, k, h, i + 1, o, ho => by
  have := h.2.at_ i o (by simpa using ho)
  rwa [show k + 1 + i = k + (i + 1) by omega] at this
theorem wp_any_genQ {Q : Exit → Act → World → Prop} {n : Fr} {K Ke : Known} (chain : List Nat) (R : Nat → Value → World → Prop) (Le : World → World → Prop) (G : List (Option Value) → World → Prop)
  (hB : opsB ops n.n = true) (hnd : chain.Nodup) (hin : (chain.all fun c => Nat.blt c ops.size) = true) (hclear : clearB ops K = true)
  (hR : ∀ i v w w', R i v w → Le w w' → R i v w')
  (h : SoundFromQ P ops Q chain R Le G n K Ke 0 ops.toList)
  (hQ : ∀ (a : Act) (w : World) (vs : List (Option Value)), Kn n K a → vs.length = chain.length → (∀ p, p < chain.length → ∃ v, vs[p]? = some (some v)) → G vs w → (∀ i d, (ops[i]?).bind (·.dst) = some d → chain.contains i = false → R i (a.tmps.getD d undef) w) → (∀ (p c d : Nat), chain[p]? = some c → (ops[c]?).bind (·.dst) = some d → vs[p]? = some (some (a.tmps.getD d undef))) → Q .normal a w) :
  ∀ (a0 : Act) (w0 : World), Kn n K a0 → Kn n Ke a0 → G (List.replicate chain.length none) w0 → wpAnyIn (fen n.r) 0 P .any ops Q ops.size (Array.replicate ops.size false) a0 w0 := by
 have main : ∀ (fuel : Nat) (listed : Array Bool) (a : Act) (vs : List (Option Value)) (w : World), listed.toList.count false ≤ fuel → AtH ops chain R G n K Ke listed a vs w →
   wpAnyIn (fen n.r) 0 P .any ops Q fuel listed a w := by
  intro fuel
  have done : ∀ (listed : Array Bool) (a : Act) (vs : List (Option Value)) (w : World), Region.ready .any ops listed = [] → AtH ops chain R G n K Ke listed a vs w → Q .normal a w := by
   intro listed a vs w hr H
   have all : ∀ i, i < ops.size → listed.getD i false = true := fun i hi => by
    have := ready_nil hB H.size hr i hi
    have hs := H.size
    simpa [Array.getD, show i < listed.size by omega] using this
   have hin' : ∀ p c, chain[p]? = some c → c < ops.size := fun p c hc => by
    have := List.all_eq_true.1 hin _ (List.mem_of_getElem? hc)
    simpa [Nat.blt_eq] using this
   have lt_of : ∀ i d, (ops[i]?).bind (·.dst) = some d → i < ops.size := fun i d hd => by
    rcases Nat.lt_or_ge i ops.size with h | h
    ·exact h
    ·simp [Array.getElem?_eq_none h] at hd
   exact hQ a w vs H.kn H.len (fun p hp => (H.link p chain[p] (by simp [hp])).1 (all _ (hin' p _ (by simp [hp])))) H.now (fun i d hd hc => H.plain i d hc (all i (lt_of i d hd)) hd) (fun p c d hc hd => H.vals p c d hc (all c (hin' p c hc)) hd)
  induction fuel with
  | zero =>
   intro listed a vs w hc H
   have hr : Region.ready .any ops listed = [] := by
    cases hr : Region.ready .any ops listed with
    | nil => rfl
    | cons i r =>
     have := (mem_ready (md := .any) (ops := ops) (j := i) (listed := listed)).1 (by rw [hr]; simp)
     rw [count_zero hc i] at this
     simp at this
   exact ⟨hr, done listed a vs w hr H⟩
  | succ fuel ih =>
   intro listed a vs w hc H
   refine ⟨fun hr => done listed a vs w hr H, fun i hi => ?_⟩
   obtain ⟨hun, o, ho, haf⟩ := mem_ready.1 hi
   have hilt : i < ops.size := by
    rcases Nat.lt_or_ge i ops.size with h | h
    ·exact h
    ·simp [Array.getElem?_eq_none h] at ho
   have hils : i < listed.size := by have := H.size; omega
   have hun' := getD_false_of hun
   have ok := opsB_spec hB ho
   have hs2 := h.at_ i o (by simpa using ho)
   rw [Nat.zero_add] at hs2
   have after_of : ∀ j d, depB ops o j d = true → listed.getD j false = true ∧ (ops[j]?).bind (·.dst) = some d := by
    intro j d hj
    simp only [depB, Bool.and_eq_true, Array.any_eq_true, beq_iff_eq] at hj
    obtain ⟨⟨k, hk, h1, h2⟩, h3⟩ := hj
    exact ⟨h1 ▸ haf _ (Array.getElem_mem hk) h2, h3⟩
   have ctx : CtxH ops chain R G n K Ke i o a w vs := by
    have opt : ∀ p c, chain[p]? = some c → listed.getD c false = false → vs[p]? = some none := fun p c hc hl => by
     have hp : p < vs.length := by rw [H.len]; exact (List.getElem?_eq_some_iff.1 hc).1
     rw [List.getElem?_eq_getElem hp]
     cases hx : vs[p] with
     | none => rfl
     | some v =>
      have := (H.link p c hc).2 ⟨v, by rw [List.getElem?_eq_getElem hp, hx]⟩
      rw [hl] at this; cases this
    refine ⟨H.now, H.kn, fun j d hj hc => H.plain j d hc (after_of j d hj).1 (after_of j d hj).2, H.len, fun p c d hc hj => H.vals p c d hc (after_of c d hj).1 (after_of c d hj).2, fun p c hc ha => ?_, fun p c hc ha => opt p c hc ?_, fun p c hc ha => opt p c hc ?_, fun d v hd hc => H.old d v hd fun c hcd => ?_⟩
    ·simp only [Array.any_eq_true, Bool.and_eq_true, beq_iff_eq] at ha
     obtain ⟨k, hk, h1, h2⟩ := ha
     exact (H.link p c hc).1 (h1 ▸ haf _ (Array.getElem_mem hk) h2)
    ·cases hl : listed.getD c false with
     | false => rfl
     | true =>
      exfalso
      unfold afterB at ha
      split at ha
      ·rename_i oc hoc
       simp only [Array.any_eq_true, Bool.and_eq_true, beq_iff_eq] at ha
       obtain ⟨k, hk, h1, h2⟩ := ha
       have := H.closed c oc hoc hl _ (Array.getElem_mem hk) h2
       rw [h1, hun'] at this
       cases this
      ·cases ha
    ·cases hl : listed.getD c false with
     | false => rfl
     | true =>
      exfalso
      have := anc_listed H.closed hl i (by simpa using ha)
      rw [hun'] at this
      cases this
    ·cases hl : listed.getD c false with
     | false => rfl
     | true =>
      exfalso
      have := anc_listed H.closed hl i (by simpa using hc c hcd)
      rw [hun'] at this
      cases this
   have ctxQ : CtxQ ops chain R G n K Ke i o a w vs := ⟨ctx, fun p c hc ha => by
    simp only [Array.any_eq_true, Bool.and_eq_true] at ha
    obtain ⟨k, hk, h1, h2⟩ := ha
    exact (H.link p c hc).1 (anc_listed H.closed (haf _ (Array.getElem_mem hk) h1) c (by simpa using h2))⟩
   unfold wpOpIn
   simp only [ho]
   -- what is behind a step
   have step : ∀ (v : Value) (vs' : List (Option Value)) (w' : World), (∀ j u, R j u w → R j u w') → G vs' w' → (∀ d, o.dst = some d → chain.contains i = false → R i v w') →
     ((chain.contains i = false ∧ vs' = vs) ∨ (∃ p, chain[p]? = some i ∧ vs' = vs.set p (some v))) →
     wpAnyIn (fen n.r) 0 P .any ops Q fuel (listed.setIfInBounds i true) (Act.put a o.dst v) w' := by
    intro v vs' w' hle hG hRi hvs
    have hc' := count_set (l := listed) hils hun hc
    have hset : ∀ j, (listed.setIfInBounds i true).getD j false = true ↔ j = i ∨ listed.getD j false = true := by
     intro j
     by_cases hj : j = i
     ·subst hj; simp [getD_set_eq hils]
     ·rw [getD_set_ne false (Ne.symm hj)]; simp [hj]
    have hother : ∀ j k, j ≠ i → (ops[j]?).bind (·.dst) = some k → (Act.put a o.dst v).tmps.getD k undef = a.tmps.getD k undef := by
     intro j k hji hjk
     refine act_put_other (fun hd => ?_)
     have hjlt : j < ops.size := by
      rcases Nat.lt_or_ge j ops.size with h | h
      ·exact h
      ·simp [Array.getElem?_eq_none h] at hjk
     exact hji (ok.own k j hd hjlt hjk).symm
    have hself : ∀ d, (ops[i]?).bind (·.dst) = some d → (Act.put a o.dst v).tmps.getD d undef = v := by
     intro d hd
     rw [ho] at hd
     simp only [Option.bind_some] at hd
     rw [hd]
     exact act_put_self (by rw [H.kn.size]; exact ok.lt d hd)
    refine ih _ _ vs' w' hc' ⟨by simpa using H.size, H.kn.put_clear (fun k hk => clearB_look hclear (mem_dsts ho hk)) v, fun j d hjc hj hjd => ?_, fun p c hpc => ?_, fun p c d hpc hp hcd => ?_, ?_, fun j oj hoj hj e he hb => ?_, hG, fun d u hd hc => ?_⟩
    ·by_cases hji : j = i
     ·subst hji
      rw [hself d hjd]
      rw [ho] at hjd
      exact hRi d hjd hjc
     ·rw [hother j d hji hjd]
      exact hle _ _ (H.plain j d hjc (((hset j).1 hj).resolve_left hji) hjd)
    ·rw [hset]
     rcases hvs with ⟨hci, rfl⟩ | ⟨q, hq, rfl⟩
     ·have : c ≠ i := by
       rintro rfl
       have := List.mem_of_getElem? hpc
       simp [this] at hci
      exact ⟨fun h => (H.link p c hpc).1 (h.resolve_left this), fun h => .inr ((H.link p c hpc).2 h)⟩
     ·have hpl : q < vs.length := by rw [H.len]; exact (List.getElem?_eq_some_iff.1 hq).1
      by_cases hpq : p = q
      ·subst hpq
       rw [hq] at hpc
       simp only [Option.some.injEq] at hpc
       subst hpc
       exact ⟨fun _ => ⟨v, by rw [List.getElem?_set_self hpl]⟩, fun _ => .inl rfl⟩
      ·have hci : c ≠ i := by
        rintro rfl
        exact hpq ((List.getElem?_inj (List.getElem?_eq_some_iff.1 hpc).1 hnd).1 (hpc.trans hq.symm))
       rw [List.getElem?_set_ne (Ne.symm hpq)]
       exact ⟨fun h => (H.link p c hpc).1 (h.resolve_left hci), fun h => .inr ((H.link p c hpc).2 h)⟩
    ·rcases hvs with ⟨hci, rfl⟩ | ⟨q, hq, rfl⟩
     ·have hne : c ≠ i := by
       rintro rfl
       have := List.mem_of_getElem? hpc
       simp [this] at hci
      rw [hother c d hne hcd]
      exact H.vals p c d hpc (((hset c).1 hp).resolve_left hne) hcd
     ·have hpl : q < vs.length := by rw [H.len]; exact (List.getElem?_eq_some_iff.1 hq).1
      by_cases hpq : p = q
      ·subst hpq
       rw [hq] at hpc
       simp only [Option.some.injEq] at hpc
       subst hpc
       rw [hself d hcd, List.getElem?_set_self hpl]
      ·have hne : c ≠ i := by
        rintro rfl
        exact hpq ((List.getElem?_inj (List.getElem?_eq_some_iff.1 hpc).1 hnd).1 (hpc.trans hq.symm))
       rw [hother c d hne hcd, List.getElem?_set_ne (Ne.symm hpq)]
       exact H.vals p c d hpc (((hset c).1 hp).resolve_left hne) hcd
    ·rcases hvs with ⟨hci, rfl⟩ | ⟨q, hq, rfl⟩
     ·exact H.len
     ·rw [List.length_set]; exact H.len
    ·rw [hset]
     by_cases hji : j = i
     ·subst hji
      rw [ho] at hoj
      simp only [Option.some.injEq] at hoj
      subst hoj
      exact .inr (haf e he hb)
     ·exact .inr (H.closed j oj hoj (((hset j).1 hj).resolve_left hji) e he hb)
    ·have hne : o.dst ≠ some d := fun e => by
      have := hc i (by rw [ho]; exact e)
      rw [(hset i).2 (.inl rfl)] at this
      cases this
     rw [act_put_other hne]
     refine H.old d u hd fun c hcd => ?_
     cases hl : listed.getD c false with
     | false => rfl
     | true => have := hc c hcd; rw [(hset c).2 (.inr hl)] at this; cases this
   have known : ∀ {β : Bool}, GuardIs R o β → (∀ g b, o.guard = some (g, b) → chain.contains g = false) → Region.wanted o (yielded ops a.tmps) = β := by
    intro β hg hgc
    have known : ∀ g c d b, o.guard = some (g, b) → (∀ v w, R g v w → (d = true → v = .bool c) ∧ (d = false → v = undef)) → yielded ops a.tmps g = if d then some c else none := by
     intro g c dd b hgb hv
     obtain ⟨⟨e, he, h1, h2⟩, d, hd⟩ := ok.guard g b hgb
     have hv := hv (a.tmps.getD d undef) w (H.plain g d (hgc g b hgb) (h1 ▸ haf e he h2) hd)
     have hdlt : d < a.tmps.size := by
      obtain ⟨og, hog, hgd⟩ := Option.bind_eq_some_iff.1 hd
      rw [H.kn.size]
      exact (opsB_spec hB hog).lt d hgd
     unfold yielded
     rw [hd]
     simp only [Array.getD_eq_getD_getElem?, Array.getElem?_eq_getElem hdlt, Option.getD_some] at hv
     cases dd with
     | true => simp [hdlt, hv.1 rfl]
     | false => simp [hdlt, hv.2 rfl, undef]
    cases hg with
    | none h => unfold Region.wanted; rw [h]
    | @yes g c d h hv => have := known _ _ _ _ h hv; unfold Region.wanted; rw [h]; simp only [this]; cases d <;> simp
    | @no g c d h hv => have := known _ _ _ _ h hv; unfold Region.wanted; rw [h]; simp only [this]; cases d <;> cases c <;> simp
   rcases hs2 with ⟨hci, β, hg, hgc, hs1, hs2⟩ | ⟨p, hp, β, hg, hgc, hs1, hs2⟩
   ·have hwant := known hg hgc
    cases hβ : β with
    | false =>
     rw [hβ] at hwant
     simp only [hwant, Bool.false_eq_true, if_false]
     refine ⟨fun f _ => fen_fn _ f, ?_⟩
     exact step undef vs w (fun _ _ h => h) H.now (fun _ _ _ => hs1 hβ w) (.inl ⟨hci, rfl⟩)
    | true =>
     rw [hβ] at hwant
     simp only [hwant, if_true]
     refine Oper.wpIn_mono ?_ (hs2 hβ a w vs ctxQ)
     rintro a' w' ⟨v, rfl, hle, hG, hRi⟩
     exact step v vs w' (fun j u hj => hR j u _ _ hj hle) hG (fun _ _ _ => hRi) (.inl ⟨hci, rfl⟩)
   ·have hwant := known hg hgc
    have hnone : vs[p]? = some none := by
     have hp' : p < vs.length := by rw [H.len]; exact (List.getElem?_eq_some_iff.1 hp).1
     rw [List.getElem?_eq_getElem hp']
     cases hx : vs[p] with
     | none => rfl
     | some v =>
      have := (H.link p i hp).2 ⟨v, by rw [List.getElem?_eq_getElem hp', hx]⟩
      rw [hun'] at this; cases this
    have hcc : chain.contains i = true := by
     have := List.mem_of_getElem? hp
     simpa using this
    cases hβ : β with
    | false =>
     rw [hβ] at hwant
     simp only [hwant, Bool.false_eq_true, if_false]
     refine ⟨fun f _ => fen_fn _ f, ?_⟩
     exact step undef (vs.set p (some undef)) w (fun _ _ h => h) (hs1 hβ a w vs ctxQ hnone) (fun _ _ h => by rw [hcc] at h; cases h) (.inr ⟨p, hp, rfl⟩)
    | true =>
     rw [hβ] at hwant
     simp only [hwant, if_true]
     refine Oper.wpIn_mono ?_ (hs2 hβ a w vs ctxQ hnone)
     rintro a' w' ⟨v, rfl, hle, hG⟩
     exact step v (vs.set p (some v)) w' (fun j u hj => hR j u _ _ hj hle) hG (fun _ _ h => by rw [hcc] at h; cases h) (.inr ⟨p, hp, rfl⟩)
 intro a0 w0 hk0 hke h0
 have nothing' : ∀ i, (Array.replicate ops.size false).getD i false = false := fun i => by
  by_cases h : i < ops.size <;> simp [Array.getD, h]
 refine main _ _ _ (List.replicate chain.length none) _ (by simp) ⟨by simp, hk0, fun i d _ hi => ?_, fun p c hpc => ?_, fun p c d _ hp => ?_, by simp, fun i o _ hi => ?_, h0, fun d v hd _ => hke.knows d v hd⟩
 ·rw [nothing'] at hi; cases hi
 ·rw [nothing']
  refine ⟨fun h => (by cases h), fun ⟨v, hv⟩ => ?_⟩
  have hp := (List.getElem?_eq_some_iff.1 hpc).1
  simp [hp] at hv
 ·rw [nothing'] at hp; cases hp
 ·rw [nothing'] at hi; cases hi
theorem WC.genQ {id : Nat} {dr : Bool} {Q : Exit → Act → World → Prop} {n : Fr} {K : Known} {w : World} (chain : List Nat) (R : Nat → Value → World → Prop) (Le : World → World → Prop) (G : List (Option Value) → World → Prop) (K0 : Known)
  (hs : subK K0 K) (hclear : clearB ops K0 = true) (hm : P.follows .mixedOrders = true) (hB : opsB ops n.n = true) (hnd : chain.Nodup) (hin : (chain.all fun c => Nat.blt c ops.size) = true)
  (hR : ∀ i v w w', R i v w → Le w w' → R i v w') (h0 : G (List.replicate chain.length none) (bif dr then w.drew else w))
  (h : SoundFromQ P ops Q chain R Le G n K0 K 0 ops.toList)
  (hQ : ∀ (a : Act) (w : World) (vs : List (Option Value)), Kn n K0 a → vs.length = chain.length → (∀ p, p < chain.length → ∃ v, vs[p]? = some (some v)) → G vs w → (∀ i d, (ops[i]?).bind (·.dst) = some d → chain.contains i = false → R i (a.tmps.getD d undef) w) → (∀ (p c d : Nat), chain[p]? = some c → (ops[c]?).bind (·.dst) = some d → vs[p]? = some (some (a.tmps.getD d undef))) → Q .normal a w) :
  WC P n K w (.region id ops dr) Q := by
 intro a ha
 have main := wp_any_genQ (Ke := K) chain R Le G hB hnd hin hclear hR h hQ a
 cases dr with
 | true => exact wpIn_region_any hm (main _ (ha.sub hs) ha h0)
 | false => exact any_start hB (main _ (ha.sub hs) ha h0)
/-! ### Values that are told -/
/-- Which of the operations of the chain are done, and what they have yielded. -/
def Vals (vals : List Value) (m : Nat) : List (Option Value) := vals.map some ++ List.replicate (m - vals.length) none
variable {S : Nat → Prop}
def GH (S : Nat → Prop) (w0 : World) (m : Nat) (cv : List (Option (Bool × Value))) (GV : List Value → World → Prop) (vs : List (Option Value)) (w : World) : Prop :=
 ∃ vals, vals.length ≤ m ∧ vs = Vals vals m ∧ GV vals w ∧ Chg S w0 w ∧ ∀ (q : Nat) b x, cv[q]? = some (some (b, x)) → b = true → ∀ v, vals[q]? = some v → v = x
theorem vals_some {vals : List Value} {m q : Nat} {v : Value} (h : (Vals vals m)[q]? = some (some v)) : vals[q]? = some v := by
 unfold Vals at h
 rcases Nat.lt_or_ge q vals.length with hq | hq
 ·rw [List.getElem?_append_left (by simpa using hq), List.getElem?_map, List.getElem?_eq_getElem hq] at h
  rw [List.getElem?_eq_getElem hq]; simpa using h
 ·rw [List.getElem?_append_right (by simpa using hq), List.getElem?_replicate] at h
  split at h
  ·cases h
  ·cases h
theorem vals_none {vals : List Value} {m q : Nat} (h : (Vals vals m)[q]? = some none) : vals.length ≤ q := by
 unfold Vals at h
 rcases Nat.lt_or_ge q vals.length with hq | hq
 ·rw [List.getElem?_append_left (by simpa using hq), List.getElem?_map, List.getElem?_eq_getElem hq] at h
  cases h
 ·exact hq
theorem vals_set {vals : List Value} {m : Nat} {v : Value} (h : vals.length < m) : (Vals vals m).set vals.length (some v) = Vals (vals ++ [v]) m := by
 unfold Vals
 rw [List.set_append_right _ _ (by simp), List.map_append, List.length_append, List.append_assoc]
 congr 1
 obtain ⟨k, hk⟩ : ∃ k, m - vals.length = k + 1 := ⟨m - vals.length - 1, by omega⟩
 rw [hk, List.replicate_succ, List.length_map, Nat.sub_self, List.set_cons_zero, show m - (vals.length + [v].length) = k by simp; omega]
 rfl
/-- What an operation finds: 'l' says what the others yield, 'cv' what those of the chain do; 'early': where it must come ahead of an operation of the chain. -/
structure CtxV (ops : Array Oper) (S : Nat → Prop) (l : List (Bool × SpS S)) (chain : List Nat) (cv : List (Option (Bool × Value))) (GV : List Value → World → Prop) (n : Fr) (K Ke : Known) (w0 : World) (i : Nat) (o : Oper) (a : Act) (w : World) : Prop where
 chg : Chg S w0 w
 kn : Kn n K a
 dep : ∀ j d, depB ops o j d = true → chain.contains j = false → optS l j (a.tmps.getD d undef) w
 link : ∀ (q c d : Nat) (b : Bool) (x : Value), chain[q]? = some c → depB ops o c d = true → cv[q]? = some (some (b, x)) → b = true → a.tmps.getD d undef = x
 old : ∀ d v, look Ke d = some v → earlyB ops i d = true → a.tmps.getD d undef = v
 early : ∀ (q c : Nat), chain[q]? = some c → (ancL ops c).contains i = true → ∃ vals, vals.length ≤ q ∧ GV vals w ∧ ∀ (q' c' d : Nat), chain[q']? = some c' → depB ops o c' d = true → vals[q']? = some (a.tmps.getD d undef)
/-- .. and an operation of the chain: what was yielded before it. -/
structure CtxW (ops : Array Oper) (S : Nat → Prop) (l : List (Bool × SpS S)) (chain : List Nat) (cv : List (Option (Bool × Value))) (GV : List Value → World → Prop) (n : Fr) (K Ke : Known) (w0 : World) (i p : Nat) (o : Oper) (a : Act) (w : World) (vals : List Value) : Prop extends CtxV ops S l chain cv GV n K Ke w0 i o a w where
 len : vals.length = p
 now : GV vals w
 val : ∀ (q c d : Nat), chain[q]? = some c → depB ops o c d = true → vals[q]? = some (a.tmps.getD d undef)
/-- That the operation 'o' comes behind the one ahead of it in the chain. -/
def behind (ops : Array Oper) (chain : List Nat) (p : Nat) (o : Oper) : Bool := match p with | 0 => true | p + 1 => match chain[p]? with | some c => o.after.any (fun e => Region.binds .any e && (ancL ops e.on).contains c) | none => false
def SeqV (P : Program) (ops : Array Oper) (Q : Exit → Act → World → Prop) (l : List (Bool × SpS S)) (chain : List Nat) (cv : List (Option (Bool × Value))) (GV : List Value → World → Prop) (n : Fr) (K Ke : Known) (w0 : World) : Nat → List Oper → Prop
 | _, [] => True
 | i, o :: r => ((chain.contains i = false ∧ ∃ β, GuardIs (optS l) o β ∧ (∀ g b, o.guard = some (g, b) → chain.contains g = false) ∧ (β = false → ∀ w, optS l i undef w) ∧
   (β = true → ∀ a w, CtxV ops S l chain cv GV n K Ke w0 i o a w → o.wp P a w (fun a' w' => ∃ v, a' = Act.put a o.dst v ∧ Below w.heap.size w w' ∧ optS l i v w') Q)) ∨
  (∃ p, chain[p]? = some i ∧ behind ops chain p o = true ∧ ∃ β, GuardIs (optS l) o β ∧ (∀ g b, o.guard = some (g, b) → chain.contains g = false) ∧
   (β = false → ∀ w vals, vals.length = p → GV vals w → GV (vals ++ [undef]) w ∧ ∀ b x, cv[p]? = some (some (b, x)) → b = true → undef = x) ∧
   (β = true → ∀ a w vals, CtxW ops S l chain cv GV n K Ke w0 i p o a w vals → o.wp P a w (fun a' w' => ∃ v, a' = Act.put a o.dst v ∧ Chg S w w' ∧ GV (vals ++ [v]) w' ∧ ∀ b x, cv[p]? = some (some (b, x)) → b = true → v = x) Q))) ∧ SeqV P ops Q l chain cv GV n K Ke w0 (i + 1) r
theorem cv_snoc {cv : List (Option (Bool × Value))} {vals : List Value} {v : Value} (h : ∀ (q : Nat) b x, cv[q]? = some (some (b, x)) → b = true → ∀ v, vals[q]? = some v → v = x) (hv : ∀ b x, cv[vals.length]? = some (some (b, x)) → b = true → v = x) : ∀ (q : Nat) b x, cv[q]? = some (some (b, x)) → b = true → ∀ u, (vals ++ [v])[q]? = some u → u = x := by
 intro q b x hq hb u hu
 rcases Nat.lt_trichotomy q vals.length with c | c | c
 ·rw [List.getElem?_append_left c] at hu; exact h q b x hq hb u hu
 ·subst c
  rw [List.getElem?_append_right (Nat.le_refl _), Nat.sub_self] at hu
  have : v = u := by simpa using hu
  rw [← this]; exact hv b x hq hb
 ·rw [List.getElem?_append_right (by omega)] at hu
  obtain ⟨k, hk⟩ : ∃ k, q - vals.length = k + 1 := ⟨q - vals.length - 1, by omega⟩
  rw [hk] at hu; cases hu
theorem SeqV.gen {Q : Exit → Act → World → Prop} {l : List (Bool × SpS S)} {chain : List Nat} {cv : List (Option (Bool × Value))} {GV : List Value → World → Prop} {n : Fr} {K Ke : Known} {w0 : World} (hGV : ∀ vals w w', Below w.heap.size w w' → GV vals w → GV vals w') : ∀ {lo : List Oper} {i : Nat}, SeqV P ops Q l chain cv GV n K Ke w0 i lo →
  SoundFromQ P ops Q chain (optS l) (Chg S) (GH S w0 chain.length cv GV) n K Ke i lo
 | [], _, _ => trivial
 | o :: r, i, ⟨h, hr⟩ => by
  refine ⟨?_, hr.gen hGV⟩
  have ctx : ∀ {a w vs vals}, CtxQ ops chain (optS l) (GH S w0 chain.length cv GV) n K Ke i o a w vs → vs = Vals vals chain.length → Chg S w0 w → (∀ (q : Nat) b x, cv[q]? = some (some (b, x)) → b = true → ∀ v, vals[q]? = some v → v = x) → GV vals w → CtxV ops S l chain cv GV n K Ke w0 i o a w := fun {a w vs vals} C e hc hv hg =>
   ⟨hc, C.kn, C.dep, fun q c d b x h1 h2 h3 h4 => hv q b x h3 h4 _ (vals_some (e ▸ C.link q c d h1 h2)), fun d v hd hb => C.old d v hd (earlyB_of hb), fun q c h1 h2 => ⟨vals, vals_none (e ▸ C.mostT q c h1 h2), hg, fun q' c' d h3 h4 => vals_some (e ▸ C.link q' c' d h3 h4)⟩⟩
  rcases h with ⟨hi, β, h1, h2, h3, h4⟩ | ⟨p, hp, hbh, β, h1, h2, h3, h4⟩
  ·refine .inl ⟨hi, β, h1, h2, h3, fun hβ a w vs C => ?_⟩
   obtain ⟨vals, k1, k2, k3, k4, k5⟩ := C.now
   refine Oper.wpIn_mono ?_ (wpIn_of (h4 hβ a w (ctx C k2 k4 k5 k3)) (by rintro a' w' ⟨v, rfl, _⟩; exact put_defers _ _ _))
   rintro a' w' ⟨v, rfl, hb, hR⟩
   exact ⟨v, rfl, .ofBelow hb, ⟨vals, k1, k2, hGV _ _ _ hb k3, k4.trans (.ofBelow hb), k5⟩, hR⟩
  ·have hpl : p < chain.length := (List.getElem?_eq_some_iff.1 hp).1
   have len : ∀ {a w vs vals}, CtxQ ops chain (optS l) (GH S w0 chain.length cv GV) n K Ke i o a w vs → vs = Vals vals chain.length → vs[p]? = some none → vals.length = p := fun {a w vs vals} C e hn => by
    have h5 := vals_none (e ▸ hn)
    cases p with
    | zero => omega
    | succ p =>
     unfold behind at hbh
     obtain ⟨c, hc⟩ : ∃ c, chain[p]? = some c := ⟨chain[p], List.getElem?_eq_getElem (by omega)⟩
     simp only [hc] at hbh
     obtain ⟨v, hv⟩ := C.anc p c hc hbh
     have h6 := vals_some (e ▸ hv)
     have := (List.getElem?_eq_some_iff.1 h6).1
     omega
   refine .inr ⟨p, hp, β, h1, h2, fun hβ a w vs C hn => ?_, fun hβ a w vs C hn => ?_⟩
   ·obtain ⟨vals, k1, k2, k3, k4, k5⟩ := C.now
    have hl := len C k2 hn
    obtain ⟨z1, z2⟩ := h3 hβ w vals hl k3
    refine ⟨vals ++ [undef], by simp; omega, ?_, z1, k4, cv_snoc k5 (hl ▸ z2)⟩
    rw [k2, ← hl, vals_set (by omega)]
   ·obtain ⟨vals, k1, k2, k3, k4, k5⟩ := C.now
    have hl := len C k2 hn
    refine Oper.wpIn_mono ?_ (wpIn_of (h4 hβ a w vals ⟨ctx C k2 k4 k5 k3, hl, k3, fun q c d z1 z2 => vals_some (k2 ▸ C.link q c d z1 z2)⟩) (by rintro a' w' ⟨v, rfl, _⟩; exact put_defers _ _ _))
    rintro a' w' ⟨v, rfl, hc, z1, z2⟩
    refine ⟨v, rfl, hc, vals ++ [v], by simp; omega, ?_, z1, k4.trans hc, cv_snoc k5 (hl ▸ z2)⟩
    rw [k2, ← hl, vals_set (by omega)]
theorem cvIs {v X : Value} {β : Bool} (h : v = X) : ∀ b x, (some (some (β, X)) : Option (Option (Bool × Value))) = some (some (b, x)) → b = true → v = x := fun b x e _ => by cases e; exact h
theorem vlen0 {l : List Value} (h : l.length = 0) : l = [] := List.length_eq_zero_iff.1 h
theorem vlen1 {l : List Value} (h : l.length = 1) : ∃ a, l = [a] := by
 match l, h with
 | [a], _ => exact ⟨a, rfl⟩
theorem WC.seqV {id : Nat} {dr : Bool} {Q : Exit → Act → World → Prop} {n : Fr} {K : Known} {w : World} (l : List (Bool × SpS S)) (K0 : Known) (chain : List Nat) (cv : List (Option (Bool × Value))) (GV : List Value → World → Prop) (hGV : ∀ vals w w', Below w.heap.size w w' → GV vals w → GV vals w') (hnd : chain.Nodup)
  (hs : subK K0 K) (hclear : clearB ops K0 = true) (hm : P.follows .mixedOrders = true) (hB : opsB ops n.n = true) (hin : (chain.all fun c => Nat.blt c ops.size) = true) (h0 : GV [] w)
  (h : SeqV P ops Q l chain cv GV n K0 K w 0 ops.toList)
  (hQ : ∀ (a : Act) (w' : World) (vals : List Value), Kn n K0 a → vals.length = chain.length → GV vals w' → Chg S w w' → (∀ i d, (ops[i]?).bind (·.dst) = some d → chain.contains i = false → optS l i (a.tmps.getD d undef) w') → (∀ (p c d : Nat), chain[p]? = some c → (ops[c]?).bind (·.dst) = some d → vals[p]? = some (a.tmps.getD d undef)) → (∀ (p c d : Nat) b x, chain[p]? = some c → (ops[c]?).bind (·.dst) = some d → cv[p]? = some (some (b, x)) → b = true → a.tmps.getD d undef = x) → Q .normal a w') :
  WC P n K w (.region id ops dr) Q := by
 refine WC.genQ chain (optS l) (Chg S) (GH S w chain.length cv GV) K0 hs hclear hm hB hnd hin (optSKeep l) ?_ (h.gen hGV) (fun a w' vs hk hlen hall hG hu hl => ?_)
 ·refine ⟨[], Nat.zero_le _, by simp [Vals], ?_, ?_, fun q b x _ _ v hv => (nomatch hv)⟩
  ·cases dr with
   | true => exact hGV _ _ _ (Below.refl _ _).drew h0
   | false => exact h0
  ·cases dr with
   | true => exact .ofBelow (Below.refl _ _).drew
   | false => exact .ofBelow (Below.refl _ _)
 ·obtain ⟨vals, k1, k2, k3, k4, k5⟩ := hG
  have hlv : vals.length = chain.length := by
   rcases Nat.lt_or_ge vals.length chain.length with c | c
   ·obtain ⟨v, hv⟩ := hall vals.length c
    have h6 := (List.getElem?_eq_some_iff.1 (vals_some (k2 ▸ hv))).1
    omega
   ·omega
  have hv : ∀ (p c d : Nat), chain[p]? = some c → (ops[c]?).bind (·.dst) = some d → vals[p]? = some (a.tmps.getD d undef) := fun p c d z1 z2 => vals_some (k2 ▸ hl p c d z1 z2)
  exact hQ a w' vals hk hlv k3 k4 hu hv (fun p c d b x z1 z2 z3 z4 => k5 p b x z3 z4 _ (hv p c d z1 z2))
end
end Go.Proofs.Ytmdpiafeiopimaa

/- Loops over functions, and functions that hand out one thing after the other. -/
namespace Go.Proofs.Ytmdpiafeiopimaa
open Go.RowKit Go
set_option linter.unusedVariables false
set_option linter.unusedSimpArgs false
section
variable {P : Program}
theorem wpIn_n {r : Option Nat} {n m : Nat} {c : Code} {Q : Exit → Act → World → Prop} {a : Act} {w : World} (h : c.wpIn (fen r) n P Q a w) : c.wpIn (fen r) m P Q a w := fun b k cs hro hb _ => h b k cs hro hb (fen_room _ _)
theorem callB_enters {F : FuncId} (hF : callB P F = true) (args : Array Value) (w : World) : (callFunc F args).run P w = .ok (.enter F args) w := by
  unfold callB at hF
  split at hF
  · rename_i fn hfn
    simp only [Bool.and_eq_true, Bool.not_eq_true'] at hF
    have hp : (Sem.run P program w) = .ok P w := rfl
    simp only [callFunc, Sem.run_bind, Sem.run_pure, Result.andThen_ok, hp, hfn, hF.1, hF.2, Bool.false_eq_true, if_false]
  · simp at hF
end
/-! ### Operations behind guards, one after the other -/
section
variable {P : Program} {n : Fr} {K K' : Known} {w : World} {ops : Array Oper} {o : Oper} {rest : List Oper} {Q : Exit → Act → World → Prop}
theorem bool_split {X : Prop} (b : Bool) (ht : b = true → X) (hf : b = false → X) : X := by
  cases b
  · exact hf rfl
  · exact ht rfl
theorem wp_pickT {a : Act} {C : Act → World → Prop} {x y z : Operand} {v : Value} (ho : o.op = .pick x y z) (hx : a.eval x = .bool true) (hy : a.eval y = v) (hK : C (a.put o.dst v) w) : o.wp P a w C Q := by
  unfold Oper.wp execOp
  simp only [ho, hx, hy]
  exact hK
theorem wp_pickF {a : Act} {C : Act → World → Prop} {x y z : Operand} {v : Value} (ho : o.op = .pick x y z) (hx : a.eval x = .bool false) (hz : a.eval z = v) (hK : C (a.put o.dst v) w) : o.wp P a w C Q := by
  unfold Oper.wp execOp
  simp only [ho, hx, hz]
  exact hK
theorem WL.sub (hs : subK K' K) (h : WL P ops n K' w rest Q) : WL P ops n K w rest Q := fun a ha => h a (ha.sub hs)
theorem yielded_known {a : Act} {g d : Nat} {c : Bool} (ha : Kn n K a) (hd : (ops[g]?).bind (·.dst) = some d) (hk : look K d = some (.bool c)) : yielded ops a.tmps g = some c := by
  have := ha.knows d _ hk
  unfold yielded
  rw [hd]
  rcases Nat.lt_or_ge d a.tmps.size with h | h
  · simp only [Array.getD_eq_getD_getElem?, Array.getElem?_eq_getElem h, Option.getD_some] at this
    simp [h, this]
  · simp [Array.getD, Nat.not_lt.2 h, undef] at this
theorem WL.want {g d : Nat} {b : Bool} (hg : o.guard = some (g, b)) (hd : (ops[g]?).bind (·.dst) = some d) (hk : look K d = some (.bool b)) (h : WL P ops n K w ({ o with guard := none } :: rest) Q) : WL P ops n K w (o :: rest) Q := fun a ha => by
  have := h a ha
  unfold wpListIn at this ⊢
  have e1 : Region.wanted o (yielded ops a.tmps) = true := by unfold Region.wanted; rw [hg]; simp only [yielded_known ha hd hk]; cases b <;> rfl
  rw [if_pos e1]
  have e2 : Region.wanted { o with guard := none } (yielded ops a.tmps) = true := rfl
  rw [if_pos e2] at this
  exact this
theorem WL.skip {g d : Nat} {b c : Bool} (hg : o.guard = some (g, b)) (hd : (ops[g]?).bind (·.dst) = some d) (hk : look K d = some (.bool c)) (hne : (c == b) = false) (hlt : dstB n.n o.dst = true) (h : WL P ops n (putK K o.dst undef) w rest Q) : WL P ops n K w (o :: rest) Q := fun a ha => by
  unfold wpListIn
  have e1 : Region.wanted o (yielded ops a.tmps) = false := by unfold Region.wanted; rw [hg]; simp only [yielded_known ha hd hk]; simpa using hne
  rw [if_neg (by rw [e1]; decide)]
  exact ⟨fun f _ => fen_fn _ f, h _ (ha.puts hlt undef)⟩
end
section
variable {P : Program} {n : Fr} {K : Known} {w : World} {ops : Array Oper} {o : Oper} {rest : List Oper} {Q : Exit → Act → World → Prop}
theorem WL.skipU {g d : Nat} {b : Bool} (hg : o.guard = some (g, b)) (hd : (ops[g]?).bind (·.dst) = some d) (hk : look K d = some undef) (hlt : dstB n.n o.dst = true) (h : WL P ops n (putK K o.dst undef) w rest Q) : WL P ops n K w (o :: rest) Q := fun a ha => by
  unfold wpListIn
  have hy : yielded ops a.tmps g = none := by
    have := ha.knows d _ hk
    unfold yielded
    rw [hd]
    rcases Nat.lt_or_ge d a.tmps.size with h | h
    · simp only [Array.getD_eq_getD_getElem?, Array.getElem?_eq_getElem h, Option.getD_some] at this
      simp [h, this, undef]
    · simp [Array.getElem?_eq_none h]
  have e1 : Region.wanted o (yielded ops a.tmps) = false := by unfold Region.wanted; rw [hg]; simp only [hy]; cases b <;> rfl
  rw [if_neg (by rw [e1]; decide)]
  exact ⟨fun f _ => fen_fn _ f, h _ (ha.puts hlt undef)⟩
end
/-- What is no cells may have been turned, from the block 'B' on. -/
structure Turn (B : Nat) (w w' : World) : Prop where
  os : w'.os = w.os
  tape : w'.tape = w.tape
  output : w'.output = w.output
  size : w.heap.size ≤ w'.heap.size
  block : ∀ (k : Nat) (o : Obj), w.heap[k]? = some o → (o.isCells = true ∨ k < B) → w'.heap[k]? = some o
theorem Turn.of {B : Nat} {w w' : World} {row : Option Nat} (h : w.grownBy w' row) (hr : ∀ r, row = some r → B ≤ r ∧ ∃ o : Obj, w.heap[r]? = some o ∧ o.isCells = false) : Turn B w w' :=
  ⟨h.os, h.tape, h.output, h.size, fun k o hk ho => (h.block k (Array.getElem?_eq_some_iff.1 hk).1 (fun e => by
    obtain ⟨h1, o', h2, h3⟩ := hr k e.symm
    rw [hk] at h2; obtain rfl := Option.some.inj h2
    rcases ho with ho | ho
    · rw [h3] at ho; cases ho
    · omega)).trans hk⟩
/-- A walk through what a loop's round does keeps what is no cells. -/
theorem keepsFrom_below {B : Nat} {w w' : World} (h : Below w.heap.size w w') : KeepsFrom B w w' :=
  ⟨h.size, fun k o _ hk _ => (h.block k (Array.getElem?_eq_some_iff.1 hk).1).trans hk⟩
abbrev markOf (D : Nat) : Deferred := { target := .collected D, args := #[] }
/-! ### Leaving behind such loops -/
/-- The mark of such a loop. -/
def Mk (w : World) (D : Nat) : Prop := w.heap[D]? = some (.deferred (some []))
theorem Mk.lt {w : World} {D : Nat} (h : Mk w D) : D < w.heap.size := (Array.getElem?_eq_some_iff.1 h).1
theorem Mk.below {w w' : World} {D : Nat} (h : Mk w D) (hb : Below w.heap.size w w') : Mk w' D := (hb.block D h.lt).trans h
theorem Mk.upd {w w' : World} {D g : Nat} (h : Mk w D) (hu : Upd g w w') (hg : D ≠ g) : Mk w' D := (hu.block D hg).trans h
theorem Mk.chg {w w' : World} {D : Nat} {S : Nat → Prop} (h : Mk w D) (hc : Chg S w w') (hg : ¬ S D) : Mk w' D := (hc.block D h.lt hg).trans h
section
variable {P : Program} {N : Nat} {r : Option Nat} {ds : List Deferred} {K : Known} {w w' : World} {fn : Func} {R : Ending → World → Prop}
end
section
variable {P : Program} {N : Nat} {ds : List Deferred}
theorem Kn.sets {K : Known} {a : Act} (h : Kn ⟨N, ds, none⟩ K a) : ∀ {ps : List Nat} {vs : List Value}, (ps.all fun p => Nat.blt p N) = true → Kn ⟨N, ds, none⟩ ((ps.zip vs).foldl (fun K p => (p.1, p.2) :: K) K) ⟨(ps.zip vs).foldl (fun t p => t.setIfInBounds p.1 p.2) a.tmps, a.defers⟩ := by
  intro ps
  induction ps generalizing K a with
  | nil => intro vs _; exact h
  | cons p r ih =>
    intro vs hp
    cases vs with
    | nil => exact h
    | cons v vs =>
      simp only [List.all_cons, Bool.and_eq_true] at hp
      exact ih (a := a.put (some p) v) (h.put hp.1 v) hp.2
/-- The law of a loop over a function: of 'x' it hands out 'encs x' into the slots 'ps'; a round changes blocks of 'S' alone. -/
theorem WC.range {α γ : Type} {g : Operand} {ps : List Nat} {assign body : Code} {Q : Exit → Act → World → Prop} {K : Known} {w : World} (S : Nat → Prop) {gf : Nat} {lb : Array Value} (hg : ev K g = some (.func (.func gf) #[] lb)) (hF : callB P gf = true) (hp : (ps.all fun p => Nat.blt p N) = true)
    {encs : α → List Value} {Sx Sp : List α → Prop} {M : Nat} {w0 : World} (hseq : SeqStopsK Fence.wide 0 P gf lb (fun x => (encs x).toArray) (Chg S) Sx Sp M w0)
    (hS : ∀ l, w.heap.size ≤ l → S l) (hb0 : Below w0.heap.size w0 w) (hps : ∀ x, (encs x).length = ps.length)
    (KB : α → γ → Known) (AW : α → γ → World → Prop) (I : List α → World → Prop) (Ix : Code → List α → World → Prop) (hI : ∀ s W W', Turn w.heap.size W W' → I s W → I s W') (hIx : ∀ c s W W', Turn w.heap.size W W' → Ix c s W → Ix c s W')
    (hAW : ∀ x y W W', Turn w.heap.size W W' → AW x y W → AW x y W') (h0 : I [] w)
    (hassign : ∀ (l : Nat) (pre : List α) (x : α) (W : World), I pre W → WC P ⟨N, [], some l⟩ ((ps.zip (encs x)).foldl (fun K p => (p.1, p.2) :: K) K) W assign (Exit.then (fun a' W' => Below W.heap.size W W' ∧ ∃ y, Kn ⟨N, [], some l⟩ (KB x y) a' ∧ AW x y W') (fun _ _ _ => False)))
    (hbody : ∀ (l : Nat) (pre : List α) (x : α) (y : γ) (W : World), I pre W → AW x y W → pre.length < M → WC P ⟨N, [], some l⟩ (KB x y) W body (ownPostG w.heap.size (Chg S) I Ix (pre ++ [x]) W))
    (hdone : ∀ (D : Nat) (xs : List α) (W : World), w.heap.size ≤ D → Sx xs → I xs W → Mk W D → WE ⟨N, markOf D :: ds, none⟩ K W Q .normal)
    (hstop : ∀ (D : Nat) (c : Code) (pre : List α) (W : World), w.heap.size ≤ D → Sp pre → Ix c pre W → Mk W D → WC P ⟨N, markOf D :: ds, none⟩ K W c Q) :
    WC P ⟨N, ds, none⟩ K w (.rangeFunc g ps.toArray assign body) Q := by
  intro a ha
  have turn : ∀ {W W' : World} {row : Option Nat}, W.grownBy W' row → (∀ r, row = some r → w.heap.size ≤ r ∧ ∃ o : Obj, W.heap[r]? = some o ∧ o.isCells = false) → Turn w.heap.size W W' := fun h hr => Turn.of h hr
  refine wpIn_n (r := none) (n := 1) (wpIn_rangeFunc_ownH (F := Fence.wide) (n := 1) rfl (Nat.le_refl _) (ha.ev hg) trivial (callB_enters hF) (encs := fun x => (encs x).toArray) hseq (fun h k => h.trans k) (fun W l o o' hl h _ _ => ?_) hb0 (fun x => by simpa using hps x)
    I Ix (fun s W W' row h hg hr => hI s W W' (turn hg hr) h) (fun c s W W' row h hg hr => hIx c s W W' (turn hg hr) h) h0 (fun x a' W => ∃ y, Kn ⟨N, [], none⟩ (KB x y) a' ∧ AW x y W) (fun x a' s W W' row h hg hr => by
      obtain ⟨y, h1, h2⟩ := h
      exact ⟨y, h1, hAW x y W W' (turn hg hr) h2⟩) ?_ ?_ ?_ ?_)
  · have hg := grownBy_putObj' W l o'
    exact ⟨hg.os, hg.tape, hg.output, hg.size, fun k hk hn => hg.block k hk (fun e => hn (by rw [Option.some.inj e]; exact hS l hl))⟩
  · intro l pre x W C hi hC
    have ha' : Kn ⟨N, [], some l⟩ ((ps.zip (encs x)).foldl (fun K p => (p.1, p.2) :: K) K) ⟨(ps.zip (encs x)).foldl (fun t p => t.setIfInBounds p.1 p.2) a.tmps, []⟩ := by
      have h1 : Kn ⟨N, [], none⟩ K ⟨a.tmps, []⟩ := ⟨ha.size, rfl, ha.knows⟩
      have h2 := h1.sets (vs := encs x) hp
      exact ⟨h2.size, rfl, h2.knows⟩
    have e : ((ps.toArray.zip (encs x).toArray).foldl (fun t (p, v) => t.setIfInBounds p v) a.tmps) = (ps.zip (encs x)).foldl (fun t p => t.setIfInBounds p.1 p.2) a.tmps := by simp
    rw [e]
    refine wpIn_mono (hassign l pre x W hi _ ha') ?_
    intro e a1 W1 h
    cases e with
    | normal =>
      obtain ⟨hb, y, hk, hA⟩ := h
      exact hC a1 W1 (keepsFrom_below hb) (.ofBelow hb) (hI _ _ _ ⟨hb.os, hb.tape, hb.output, hb.size, fun k o hk _ => (hb.block k (Array.getElem?_eq_some_iff.1 hk).1).trans hk⟩ hi) ⟨y, ⟨hk.size, hk.defers, hk.knows⟩, hA⟩
    | _ => exact h
  · rintro l pre x a' W _ _ hi ⟨y, hk, hA⟩ hlen
    exact hbody l pre x y W hi hA hlen a' ⟨hk.size, hk.defers, hk.knows⟩
  · intro D xs W hD hs hi hw
    exact hdone D xs W hD hs hi hw _ ⟨ha.size, by rw [ha.defers], ha.knows⟩
  · intro D c pre W hD hs hi hw
    exact wpIn_n (r := none) (hstop D c pre W hD hs hi hw _ ⟨ha.size, by rw [ha.defers], ha.knows⟩)
end
/-! ### The other side: a function that hands out -/
/-- What has been handed out, as the loop knows it. -/
structure Had {β : Type} (B : Nat) (J : List β → World → Prop) (pre : List β) (w : World) : Prop where
  abide : AbidesFrom B J
  now : J pre w
theorem grown_of_below {w w' : World} (h : Below w.heap.size w w') : w.grownBy w' none := ⟨h.os, h.tape, h.output, h.size, fun k hk _ => h.block k hk⟩
theorem Had.below {β : Type} {B : Nat} {J : List β → World → Prop} {pre : List β} {w w' : World} (h : Had B J pre w) (hb : Below w.heap.size w w') : Had B J pre w' :=
  ⟨h.abide, h.abide pre w w' none h.now (grown_of_below hb) (fun r e => by cases e)⟩
section
variable {P : Program} {w : World} {a : Act} {Q : Exit → Act → World → Prop} {o : Oper}
end
end Go.Proofs.Ytmdpiafeiopimaa

/- Loops over functions that lay boxes of their own: a round leaves all cells outside 'S' as they are. -/
namespace Go.Proofs.Ytmdpiafeiopimaa
open Go.RowKit Go
set_option linter.unusedVariables false
set_option linter.unusedSimpArgs false
/-- What is cells, outside 'S', stays; so does all below 'B', outside 'S'. -/
structure Kpt (S : Nat → Prop) (B : Nat) (w w' : World) : Prop where
  os : w'.os = w.os
  tape : w'.tape = w.tape
  output : w'.output = w.output
  size : w.heap.size ≤ w'.heap.size
  block : ∀ (k : Nat) (o : Obj), w.heap[k]? = some o → (o.isCells = true ∨ k < B) → ¬ S k → w'.heap[k]? = some o
theorem Chg.toBelow {w w' : World} (h : Chg (fun b => b < 0) w w') : Below w.heap.size w w' := ⟨h.os, h.tape, h.output, h.size, fun k hk => h.block k hk (fun q => by omega)⟩
section
variable {S : Nat → Prop} {B : Nat} {w w' w'' : World}
theorem Kpt.refl : Kpt S B w w := ⟨rfl, rfl, rfl, Nat.le_refl _, fun _ _ h _ _ => h⟩
theorem Kpt.trans (h : Kpt S B w w') (k : Kpt S B w' w'') : Kpt S B w w'' :=
  ⟨k.os.trans h.os, k.tape.trans h.tape, k.output.trans h.output, Nat.le_trans h.size k.size, fun i o hi ho hS => k.block i o (h.block i o hi ho hS) ho hS⟩
theorem Kpt.ofChg (h : Chg S w w') : Kpt S B w w' := ⟨h.os, h.tape, h.output, h.size, fun k o hk _ hS => (h.block k (Array.getElem?_eq_some_iff.1 hk).1 hS).trans hk⟩
theorem Kpt.ofBelow (h : Below w.heap.size w w') : Kpt S B w w' := Kpt.ofChg (.ofBelow h)
theorem Kpt.put {l : Nat} {o o' : Obj} (hl : B ≤ l) (h : w.heap[l]? = some o) (ho : o.isCells = false) : Kpt S B w (w.putObj l o') := by
  have hg := grownBy_putObj' w l o'
  refine ⟨hg.os, hg.tape, hg.output, hg.size, fun k u hk hu hS => (hg.block k (Array.getElem?_eq_some_iff.1 hk).1 (fun e => ?_)).trans hk⟩
  obtain rfl : k = l := Option.some.inj e
  rw [h] at hk; obtain rfl := Option.some.inj hk
  rcases hu with hu | hu
  · rw [ho] at hu; cases hu
  · omega
theorem Kpt.blk {b : Nat} {t : TypeId} {cs : Array Value} (k : Kpt S B w w') (h : Blk w b t cs) (hS : ¬ S b) : Blk w' b t cs := k.block b _ h (.inl rfl) hS
theorem Kpt.below {w0 : World} (k : Kpt S B w w') (h : Below w0.heap.size w0 w) (hB : w0.heap.size ≤ B) (hS : ∀ b, b < w0.heap.size → ¬ S b) : Below w0.heap.size w0 w' :=
  ⟨k.os.trans h.os, k.tape.trans h.tape, k.output.trans h.output, Nat.le_trans h.size k.size, fun i hi => by
    have := h.block i hi
    rw [Array.getElem?_eq_getElem hi] at this ⊢
    exact k.block i _ this (.inr (by omega)) (hS i hi)⟩
theorem Kpt.cell {p : Addr} {v : Value} (k : Kpt S B w w') (hS : ¬ S p.block) (h : w.cell? p = some v) : w'.cell? p = some v := by
  have hlt := World.block_lt_of_cell? _ _ h
  have hh := h
  unfold World.cell? at h ⊢
  rw [Array.getElem?_eq_getElem hlt] at h
  have hc : (w.heap[p.block]).isCells = true := by
    cases hx : w.heap[p.block] with
    | cells a b c => rfl
    | _ => simp [hx] at h
  rw [k.block p.block _ (Array.getElem?_eq_getElem hlt) (.inl hc) hS]
  exact h
end
section
variable {P : Program} {N : Nat} {ds : List Deferred}
end
structure Marks (B : Nat) (w : World) (l : List Nat) : Prop where
  nodup : l.Nodup
  at_ : ∀ D, D ∈ l → B ≤ D ∧ Mk w D
section
variable {B : Nat} {w w' : World} {l : List Nat}
theorem Marks.nil : Marks B w [] := ⟨List.nodup_nil, fun D h => by simp at h⟩
theorem Marks.base (h : Marks B w l) {D : Nat} (hD : D ∈ l) : B ≤ D := (h.at_ D hD).1
theorem Marks.lt (h : Marks B w l) {D : Nat} (hD : D ∈ l) : D < w.heap.size := (h.at_ D hD).2.lt
theorem Marks.below (h : Marks B w l) (hb : Below w.heap.size w w') : Marks B w' l := ⟨h.nodup, fun D hD => ⟨h.base hD, (h.at_ D hD).2.below hb⟩⟩
theorem Marks.upd {g : Nat} (h : Marks B w l) (hu : Upd g w w') (hg : ∃ o : Obj, w.heap[g]? = some o ∧ o.isCells = true) : Marks B w' l := ⟨h.nodup, fun D hD => ⟨h.base hD, (h.at_ D hD).2.upd hu (fun e => by
  obtain ⟨o, h1, h2⟩ := hg
  have h3 := (h.at_ D hD).2
  subst e
  unfold Mk at h3
  rw [h1] at h3
  obtain rfl := Option.some.inj h3
  cases h2)⟩⟩
theorem Marks.chg {S : Nat → Prop} (h : Marks B w l) (hc : Chg S w w') (hS : ∀ D, D ∈ l → ¬ S D) : Marks B w' l := ⟨h.nodup, fun D hD => ⟨h.base hD, (h.at_ D hD).2.chg hc (hS D hD)⟩⟩
theorem Marks.turn {Bt : Nat} (h : Marks B w l) (t : Turn Bt w w') (hl : ∀ D, D ∈ l → D < Bt) : Marks B w' l := ⟨h.nodup, fun D hD => ⟨h.base hD, t.block D _ (h.at_ D hD).2 (.inr (hl D hD))⟩⟩
theorem Marks.cons {D : Nat} (h : Marks B w l) (hw : Mk w D) (hB : B ≤ D) (hn : ∀ D', D' ∈ l → D' < D) : Marks B w (D :: l) :=
  ⟨List.nodup_cons.2 ⟨fun q => Nat.lt_irrefl _ (hn D q), h.nodup⟩, fun D' hD' => by
    rcases List.mem_cons.1 hD' with rfl | q
    · exact ⟨hB, hw⟩
    · exact h.at_ D' q⟩
end
section
variable {P : Program} {n : Fr} {K : Known} {w : World} {c : Code} {Q : Exit → Act → World → Prop}
end
end Go.Proofs.Ytmdpiafeiopimaa

namespace Go.Proofs.Ytmdpiafeiopimaa
open Go.RowKit Go
set_option linter.unusedVariables false
set_option linter.unusedSimpArgs false
section
variable {P : Program} {n : Fr} {K : Known} {w : World} {Q : Exit → Act → World → Prop} {c : Code}
theorem WC.scope (hr : n.r = none) (h : WC P n K w c (Exit.noGoto Q)) : WC P n K w (.scope c) Q := fun a ha => by
  have z := h a ha
  rw [hr] at z ⊢
  exact wpIn_wide.2 (wp_scope_straight (wpIn_wide.1 z))
theorem WE.scopeRet (h : WE n K w Q .ret) : WE n K w (Exit.noGoto Q) .ret := h
end
end Go.Proofs.Ytmdpiafeiopimaa
