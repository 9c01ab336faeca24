/- The features of a clause, plain: what the program makes, step by step, and what the document makes. -/
import Derived.Test.YtnblndmjjokepaaLit
namespace Go.Proofs.Ytnblndmjjokepaa
open Go.RowKit Go
set_option linter.unusedVariables false
set_option linter.unusedSimpArgs false

/-- Is it $true? -/
def T.isTrue (t : T) : Bool := decide (t.f = 0) && t.args.isEmpty
theorem T.isTrue_iff {t : T} : t.isTrue = true ↔ t.f = 0 ∧ t.args.length = 0 := by
  unfold T.isTrue; simp
mutual
/-- The symbols of a term, with the depths at which they stand. -/
def T.pl : T → Nat → List (Nat × Nat)
  | .mk f l, d => (if 0 ≤ f then [(f.toNat, d)] else []) ++ T.plL l (d + 1)
def T.plL : List T → Nat → List (Nat × Nat)
  | [], _ => []
  | a :: r, d => T.pl a d ++ T.plL r d
end
mutual
def T.often : T → Nat → Nat
  | .mk g l, f => (if g = (f : Int) then 1 else 0) + T.oftenL l f
def T.oftenL : List T → Nat → Nat
  | [], _ => 0
  | a :: r, f => T.often a f + T.oftenL r f
end
mutual
def T.deep : T → Nat → Nat → Nat
  | .mk g l, f, d => max (if g = (f : Int) then d else 0) (T.deepL l f (d + 1))
def T.deepL : List T → Nat → Nat → Nat
  | [], _, _ => 0
  | a :: r, f, d => max (T.deep a f d) (T.deepL r f d)
end
def cnt (f : Nat) : List (Nat × Nat) → Nat
  | [] => 0
  | x :: r => (if x.1 = f then 1 else 0) + cnt f r
def mx (f : Nat) : List (Nat × Nat) → Nat
  | [] => 0
  | x :: r => max (if x.1 = f then x.2 else 0) (mx f r)
theorem cnt_append (f : Nat) : ∀ a b : List (Nat × Nat), cnt f (a ++ b) = cnt f a + cnt f b
  | [], b => by simp [cnt]
  | x :: a, b => by simp [cnt, cnt_append f a b]; omega
theorem mx_append (f : Nat) : ∀ a b : List (Nat × Nat), mx f (a ++ b) = max (mx f a) (mx f b)
  | [], b => by simp [mx]
  | x :: a, b => by simp only [List.cons_append, mx, mx_append f a b]; omega
mutual
theorem T.cnt_pl (f : Nat) : ∀ (t : T) (d : Nat), cnt f (t.pl d) = t.often f
  | .mk g l, d => by
    rw [T.pl, T.often, cnt_append, T.cnt_plL f l (d + 1)]
    congr 1
    by_cases h : 0 ≤ g
    · rw [if_pos h]; simp only [cnt]
      by_cases h2 : g = (f : Int)
      · rw [if_pos h2, if_pos (by omega)]
      · rw [if_neg h2, if_neg (by omega)]
    · rw [if_neg h, if_neg (by omega)]; rfl
theorem T.cnt_plL (f : Nat) : ∀ (l : List T) (d : Nat), cnt f (T.plL l d) = T.oftenL l f
  | [], d => rfl
  | a :: r, d => by rw [T.plL, T.oftenL, cnt_append, T.cnt_pl f a d, T.cnt_plL f r d]
end
mutual
theorem T.mx_pl (f : Nat) : ∀ (t : T) (d : Nat), mx f (t.pl d) = t.deep f d
  | .mk g l, d => by
    rw [T.pl, T.deep, mx_append, T.mx_plL f l (d + 1)]
    congr 1
    by_cases h : 0 ≤ g
    · rw [if_pos h]; simp only [mx]
      by_cases h2 : g = (f : Int)
      · rw [if_pos h2, if_pos (by omega)]; omega
      · rw [if_neg h2, if_neg (by omega)]; omega
    · rw [if_neg h, if_neg (by omega)]; rfl
theorem T.mx_plL (f : Nat) : ∀ (l : List T) (d : Nat), mx f (T.plL l d) = T.deepL l f d
  | [], d => rfl
  | a :: r, d => by rw [T.plL, T.deepL, mx_append, T.mx_pl f a d, T.mx_plL f r d]
end
mutual
theorem T.pl_len : ∀ (t : T) (d : Nat), (t.pl d).length ≤ t.size
  | .mk g l, d => by
    have := T.plL_len l (d + 1)
    rw [T.pl, T.size, List.length_append]
    split <;> simp <;> omega
theorem T.plL_len : ∀ (l : List T) (d : Nat), (T.plL l d).length ≤ T.sizeL l
  | [], d => Nat.le_refl _
  | a :: r, d => by
    have h1 := T.pl_len a d
    have h2 := T.plL_len r d
    rw [T.plL, T.sizeL, List.length_append]; omega
end
mutual
theorem T.pl_deep : ∀ (t : T) (d : Nat), ∀ x ∈ t.pl d, x.2 < d + t.size
  | .mk g l, d => by
    intro x hx
    rw [T.pl, List.mem_append] at hx
    rw [T.size]
    rcases hx with hx | hx
    · split at hx
      · simp at hx; rw [hx]; simp only; omega
      · simp at hx
    · have := T.plL_deep l (d + 1) x hx; omega
theorem T.plL_deep : ∀ (l : List T) (d : Nat), ∀ x ∈ T.plL l d, x.2 < d + T.sizeL l
  | [], d => by intro x hx; simp [T.plL] at hx
  | a :: r, d => by
    intro x hx
    rw [T.plL, List.mem_append] at hx
    rw [T.sizeL]
    rcases hx with hx | hx
    · have := T.pl_deep a d x hx; omega
    · have := T.plL_deep r d x hx; omega
end
theorem T.often_le (t : T) (f : Nat) : t.often f ≤ t.size := by
  have h : ∀ l : List (Nat × Nat), cnt f l ≤ l.length := by
    intro l; induction l with
    | nil => simp [cnt]
    | cons x r ih => simp only [cnt, List.length_cons]; split <;> omega
  have := h (t.pl 1)
  rw [T.cnt_pl] at this
  have := T.pl_len t 1
  omega
theorem T.deep_le (t : T) (f d : Nat) : t.deep f d ≤ d + t.size := by
  rw [← T.mx_pl]
  have h : ∀ l : List (Nat × Nat), (∀ x ∈ l, x.2 < d + t.size) → mx f l ≤ d + t.size := by
    intro l; induction l with
    | nil => simp [mx]
    | cons x r ih =>
      intro hl
      have h1 := ih (fun y hy => hl y (by simp [hy]))
      have h2 := hl x (by simp)
      simp only [mx]; split <;> omega
  exact h _ (T.pl_deep t d)
theorem T.plL_take {l : List T} {k d : Nat} (h : k < l.length) : T.plL (l.take (k + 1)) d = T.plL (l.take k) d ++ (tget l k).pl d := by
  induction l generalizing k with
  | nil => simp at h
  | cons a r ih =>
    cases k with
    | zero => simp [T.plL, tget]
    | succ k =>
      simp only [List.length_cons] at h
      simp only [List.take_succ_cons, T.plL]
      rw [ih (by omega), List.append_assoc]
      rfl
theorem T.plL_pre {l : List T} {k d : Nat} : T.plL (l.take k) d <+: T.plL l d := by
  induction l generalizing k with
  | nil => simp [T.plL]
  | cons a r ih =>
    cases k with
    | zero => simp [T.plL]
    | succ k => simp only [List.take_succ_cons, T.plL]; exact (List.prefix_append_right_inj _).2 ih
theorem T.oftenL_take {l : List T} {k f : Nat} (h : k < l.length) : T.oftenL (l.take (k + 1)) f = T.oftenL (l.take k) f + (tget l k).often f := by
  rw [← T.cnt_plL f _ 0, T.plL_take h, cnt_append, T.cnt_plL, T.cnt_pl]
theorem T.deepL_take {l : List T} {k f d : Nat} (h : k < l.length) : T.deepL (l.take (k + 1)) f d = max (T.deepL (l.take k) f d) ((tget l k).deep f d) := by
  rw [← T.mx_plL f _ d, T.plL_take h, mx_append, T.mx_plL, T.mx_pl]

/-! ### A row of numbers, as a function -/
def gset (g : Nat → Int) (i : Nat) (v : Int) : Nat → Int := fun k => if k = i then v else g k
theorem gset_eq {g : Nat → Int} {i : Nat} {v : Int} : gset g i v i = v := if_pos rfl
theorem gset_ne {g : Nat → Int} {i k : Nat} {v : Int} (h : k ≠ i) : gset g i v k = g k := if_neg h
/-- One symbol more. -/
def put1 (n way : Nat) (g : Nat → Int) (p : Nat × Nat) : Nat → Int :=
  if p.1 < n then gset (gset g (2 + 4 * p.1 + 2 * way) (g (2 + 4 * p.1 + 2 * way) + 1)) (2 + 4 * p.1 + 2 * way + 1) (max (g (2 + 4 * p.1 + 2 * way + 1)) p.2) else g
def sideP (n way : Nat) (t : T) (g : Nat → Int) : Nat → Int := if t.isTrue = true then g else (t.pl 1).foldl (put1 n way) g
def Li.way (x : Li) : Nat := if x.neg = true then 1 else 0
theorem Li.way_le (x : Li) : x.way ≤ 1 := by unfold Li.way; split <;> omega
def litP (n : Nat) (g : Nat → Int) (x : Li) : Nat → Int := sideP n x.way x.r (sideP n x.way x.l (gset g x.way (g x.way + 1)))
def featP (n : Nat) (c : List Li) : Nat → Int := c.foldl (litP n) (fun _ => 0)
def feats (n : Nat) (c : List Li) : List Int := (List.range (2 + 4 * n)).map (featP n c)

/-- What a row of symbols adds at a place. -/
def adds (n way : Nat) (f : Nat → Nat) (e : Nat → Nat) (g : Nat → Int) (k : Nat) : Int :=
  if k < 2 ∨ n ≤ (k - 2) / 4 then g k else if (k - 2) % 4 = 2 * way then g k + f ((k - 2) / 4) else if (k - 2) % 4 = 2 * way + 1 then max (g k) (e ((k - 2) / 4)) else g k
theorem put1_adds {n way : Nat} {g : Nat → Int} {p : Nat × Nat} (hw : way ≤ 1) (h0 : ∀ k, 0 ≤ g k) : put1 n way g p = adds n way (fun f => if p.1 = f then 1 else 0) (fun f => if p.1 = f then p.2 else 0) g := by
  funext k
  have hk := h0 k
  unfold put1 adds
  dsimp only
  by_cases hp : p.1 < n
  · rw [if_pos hp]
    by_cases h1 : k = 2 + 4 * p.1 + 2 * way + 1
    · subst h1
      rw [gset_eq, if_neg (by omega), if_neg (by omega), if_pos (by omega), if_pos (by omega)]
    · rw [gset_ne h1]
      by_cases h2 : k = 2 + 4 * p.1 + 2 * way
      · subst h2
        rw [gset_eq, if_neg (by omega), if_pos (by omega), if_pos (by omega)]; rfl
      · rw [gset_ne h2]
        split
        · rfl
        · split
          · rw [if_neg (by omega)]; simp
          · split
            · rw [if_neg (by omega)]; simp; omega
            · rfl
  · rw [if_neg hp]
    split
    · rfl
    · split
      · rw [if_neg (by omega)]; simp
      · split
        · rw [if_neg (by omega)]; simp; omega
        · rfl
theorem adds_nonneg {n way : Nat} {f e : Nat → Nat} {g : Nat → Int} (h0 : ∀ k, 0 ≤ g k) (k : Nat) : 0 ≤ adds n way f e g k := by
  have := h0 k
  unfold adds
  split
  · exact this
  · split
    · omega
    · split
      · omega
      · exact this
theorem adds_le {n way : Nat} {f e : Nat → Nat} {g : Nat → Int} {B : Int} {m : Nat} (h : ∀ k, g k ≤ B) (hB : 0 ≤ B) (hf : ∀ x, f x ≤ m) (he : ∀ x, e x ≤ m) (k : Nat) : adds n way f e g k ≤ B + m := by
  have h1 := h k
  unfold adds
  split
  · omega
  · split
    · have := hf ((k - 2) / 4); omega
    · split
      · have := he ((k - 2) / 4); omega
      · omega
theorem adds_adds {n way : Nat} {f e f2 e2 : Nat → Nat} {g : Nat → Int} : adds n way f2 e2 (adds n way f e g) = adds n way (fun x => f x + f2 x) (fun x => max (e x) (e2 x)) g := by
  funext k
  unfold adds
  split
  · rfl
  · split
    · (try dsimp only); omega
    · split
      · (try dsimp only); omega
      · rfl
theorem adds_none {n way : Nat} {g : Nat → Int} (h0 : ∀ k, 0 ≤ g k) : adds n way (fun _ => 0) (fun _ => 0) g = g := by
  funext k
  have := h0 k
  unfold adds
  split
  · rfl
  · split
    · simp
    · split
      · simp; omega
      · rfl
theorem put1_fold {n way : Nat} (hw : way ≤ 1) : ∀ (l : List (Nat × Nat)) (g : Nat → Int), (∀ k, 0 ≤ g k) → l.foldl (put1 n way) g = adds n way (fun f => cnt f l) (fun f => mx f l) g
  | [], g, h0 => (adds_none h0).symm
  | p :: r, g, h0 => by
    rw [List.foldl_cons, put1_adds hw h0, put1_fold hw r _ (adds_nonneg h0), adds_adds]
    rfl
/-- What one side adds. -/
def sof (t : T) (f : Nat) : Nat := if t.isTrue = true then 0 else t.often f
def sde (t : T) (f : Nat) : Nat := if t.isTrue = true then 0 else t.deep f 1
theorem sideP_adds {n way : Nat} (hw : way ≤ 1) {t : T} {g : Nat → Int} (h0 : ∀ k, 0 ≤ g k) : sideP n way t g = adds n way (sof t) (sde t) g := by
  unfold sideP
  split
  · rename_i h
    rw [show sof t = fun _ => 0 from funext fun f => if_pos h, show sde t = fun _ => 0 from funext fun f => if_pos h, adds_none h0]
  · rename_i h
    rw [put1_fold hw _ _ h0]
    congr 1
    · funext f; rw [T.cnt_pl]; exact (if_neg h).symm
    · funext f; rw [T.mx_pl]; exact (if_neg h).symm
theorem inc_nonneg {g : Nat → Int} {i : Nat} (h0 : ∀ k, 0 ≤ g k) (k : Nat) : 0 ≤ gset g i (g i + 1) k := by
  have h1 := h0 k
  have h2 := h0 i
  unfold gset; split <;> omega
theorem litP_adds {n : Nat} {x : Li} {g : Nat → Int} (h0 : ∀ k, 0 ≤ g k) : litP n g x = adds n x.way (fun f => sof x.l f + sof x.r f) (fun f => max (sde x.l f) (sde x.r f)) (gset g x.way (g x.way + 1)) := by
  unfold litP
  rw [sideP_adds x.way_le (inc_nonneg h0), sideP_adds x.way_le (adds_nonneg (inc_nonneg h0)), adds_adds]
theorem litP_nonneg {n : Nat} {x : Li} {g : Nat → Int} (h0 : ∀ k, 0 ≤ g k) : ∀ k, 0 ≤ litP n g x k := by
  rw [litP_adds h0]; exact adds_nonneg (inc_nonneg h0)
theorem feat_nonneg {n : Nat} : ∀ (c : List Li) (g : Nat → Int), (∀ k, 0 ≤ g k) → ∀ k, 0 ≤ c.foldl (litP n) g k
  | [], g, h => h
  | x :: r, g, h => feat_nonneg r _ (litP_nonneg h)
/-- How much a side may add. -/
theorem sof_le (t : T) (f : Nat) : sof t f ≤ t.size := by unfold sof; split; exact Nat.zero_le _; exact T.often_le t f
theorem sde_le (t : T) (f : Nat) : sde t f ≤ 1 + t.size := by unfold sde; split; exact Nat.zero_le _; exact T.deep_le t f 1

theorem foldl_take1 {α β : Type} [Inhabited α] {f : β → α → β} {l : List α} {k : Nat} {b : β} (h : k < l.length) : (l.take (k + 1)).foldl f b = f ((l.take k).foldl f b) l[k] := by
  rw [List.take_succ_eq_append_getElem h, List.foldl_append]; rfl
/-- Places at which numbers are counted. -/
def evn (k : Nat) : Prop := k % 2 = 0 ∨ k < 2
theorem gset_le {g : Nat → Int} {i k : Nat} {B : Int} (h : g k ≤ B) (hi : g i ≤ B) : gset g i (g i + 1) k ≤ B + 1 := by
  unfold gset; split <;> omega
theorem put1_ev {n way : Nat} (g : Nat → Int) (p : Nat × Nat) {k : Nat} (hk : evn k) : put1 n way g p k ≤ g k + 1 := by
  unfold put1
  split
  · unfold gset
    split
    · rcases hk with hk | hk <;> omega
    · split
      · rename_i h; subst h; omega
      · omega
  · omega
theorem put1_fold_ev {n way k : Nat} (hk : evn k) : ∀ (l : List (Nat × Nat)) (g : Nat → Int), l.foldl (put1 n way) g k ≤ g k + l.length
  | [], g => by simp
  | p :: r, g => by
    have h1 := put1_fold_ev (n := n) (way := way) hk r (put1 n way g p)
    have h2 := put1_ev (n := n) (way := way) g p hk
    rw [List.foldl_cons, List.length_cons]; omega
theorem put1_nonneg {n way : Nat} {g : Nat → Int} (p : Nat × Nat) (h0 : ∀ k, 0 ≤ g k) : ∀ k, 0 ≤ put1 n way g p k := by
  intro k
  unfold put1
  split
  · unfold gset
    have h1 := h0 k
    have h2 := h0 (2 + 4 * p.1 + 2 * way)
    have h3 := h0 (2 + 4 * p.1 + 2 * way + 1)
    split
    · omega
    · split <;> omega
  · exact h0 k
theorem put1_fold_nonneg {n way : Nat} : ∀ (l : List (Nat × Nat)) (g : Nat → Int), (∀ k, 0 ≤ g k) → ∀ k, 0 ≤ l.foldl (put1 n way) g k
  | [], g, h => h
  | p :: r, g, h => put1_fold_nonneg r _ (put1_nonneg p h)
theorem sideP_ev {n way k : Nat} (hk : evn k) (t : T) (g : Nat → Int) : sideP n way t g k ≤ g k + t.size := by
  unfold sideP
  split
  · omega
  · have := put1_fold_ev (n := n) (way := way) hk (t.pl 1) g
    have := T.pl_len t 1
    omega
theorem sideP_nonneg {n way : Nat} {t : T} {g : Nat → Int} (h0 : ∀ k, 0 ≤ g k) : ∀ k, 0 ≤ sideP n way t g k := by
  unfold sideP
  split
  · exact h0
  · exact put1_fold_nonneg _ _ h0
theorem gset_ev {g : Nat → Int} {i k : Nat} {B : Int} (h : ∀ k, evn k → g k ≤ B) (hi : evn i) (hk : evn k) : gset g i (g i + 1) k ≤ B + 1 := gset_le (h k hk) (h i hi)

/-! ### The document's -/
def refS (way f : Nat) (t : T) (g : Nat → Int) : Nat → Int :=
  if t.isTrue = true then g else gset (gset g (2 + 4 * f + 2 * way) (g (2 + 4 * f + 2 * way) + t.often f)) (2 + 4 * f + 2 * way + 1) (max (g (2 + 4 * f + 2 * way + 1)) (t.deep f 1))
def refF (x : Li) (g : Nat → Int) (f : Nat) : Nat → Int := refS x.way f x.r (refS x.way f x.l g)
def refL (n : Nat) (g : Nat → Int) (x : Li) : Nat → Int := (List.range n).foldl (refF x) (gset g x.way (g x.way + 1))
/-- What the f-th symbol adds. -/
def addAt (way f : Nat) (a b : Nat) (g : Nat → Int) (k : Nat) : Int :=
  if k = 2 + 4 * f + 2 * way then g k + a else if k = 2 + 4 * f + 2 * way + 1 then max (g k) b else g k
theorem refS_addAt {way f : Nat} {t : T} {g : Nat → Int} (h0 : ∀ k, 0 ≤ g k) : refS way f t g = addAt way f (sof t f) (sde t f) g := by
  funext k
  have hk := h0 k
  unfold refS addAt sof sde
  by_cases h : t.isTrue = true
  · simp only [if_pos h]
    split
    · simp
    · split
      · simp; omega
      · rfl
  · simp only [if_neg h]
    by_cases h1 : k = 2 + 4 * f + 2 * way + 1
    · subst h1; rw [gset_eq, if_neg (by omega), if_pos rfl]
    · rw [gset_ne h1]
      by_cases h2 : k = 2 + 4 * f + 2 * way
      · subst h2; rw [gset_eq, if_pos rfl]
      · rw [gset_ne h2, if_neg h2, if_neg h1]
theorem addAt_nonneg {way f a b : Nat} {g : Nat → Int} (h0 : ∀ k, 0 ≤ g k) (k : Nat) : 0 ≤ addAt way f a b g k := by
  have := h0 k
  unfold addAt
  split
  · omega
  · split
    · omega
    · exact this
theorem refF_adds {n : Nat} {x : Li} {g : Nat → Int} (h0 : ∀ k, 0 ≤ g k) : refF x (adds n x.way (fun f => sof x.l f + sof x.r f) (fun f => max (sde x.l f) (sde x.r f)) g) n = adds (n + 1) x.way (fun f => sof x.l f + sof x.r f) (fun f => max (sde x.l f) (sde x.r f)) g := by
  unfold refF
  rw [refS_addAt (adds_nonneg h0), refS_addAt (addAt_nonneg (adds_nonneg h0))]
  funext k
  have hk := h0 k
  unfold addAt adds
  have hw := x.way_le
  by_cases h1 : k = 2 + 4 * n + 2 * x.way
  · have e : (k - 2) / 4 = n := by omega
    rw [if_pos h1, if_pos h1, if_pos (by omega), if_neg (by omega), if_pos (by omega), e]; (try dsimp only); omega
  · rw [if_neg h1, if_neg h1]
    by_cases h2 : k = 2 + 4 * n + 2 * x.way + 1
    · have e : (k - 2) / 4 = n := by omega
      rw [if_pos h2, if_pos h2, if_pos (by omega), if_neg (by omega), if_neg (by omega), if_pos (by omega), e]; (try dsimp only); omega
    · rw [if_neg h2, if_neg h2]
      by_cases h3 : k < 2 ∨ n ≤ (k - 2) / 4
      · rw [if_pos h3]
        by_cases h4 : k < 2 ∨ n + 1 ≤ (k - 2) / 4
        · rw [if_pos h4]
        · rw [if_neg h4, if_neg (by omega), if_neg (by omega)]
      · rw [if_neg h3, if_neg (show ¬(k < 2 ∨ n + 1 ≤ (k - 2) / 4) by omega)]
theorem refL_fold {x : Li} {g : Nat → Int} (h0 : ∀ k, 0 ≤ g k) : ∀ n, (List.range n).foldl (refF x) g = adds n x.way (fun f => sof x.l f + sof x.r f) (fun f => max (sde x.l f) (sde x.r f)) g
  | 0 => by
    funext k
    simp [adds]
  | n + 1 => by rw [List.range_succ, List.foldl_append, refL_fold h0 n, List.foldl_cons, List.foldl_nil, refF_adds h0]
theorem refL_eq {n : Nat} {x : Li} {g : Nat → Int} (h0 : ∀ k, 0 ≤ g k) : refL n g x = litP n g x := by
  unfold refL
  rw [refL_fold (inc_nonneg h0), litP_adds h0]
end Go.Proofs.Ytnblndmjjokepaa
