/- The lexicographic path order, as plain functions on terms. -/
import Derived.Test.YtlkiabgpnboicaaKboPlain
namespace Go.Proofs.Ytlkiabgpnboicaa

namespace T
-- Does a top stand in a term?
mutual
def has (v : Int) : T → Bool
  | .mk f l => decide (f = v) || hasL v l
def hasL (v : Int) : List T → Bool
  | [] => false
  | a :: r => has v a || hasL v r
end
theorem hasL_any (v : Int) : ∀ l, hasL v l = l.any (has v)
  | [] => rfl
  | a :: r => by rw [hasL, hasL_any v r, List.any_cons]
end T

/-- Rows compared: the first places that are not the same tell. -/
def lexR (R : T → T → Bool) : List T → List T → Bool
  | [], _ => false
  | _ :: _, [] => true
  | a :: r, b :: q => if T.same a b then lexR R r q else R a b
theorem lexR_congr {R R' : T → T → Bool} : ∀ (l q : List T), (∀ a ∈ l, ∀ b ∈ q, R a b = R' a b) → lexR R l q = lexR R' l q
  | [], _, _ => rfl
  | _ :: _, [], _ => rfl
  | a :: r, b :: q, h => by
    rw [lexR, lexR, lexR_congr r q (fun x hx y hy => h x (by simp [hx]) y (by simp [hy])), h a (by simp) b (by simp)]

namespace Od
mutual
/-- What a lexicographic order knows. -/
def lknows (o : Od) : T → Bool
  | .mk f l => if f < 0 then l.isEmpty else decide (f < o.prec.length) && lknowsL o l
def lknowsL (o : Od) : List T → Bool
  | [] => true
  | a :: r => lknows o a && lknowsL o r
end
theorem lknowsL_all (o : Od) : ∀ l, o.lknowsL l = l.all o.lknows
  | [] => rfl
  | a :: r => by rw [lknowsL, lknowsL_all o r, List.all_cons]

/-- One step of the order, over whatever stands for the order on what is smaller. -/
def lstep (o : Od) (R : T → T → Bool) (s t : T) : Bool :=
  if s.f < 0 then false
  else if t.f < 0 then T.has t.f s
  else s.args.any (fun a => T.same a t || R a t) ||
    (if s.f ≠ t.f then decide (o.rank t.f < o.rank s.f) && t.args.all (R s) else t.args.all (R s) && lexR R s.args t.args)
theorem lstep_congr (o : Od) {R R' : T → T → Bool} {s t : T} (h1 : ∀ a ∈ s.args, R a t = R' a t) (h2 : ∀ b ∈ t.args, R s b = R' s b) (h3 : ∀ a ∈ s.args, ∀ b ∈ t.args, R a b = R' a b) : o.lstep R s t = o.lstep R' s t := by
  unfold lstep
  have e1 : s.args.any (fun a => T.same a t || R a t) = s.args.any (fun a => T.same a t || R' a t) := by
    rw [Bool.eq_iff_iff, List.any_eq_true, List.any_eq_true]
    exact ⟨fun ⟨a, ha, h⟩ => ⟨a, ha, by rw [← h1 a ha]; exact h⟩, fun ⟨a, ha, h⟩ => ⟨a, ha, by rw [h1 a ha]; exact h⟩⟩
  have e2 : t.args.all (R s) = t.args.all (R' s) := by
    rw [Bool.eq_iff_iff, List.all_eq_true, List.all_eq_true]
    exact ⟨fun h b hb => by rw [← h2 b hb]; exact h b hb, fun h b hb => by rw [h2 b hb]; exact h b hb⟩
  rw [e1, e2, lexR_congr _ _ h3]

/-- The order, to so many steps. -/
def lgN (o : Od) : Nat → T → T → Bool
  | 0, _, _ => false
  | n + 1, s, t => o.lstep (lgN o n) s t
theorem lgN_enough (o : Od) : ∀ (n m : Nat) (s t : T), s.size + t.size ≤ n → s.size + t.size ≤ m → o.lgN n s t = o.lgN m s t
  | 0, _, s, _, h, _ => by have := T.size_eq s; omega
  | _ + 1, 0, s, _, _, h => by have := T.size_eq s; omega
  | n + 1, m + 1, s, t, hn, hm => by
    have hs := T.size_eq s
    have ht := T.size_eq t
    rw [lgN, lgN]
    refine lstep_congr o (fun a ha => ?_) (fun b hb => ?_) (fun a ha b hb => ?_)
    · have := T.size_le_sizeL ha; exact lgN_enough o n m _ _ (by omega) (by omega)
    · have := T.size_le_sizeL hb; exact lgN_enough o n m _ _ (by omega) (by omega)
    · have := T.size_le_sizeL ha; have := T.size_le_sizeL hb; exact lgN_enough o n m _ _ (by omega) (by omega)
/-- s is above t. -/
def lg (o : Od) (s t : T) : Bool := o.lgN (s.size + t.size) s t
theorem lg_eq (o : Od) (s t : T) : o.lg s t = o.lstep o.lg s t := by
  have hs := T.size_eq s
  have ht := T.size_eq t
  unfold lg
  rw [show s.size + t.size = (T.sizeL s.args + t.size) + 1 by omega, lgN]
  refine lstep_congr o (fun a ha => ?_) (fun b hb => ?_) (fun a ha b hb => ?_)
  · have := T.size_le_sizeL ha; exact lgN_enough o _ _ _ _ (by omega) (by omega)
  · have := T.size_le_sizeL hb; exact lgN_enough o _ _ _ _ (by omega) (by omega)
  · have := T.size_le_sizeL ha; have := T.size_le_sizeL hb; exact lgN_enough o _ _ _ _ (by omega) (by omega)

/-- How two terms stand: 0 none, 1 less, 2 equal, 3 greater. -/
def lcmp (o : Od) (s t : T) : Int :=
  if !o.lknows s || !o.lknows t then 0 else if T.same s t then 2 else if o.lg s t then 3 else if o.lg t s then 1 else 0
end Od

/-! ### A term laid out -/

/-- A part of a term, the numbers of its arguments. -/
structure Nd where
  t : T
  args : List Nat
instance : Inhabited Nd := ⟨⟨.mk 0 [], []⟩⟩

def kids : List T → Nat → List Nat
  | [], _ => []
  | a :: r, n => n :: kids r (n + a.size)
mutual
def lay : T → Nat → List Nd
  | .mk f l, n => ⟨.mk f l, kids l (n + 1)⟩ :: layL l (n + 1)
def layL : List T → Nat → List Nd
  | [], _ => []
  | a :: r, n => lay a n ++ layL r (n + a.size)
end
mutual
theorem lay_len : ∀ (t : T) (n : Nat), (lay t n).length = t.size
  | .mk f l, n => by rw [lay, List.length_cons, layL_len l, T.size]; omega
theorem layL_len : ∀ (l : List T) (n : Nat), (layL l n).length = T.sizeL l
  | [], _ => rfl
  | a :: r, n => by rw [layL, List.length_append, lay_len a, layL_len r, T.sizeL]
end
theorem kids_len : ∀ (l : List T) (n : Nat), (kids l n).length = l.length
  | [], _ => rfl
  | a :: r, n => by rw [kids, List.length_cons, kids_len r, List.length_cons]
theorem kids_append : ∀ (l r : List T) (n : Nat), kids (l ++ r) n = kids l n ++ kids r (n + T.sizeL l)
  | [], r, n => by simp [kids, T.sizeL]
  | a :: l, r, n => by rw [List.cons_append, kids, kids, kids_append l r, T.sizeL, List.cons_append, Nat.add_assoc]
theorem layL_append : ∀ (l r : List T) (n : Nat), layL (l ++ r) n = layL l n ++ layL r (n + T.sizeL l)
  | [], r, n => by simp [layL, T.sizeL]
  | a :: l, r, n => by rw [List.cons_append, layL, layL, layL_append l r, T.sizeL, List.append_assoc, Nat.add_assoc]

/-- In the row 'l', from n on, t is laid out. -/
def ndget (l : List Nd) (k : Nat) : Nd := l.getD k default
/-- Each part's arguments stand where it says. -/
def GoodAt (l : List Nd) (k : Nat) : Prop := (ndget l k).args.length = (ndget l k).t.args.length ∧ ∀ j (h : j < (ndget l k).t.args.length), (ndget l k).args.getD j 0 < l.length ∧ (ndget l ((ndget l k).args.getD j 0)).t = (ndget l k).t.args[j]
theorem ndget_append_right (p q : List Nd) (k : Nat) : ndget (p ++ q) (p.length + k) = ndget q k := by
  unfold ndget
  rw [List.getD_eq_getElem?_getD, List.getD_eq_getElem?_getD, List.getElem?_append_right (by omega)]
  congr 2; omega
theorem ndget_append_left (p q : List Nd) (k : Nat) (h : k < p.length) : ndget (p ++ q) k = ndget p k := by
  unfold ndget
  rw [List.getD_eq_getElem?_getD, List.getD_eq_getElem?_getD, List.getElem?_append_left h]
theorem lay_head (t : T) (n : Nat) : (ndget (lay t n) 0).t = t := by cases t; rfl

theorem kids_at : ∀ (l : List T) (n j : Nat) (p q : List Nd), p.length = n → (h : j < l.length) → (kids l n).getD j 0 < n + T.sizeL l ∧ (ndget (p ++ layL l n ++ q) ((kids l n).getD j 0)).t = l[j]
  | [], _, _, _, _, _, h => by simp at h
  | a :: r, n, j, p, q, hp, h => by
    cases j with
    | zero =>
      have ha := T.size_eq a
      refine ⟨by simp only [kids, List.getD_cons_zero, T.sizeL]; omega, ?_⟩
      simp only [kids, List.getD_cons_zero, List.getElem_cons_zero, layL]
      rw [List.append_assoc, show n = p.length + 0 by omega, ndget_append_right, List.append_assoc, ndget_append_left _ _ _ (by rw [lay_len]; omega), lay_head]
    | succ j =>
      have := kids_at r (n + a.size) j (p ++ lay a n) q (by rw [List.length_append, lay_len, hp]) (by simpa using h)
      simp only [kids, List.getD_cons_succ, List.getElem_cons_succ, layL, T.sizeL]
      refine ⟨by omega, ?_⟩
      rw [← this.2]
      congr 2
      simp [List.append_assoc]
mutual
theorem lay_good : ∀ (t : T) (n : Nat) (p q : List Nd), p.length = n → ∀ k, n ≤ k → k < n + t.size → GoodAt (p ++ lay t n ++ q) k
  | .mk f l, n, p, q, hp, k, h1, h2 => by
    rw [T.size] at h2
    have e : p ++ lay (.mk f l) n ++ q = (p ++ [⟨.mk f l, kids l (n + 1)⟩]) ++ layL l (n + 1) ++ q := by rw [lay]; simp [List.append_assoc]
    by_cases hk : k = n
    · subst hk
      have e1 : ndget (p ++ lay (.mk f l) k ++ q) k = ⟨.mk f l, kids l (k + 1)⟩ := by
        rw [List.append_assoc, show k = p.length + 0 by omega, ndget_append_right, lay]; rfl
      unfold GoodAt
      rw [e1]
      refine ⟨kids_len _ _, fun j hj => ?_⟩
      have hj' : j < l.length := hj
      have := kids_at l (k + 1) j (p ++ [⟨.mk f l, kids l (k + 1)⟩]) q (by simp [hp]) hj'
      rw [← e] at this
      refine ⟨?_, this.2⟩
      have hlen : (p ++ lay (.mk f l) k ++ q).length = p.length + (1 + T.sizeL l) + q.length := by simp [lay_len, T.size, Nat.add_assoc]
      have h3 := this.1
      show (kids l (k + 1)).getD j 0 < _
      rw [hlen]; omega
    · rw [e]
      exact layL_good l (n + 1) _ q (by simp [hp]) k (by omega) (by omega)
theorem layL_good : ∀ (l : List T) (n : Nat) (p q : List Nd), p.length = n → ∀ k, n ≤ k → k < n + T.sizeL l → GoodAt (p ++ layL l n ++ q) k
  | [], n, _, _, _, k, h1, h2 => by simp [T.sizeL] at h2; omega
  | a :: r, n, p, q, hp, k, h1, h2 => by
    rw [T.sizeL] at h2
    by_cases hk : k < n + a.size
    · have := lay_good a n p (layL r (n + a.size) ++ q) hp k h1 hk
      rw [layL]; simpa [List.append_assoc] using this
    · have := layL_good r (n + a.size) (p ++ lay a n) q (by rw [List.length_append, lay_len, hp]) k (by omega) (by omega)
      rw [layL]; simpa [List.append_assoc] using this
end
/-- A term laid out by itself. -/
theorem lay0_good (t : T) (k : Nat) (h : k < (lay t 0).length) : GoodAt (lay t 0) k := by
  have := lay_good t 0 [] [] rfl k (Nat.zero_le _) (by rw [lay_len] at h; omega)
  simpa using this

-- What the whole knows, each part knows.
mutual
theorem lay_known (o : Od) : ∀ (t : T) (n : Nat), o.lknows t = true → ∀ x ∈ lay t n, o.lknows x.t = true
  | .mk f l, n, h, x, hx => by
    rw [lay, List.mem_cons] at hx
    rcases hx with rfl | hx
    · exact h
    · refine layL_known o l (n + 1) ?_ x hx
      rw [Od.lknows] at h
      split at h
      · rw [List.isEmpty_iff] at h; subst h; rfl
      · simp only [Bool.and_eq_true] at h; exact h.2
theorem layL_known (o : Od) : ∀ (l : List T) (n : Nat), o.lknowsL l = true → ∀ x ∈ layL l n, o.lknows x.t = true
  | [], _, _, x, hx => by simp [layL] at hx
  | a :: r, n, h, x, hx => by
    rw [Od.lknowsL, Bool.and_eq_true] at h
    rw [layL, List.mem_append] at hx
    rcases hx with hx | hx
    · exact lay_known o a n h.1 x hx
    · exact layL_known o r _ h.2 x hx
end
theorem ndget_mem {l : List Nd} {k : Nat} (h : k < l.length) : ndget l k ∈ l := by
  have : ndget l k = l[k] := by simp [ndget, h]
  rw [this]; exact List.getElem_mem h
theorem lknows_arg {o : Od} {t a : T} (h : o.lknows t = true) (ha : a ∈ t.args) : o.lknows a = true ∧ 0 ≤ t.f ∧ t.f < o.prec.length := by
  obtain ⟨f, l⟩ := t
  rw [Od.lknows] at h
  split at h
  · rw [List.isEmpty_iff] at h; subst h; simp at ha
  · simp only [Bool.and_eq_true, decide_eq_true_eq] at h
    rw [Od.lknowsL_all, List.all_eq_true] at h
    exact ⟨h.2 a ha, by rename_i hf; simpa using hf, h.1⟩
theorem lknows_top {o : Od} {t : T} (h : o.lknows t = true) : t.f < o.prec.length ∧ (t.f < 0 → t.args = []) := by
  obtain ⟨f, l⟩ := t
  rw [Od.lknows] at h
  split at h
  · rename_i hf
    rw [List.isEmpty_iff] at h; subst h; exact ⟨by simp only [T.f_mk]; omega, fun _ => rfl⟩
  · rename_i hf
    simp only [Bool.and_eq_true, decide_eq_true_eq] at h
    exact ⟨h.1, fun h' => absurd h' hf⟩

end Go.Proofs.Ytlkiabgpnboicaa
