/- Two rows of the call's own that grow in turn. -/
import Derived.Test.YtmdpiafeiopimaaOSa
import Derived.Test.YtmdpiafeiopimaaOSh

/- The order of Knuth and Bendix over a signature: an order, above subterms, stable, monotone, total on ground terms. -/
namespace Go.Proofs.Ytmdpiafeiopimaa
namespace T
mutual
def vars : T → List Int
  | .mk f l => if f < 0 then [f] else varsL l
def varsL : List T → List Int
  | [] => []
  | a :: r => vars a ++ varsL r
end
-- A term over arities: variables stand alone.
mutual
def ok (ar : List Int) : T → Bool
  | .mk f l => if f < 0 then l.isEmpty else decide (f < ar.length ∧ ar.getD f.toNat 0 = l.length) && okL ar l
def okL (ar : List Int) : List T → Bool
  | [] => true
  | a :: r => ok ar a && okL ar r
end
theorem okL_mem {ar : List Int} {l : List T} (h : okL ar l = true) : ∀ a ∈ l, ok ar a = true := by
  induction l with
  | nil => simp
  | cons b r ih =>
    simp only [okL, Bool.and_eq_true] at h
    intro a ha
    rcases List.mem_cons.1 ha with rfl | ha
    · exact h.1
    · exact ih h.2 a ha
theorem ok_cases {ar : List Int} {f : Int} {l : List T} (h : ok ar (.mk f l) = true) : f < 0 ∧ l = [] ∨ 0 ≤ f ∧ f < ar.length ∧ ar.getD f.toNat 0 = l.length ∧ okL ar l = true := by
  rw [ok] at h
  by_cases hf : f < 0
  · rw [if_pos hf] at h
    exact .inl ⟨hf, by simpa using h⟩
  · rw [if_neg hf] at h
    simp only [Bool.and_eq_true, decide_eq_true_eq] at h
    exact .inr ⟨by omega, h.1.1, h.1.2, h.2⟩
mutual
theorem often_vars {ar : List Int} {v : Int} (hv : v < 0) : ∀ t, ok ar t = true → often v t = (vars t).count v
  | .mk f l, h => by
    rcases ok_cases h with ⟨hf, rfl⟩ | ⟨hf, _, _, hl⟩
    · rw [often, oftenL, vars, if_pos hf]
      by_cases e : f = v
      · subst e; simp
      · simp [e]
    · rw [often, vars, if_neg (by omega), if_neg (by omega), often_varsL hv l hl]; omega
theorem often_varsL {ar : List Int} {v : Int} (hv : v < 0) : ∀ l, okL ar l = true → oftenL v l = (varsL l).count v
  | [], _ => by simp [oftenL, varsL]
  | a :: r, h => by
    simp only [okL, Bool.and_eq_true] at h
    rw [oftenL, varsL, List.count_append, often_vars hv a h.1, often_varsL hv r h.2]
end
mutual
theorem vars_neg : ∀ t, ∀ x ∈ vars t, x < 0
  | .mk f l => by
    intro x hx
    rw [vars] at hx
    by_cases hf : f < 0
    · rw [if_pos hf] at hx; simp at hx; omega
    · rw [if_neg hf] at hx; exact varsL_neg l x hx
theorem varsL_neg : ∀ l, ∀ x ∈ varsL l, x < 0
  | [] => by simp [varsL]
  | a :: r => by
    intro x hx
    rw [varsL, List.mem_append] at hx
    rcases hx with hx | hx
    · exact vars_neg a x hx
    · exact varsL_neg r x hx
end
end T
namespace Od
/-- No variable more often in t than in s. -/
def Cov (s t : T) : Prop := ∀ v, v < 0 → t.often v ≤ s.often v
mutual
theorem covers_iff {ar : List Int} {s t : T} : ∀ u, T.ok ar u = true → (covers s t u = true ↔ ∀ v ∈ T.vars u, t.often v ≤ s.often v)
  | .mk f l, h => by
    rcases T.ok_cases h with ⟨hf, rfl⟩ | ⟨hf, _, _, hl⟩
    · rw [covers, T.vars, if_pos hf, if_pos hf]; simp
    · rw [covers, T.vars, if_neg (by omega), if_neg (by omega)]; exact coversL_iff l hl
theorem coversL_iff {ar : List Int} {s t : T} : ∀ l, T.okL ar l = true → (coversL s t l = true ↔ ∀ v ∈ T.varsL l, t.often v ≤ s.often v)
  | [], _ => by simp [coversL, T.varsL]
  | a :: r, h => by
    simp only [T.okL, Bool.and_eq_true] at h
    rw [coversL, T.varsL, Bool.and_eq_true, covers_iff a h.1, coversL_iff r h.2]
    simp only [List.mem_append]
    constructor
    · rintro ⟨h1, h2⟩ v (hv | hv)
      · exact h1 v hv
      · exact h2 v hv
    · intro h
      exact ⟨fun v hv => h v (.inl hv), fun v hv => h v (.inr hv)⟩
end
theorem covers_cov {ar : List Int} {s t : T} (ht : T.ok ar t = true) : covers s t t = true ↔ Cov s t := by
  rw [covers_iff t ht]
  constructor
  · intro h v hv
    by_cases hm : v ∈ T.vars t
    · exact h v hm
    · rw [T.often_vars hv t ht, List.count_eq_zero.2 hm]; omega
  · intro h v hv
    exact h v (T.vars_neg t v hv)
/-- An order that may be, over arities. -/
structure Good (o : Od) (ar : List Int) : Prop where
  prec : o.prec.length = ar.length
  weights : o.weights.length = ar.length
  inj : ∀ f g : Int, 0 ≤ f → f < ar.length → 0 ≤ g → g < ar.length → o.rank f = o.rank g → f = g
  var : 1 ≤ o.var ∧ o.var ≤ 1000
  bound : ∀ f : Int, 0 ≤ f → f < ar.length → 0 ≤ o.wsym f ∧ o.wsym f ≤ 1000
  const : ∀ f : Int, 0 ≤ f → f < ar.length → ar.getD f.toNat 0 = 0 → o.var ≤ o.wsym f
  one : ∀ f : Int, 0 ≤ f → f < ar.length → ar.getD f.toNat 0 = 1 → o.wsym f = 0 → ∀ g : Int, 0 ≤ g → g < ar.length → o.rank g ≤ o.rank f
mutual
def wt (o : Od) : T → Int
  | .mk f l => o.wsym f + wtL o l
def wtL (o : Od) : List T → Int
  | [] => 0
  | a :: r => wt o a + wtL o r
end
theorem Good.clamp {o : Od} {ar : List Int} (G : Good o ar) {f : Int} (h : f < 0 ∨ 0 ≤ f ∧ f < ar.length) : Od.clamp (o.wsym f) = o.wsym f := by
  unfold Od.clamp most
  rcases h with h | ⟨h1, h2⟩
  · have := G.var; unfold wsym; rw [if_pos h]; omega
  · have := G.bound f h1 h2; omega
mutual
theorem Good.raw_wt {o : Od} {ar : List Int} (G : Good o ar) : ∀ t, T.ok ar t = true → o.raw t = o.wt t
  | .mk f l, h => by
    rcases T.ok_cases h with ⟨hf, rfl⟩ | ⟨h0, h1, _, hl⟩
    · rw [raw, wt, G.clamp (.inl hf)]; simp [rawL, wtL]
    · rw [raw, wt, G.clamp (.inr ⟨h0, h1⟩), Good.raw_wtL G l hl]
theorem Good.raw_wtL {o : Od} {ar : List Int} (G : Good o ar) : ∀ l, T.okL ar l = true → o.rawL l = o.wtL l
  | [], _ => by simp [rawL, wtL]
  | a :: r, h => by
    simp only [T.okL, Bool.and_eq_true] at h
    rw [rawL, wtL, Good.raw_wt G a h.1, Good.raw_wtL G r h.2]
end
mutual
theorem Good.wt_le {o : Od} {ar : List Int} (G : Good o ar) : ∀ t, T.ok ar t = true → o.wt t ≤ 1000 * t.size
  | .mk f l, h => by
    rcases T.ok_cases h with ⟨hf, rfl⟩ | ⟨h0, h1, _, hl⟩
    · have := G.var; rw [wt, T.size, wtL, T.sizeL]; unfold wsym; rw [if_pos hf]; omega
    · have := G.bound f h0 h1; have := Good.wtL_le G l hl; rw [wt, T.size]; omega
theorem Good.wtL_le {o : Od} {ar : List Int} (G : Good o ar) : ∀ l, T.okL ar l = true → o.wtL l ≤ 1000 * T.sizeL l
  | [], _ => by simp [wtL, T.sizeL]
  | a :: r, h => by
    simp only [T.okL, Bool.and_eq_true] at h
    have := Good.wt_le G a h.1; have := Good.wtL_le G r h.2
    rw [wtL, T.sizeL]; omega
end
mutual
theorem Good.var_le {o : Od} {ar : List Int} (G : Good o ar) : ∀ t, T.ok ar t = true → o.var ≤ o.wt t
  | .mk f l, h => by
    rcases T.ok_cases h with ⟨hf, rfl⟩ | ⟨h0, h1, h2, hl⟩
    · rw [wt, wtL]; unfold wsym; rw [if_pos hf]; omega
    · have b := G.bound f h0 h1
      cases l with
      | nil => have := G.const f h0 h1 (by simpa using h2); rw [wt, wtL]; omega
      | cons a r =>
        simp only [T.okL, Bool.and_eq_true] at hl
        have := Good.var_le G a hl.1; have := Good.wtL_nonneg G r hl.2
        rw [wt, wtL]; omega
theorem Good.wtL_nonneg {o : Od} {ar : List Int} (G : Good o ar) : ∀ l, T.okL ar l = true → 0 ≤ o.wtL l
  | [], _ => by simp [wtL]
  | a :: r, h => by
    simp only [T.okL, Bool.and_eq_true] at h
    have := Good.var_le G a h.1; have := Good.wtL_nonneg G r h.2; have := G.var
    rw [wtL]; omega
end
theorem Good.weight_wt {o : Od} {ar : List Int} (G : Good o ar) {t : T} (h : T.ok ar t = true) (hs : t.size ≤ 2000000) : o.weight t = o.wt t := by
  have := G.raw_wt t h
  have := G.wt_le t h
  unfold weight most
  omega
mutual
def kb (o : Od) : T → T → Bool
  | .mk f l, t =>
    covers (.mk f l) t t && (decide (o.wt t < o.wt (.mk f l)) || (decide (o.wt (.mk f l) = o.wt t) &&
      (if f < 0 then false else if t.f < 0 then around f t.f (.mk f l) else if f ≠ t.f then decide (o.rank t.f < o.rank f) else kbL o l t.args)))
def kbL (o : Od) : List T → List T → Bool
  | [], _ => false
  | _ :: _, [] => true
  | a :: r, b :: q => if T.same a b then kbL o r q else kb o a b
end
mutual
theorem Good.above_kb {o : Od} {ar : List Int} (G : Good o ar) : ∀ s t, T.ok ar s = true → T.ok ar t = true → s.size ≤ 2000000 → t.size ≤ 2000000 → o.above s t = o.kb s t
  | .mk f l, t, hs, ht, ss, st => by
    rw [above, kb, G.weight_wt hs ss, G.weight_wt ht st]
    rcases T.ok_cases hs with ⟨hf, rfl⟩ | ⟨h0, h1, _, hl⟩
    · simp [hf]
    · have := t.size_eq
      rw [T.size] at ss
      have : t.f < 0 ∨ T.okL ar t.args = true := by
        rw [← T.eta t] at ht
        rcases T.ok_cases ht with ⟨h, _⟩ | ⟨_, _, _, h⟩
        · exact .inl h
        · exact .inr h
      by_cases hg : t.f < 0
      · simp [hg]
      · rw [Good.aboveL_kb G l t.args hl (by rcases this with h | h; exact absurd h hg; exact h) (by omega) (by omega)]
theorem Good.aboveL_kb {o : Od} {ar : List Int} (G : Good o ar) : ∀ l q, T.okL ar l = true → T.okL ar q = true → T.sizeL l ≤ 2000000 → T.sizeL q ≤ 2000000 → o.aboveL l q = o.kbL l q
  | [], _, _, _, _, _ => by rw [aboveL, kbL]
  | _ :: _, [], _, _, _, _ => by rw [aboveL, kbL]
  | a :: r, b :: q, h1, h2, h3, h4 => by
    simp only [T.okL, Bool.and_eq_true] at h1 h2
    rw [T.sizeL] at h3 h4
    rw [aboveL, kbL, Good.aboveL_kb G r q h1.2 h2.2 (by omega) (by omega), Good.above_kb G a b h1.1 h2.1 (by omega) (by omega)]
end
/-- What decides between terms that weigh the same. -/
def Top (o : Od) (s t : T) : Prop :=
  0 ≤ s.f ∧ (t.f < 0 ∧ around s.f t.f s = true ∨ 0 ≤ t.f ∧ (s.f ≠ t.f ∧ o.rank t.f < o.rank s.f ∨ s.f = t.f ∧ o.kbL s.args t.args = true))
theorem kb_iff {o : Od} {ar : List Int} {s t : T} (ht : T.ok ar t = true) : o.kb s t = true ↔ Cov s t ∧ (o.wt t < o.wt s ∨ o.wt s = o.wt t ∧ o.Top s t) := by
  rw [← covers_cov ht]
  obtain ⟨f, l⟩ := s
  rw [kb]
  simp only [Bool.and_eq_true, Bool.or_eq_true, decide_eq_true_eq]
  refine and_congr_right fun _ => or_congr_right (and_congr_right fun _ => ?_)
  unfold Top
  simp only [T.f_mk, T.args_mk]
  by_cases h1 : f < 0
  · simp [h1]; omega
  · by_cases h2 : t.f < 0
    · have e1 : 0 ≤ f := by omega
      have e2 : ¬ 0 ≤ t.f := by omega
      simp [h1, h2, e1, e2]
    · by_cases h3 : f = t.f
      · have e : 0 ≤ t.f := by omega
        simp [h2, h3, e]
      · simp [h2, h3]; omega
theorem kbL_refl (o : Od) : ∀ l, o.kbL l l = false
  | [] => by rw [kbL]
  | a :: r => by rw [kbL, if_pos (T.same_refl a), kbL_refl o r]
theorem kb_irrefl (o : Od) (s : T) : o.kb s s = false := by
  obtain ⟨f, l⟩ := s
  rw [kb]
  by_cases h : f < 0
  · simp [h]
  · simp [h, kbL_refl]
theorem Cov.trans {s t u : T} (h : Cov s t) (k : Cov t u) : Cov s u := fun v hv => Nat.le_trans (k v hv) (h v hv)
theorem around_iff {f v : Int} {g : Int} {l : List T} : around f v (.mk g l) = true ↔ g = f ∧ ∃ a, l = [a] ∧ (a.f = v ∨ around f v a = true) := by
  match l with
  | [] => simp [around]
  | [a] => simp [around]
  | a :: b :: r => simp [around]
theorem ok_around {ar : List Int} {s : T} (h : T.ok ar s = true) {f v : Int} (hf : 0 ≤ f) (ha : around f v s = true) : s.f = f ∧ ar.getD f.toNat 0 = 1 ∧ ∃ a, s = .mk f [a] ∧ T.ok ar a = true ∧ (a.f = v ∨ around f v a = true) := by
  obtain ⟨g, l⟩ := s
  obtain ⟨rfl, a, rfl, h3⟩ := around_iff.1 ha
  rcases T.ok_cases h with ⟨h0, _⟩ | ⟨_, _, h1, h2⟩
  · omega
  · simp only [T.okL, Bool.and_eq_true] at h2
    exact ⟨rfl, by simpa using h1, a, rfl, h2.1, h3⟩
/-- Symbols around a variable that weigh as it does. -/
theorem Good.around_wt {o : Od} {ar : List Int} (G : Good o ar) : ∀ t, T.ok ar t = true → ∀ f v : Int, 0 ≤ f → v < 0 → around f v t = true → 0 ≤ o.wsym f → o.var + o.wsym f ≤ o.wt t := by
  intro t
  induction t using T.ind with
  | h g l ih =>
    intro ht f v hf hv ha hw
    obtain ⟨rfl, h1, a, e, h2, h3⟩ := ok_around ht hf ha
    simp only [T.mk.injEq, true_and, T.f_mk] at e
    subst e
    have := G.var_le a h2
    rw [wt, wtL, wtL]
    simp only [T.f_mk] at *
    omega
theorem Good.kb_var {o : Od} {ar : List Int} (G : Good o ar) {x : Int} {s : T} (hs : T.ok ar s = true) (hx : x < 0) (h : o.kb s (.mk x []) = true) (hw : o.wt s = o.var) : 0 ≤ s.f ∧ around s.f x s = true ∧ o.wsym s.f = 0 ∧ ∀ g : Int, 0 ≤ g → g < ar.length → o.rank g ≤ o.rank s.f := by
  have ok : T.ok ar (.mk x []) = true := by rw [T.ok, if_pos hx]; rfl
  have hwx : o.wt (.mk x []) = o.var := by rw [wt, wtL]; unfold wsym; rw [if_pos hx]; omega
  obtain ⟨_, h⟩ := (kb_iff ok).1 h
  rcases h with h | ⟨_, h0, h⟩
  · omega
  · rcases h with ⟨_, h⟩ | ⟨h, _⟩
    · obtain ⟨_, h1, a, e, h2, h3⟩ := ok_around hs h0 h
      have hlt : s.f < ar.length := by
        rw [← T.eta s] at hs
        rcases T.ok_cases hs with ⟨h, _⟩ | ⟨_, h, _⟩ <;> omega
      have b := G.bound s.f h0 hlt
      have := G.around_wt s hs s.f x h0 hx h b.1
      exact ⟨h0, h, by omega, G.one s.f h0 hlt h1 (by omega)⟩
    · simp only [T.f_mk] at h; omega
theorem kbL_trans {o : Od} {ar : List Int} : ∀ l q r : List T, l.length = q.length → q.length = r.length → T.okL ar l = true → T.okL ar q = true → T.okL ar r = true →
    (∀ a ∈ l, ∀ t u, T.ok ar a = true → T.ok ar t = true → T.ok ar u = true → o.kb a t = true → o.kb t u = true → o.kb a u = true) → o.kbL l q = true → o.kbL q r = true → o.kbL l r = true
  | [], _, _, _, _, _, _, _, _, h, _ => by simp [kbL] at h
  | a :: l, [], _, h, _, _, _, _, _, _, _ => by simp at h
  | a :: l, b :: q, [], _, h, _, _, _, _, _, _ => by simp at h
  | a :: l, b :: q, c :: r, h1, h2, k1, k2, k3, ih, h3, h4 => by
    simp only [T.okL, Bool.and_eq_true] at k1 k2 k3
    rw [kbL] at h3 h4 ⊢
    by_cases e1 : T.same a b = true
    · rw [if_pos e1] at h3
      obtain rfl := (T.same_iff _ _).1 e1
      by_cases e2 : T.same a c = true
      · rw [if_pos e2] at h4 ⊢
        exact kbL_trans l q r (by simpa using h1) (by simpa using h2) k1.2 k2.2 k3.2 (fun x hx => ih x (by simp [hx])) h3 h4
      · rw [if_neg e2] at h4 ⊢
        exact h4
    · rw [if_neg e1] at h3
      by_cases e2 : T.same b c = true
      · obtain rfl := (T.same_iff _ _).1 e2
        rw [if_neg e1]; exact h3
      · rw [if_neg e2] at h4
        have := ih a (by simp) b c k1.1 k2.1 k3.1 h3 h4
        have e3 : ¬ T.same a c = true := by
          intro e
          obtain rfl := (T.same_iff _ _).1 e
          rw [kb_irrefl] at this; cases this
        rw [if_neg e3]; exact this
theorem Good.kb_trans {o : Od} {ar : List Int} (G : Good o ar) : ∀ s t u, T.ok ar s = true → T.ok ar t = true → T.ok ar u = true → o.kb s t = true → o.kb t u = true → o.kb s u = true := by
  intro s
  induction s using T.ind with
  | h f l ih =>
  intro t u ks kt ku h k
  have h' := h
  have k' := k
  obtain ⟨c1, h⟩ := (kb_iff kt).1 h
  obtain ⟨c2, k⟩ := (kb_iff ku).1 k
  refine (kb_iff ku).2 ⟨c1.trans c2, ?_⟩
  rcases h with h | ⟨h1, h2, h3⟩
  · rcases k with k | ⟨k1, _⟩ <;> exact .inl (by omega)
  rcases k with k | ⟨k1, k2, k3⟩
  · exact .inl (by omega)
  refine .inr ⟨by omega, h2, ?_⟩
  simp only [T.f_mk, T.args_mk] at h2 h3 ⊢
  rcases h3 with ⟨h3, _⟩ | ⟨_, h3⟩
  · omega
  have hfl : f < ar.length ∧ ar.getD f.toNat 0 = l.length ∧ T.okL ar l = true := by
    rcases T.ok_cases ks with ⟨h, _⟩ | ⟨_, h, h'⟩
    · omega
    · exact ⟨h, h'⟩
  have htl : t.f < ar.length ∧ ar.getD t.f.toNat 0 = t.args.length ∧ T.okL ar t.args = true := by
    rw [← T.eta t] at kt
    rcases T.ok_cases kt with ⟨h, _⟩ | ⟨_, h, h'⟩
    · omega
    · exact ⟨h, h'⟩
  rcases k3 with ⟨k3, k4⟩ | ⟨k3, k4⟩
  · -- u is a variable
    obtain ⟨x, m⟩ := u
    simp only [T.f_mk] at k3 k4 ⊢
    have hm : m = [] := by
      rcases T.ok_cases ku with ⟨_, h⟩ | ⟨h, _⟩
      · exact h
      · omega
    subst hm
    have hwx : o.wt (.mk x []) = o.var := by rw [wt, wtL]; unfold wsym; rw [if_pos k3]; omega
    obtain ⟨_, _, z1, z2⟩ := G.kb_var kt k3 k' (by omega)
    refine .inl ⟨k3, ?_⟩
    rcases h3 with ⟨h3, h4⟩ | ⟨h3, h4⟩
    · have := z2 f h2 hfl.1; omega
    · subst h3
      obtain ⟨_, a1, b, e, kb, hb⟩ := ok_around kt k2 k4
      have e1 : t.args = [b] := by rw [e]; rfl
      rw [e1] at h4
      rw [a1] at hfl
      obtain ⟨a, rfl⟩ : ∃ a, l = [a] := by
        match l, hfl.2.1 with
        | [a], _ => exact ⟨a, rfl⟩
      have ka : T.ok ar a = true := by have := hfl.2.2; simp only [T.okL, Bool.and_eq_true] at this; exact this.1
      rw [kbL] at h4
      by_cases es : T.same a b = true
      · rw [if_pos es] at h4; simp [kbL] at h4
      rw [if_neg es] at h4
      have wa : o.wt a = o.var := by rw [wt, wtL, wtL] at h1; omega
      have hax : o.kb a (.mk x []) = true := by
        rcases hb with hb | hb
        · have : b = .mk x [] := by
            obtain ⟨y, m⟩ := b
            simp only [T.f_mk] at hb
            subst hb
            rcases T.ok_cases kb with ⟨_, h⟩ | ⟨h, _⟩
            · rw [h]
            · omega
          rw [← this]; exact h4
        · refine ih a (by simp) b _ ka kb ku h4 ((kb_iff ku).2 ⟨?_, .inr ⟨?_, ?_, .inl ⟨k3, ?_⟩⟩⟩)
          · intro v hv
            have := c2 v hv
            have e2 : t.often v = b.often v := by rw [e, T.often, T.oftenL, T.oftenL, if_neg (by omega)]; omega
            omega
          · rw [e, wt, wtL, wtL] at k1; omega
          · have := (ok_around kb k2 hb).1; omega
          · have := (ok_around kb k2 hb).1
            rw [this]; exact hb
      obtain ⟨y0, y1, y2, y3⟩ := G.kb_var ka k3 hax wa
      have haf : a.f < ar.length := by
        rw [← T.eta a] at ka
        rcases T.ok_cases ka with ⟨h, _⟩ | ⟨_, h, _⟩ <;> omega
      have eq : a.f = t.f := G.inj _ _ y0 haf k2 htl.1 (by have := z2 a.f y0 haf; have := y3 t.f k2 htl.1; omega)
      refine around_iff.2 ⟨rfl, a, rfl, .inr ?_⟩
      rw [← eq]; exact y1
  · -- u is none
    refine .inr ⟨k3, ?_⟩
    rcases h3 with ⟨h3, h4⟩ | ⟨h3, h4⟩
    · rcases k4 with ⟨k4, k5⟩ | ⟨k4, k5⟩
      · refine .inl ⟨?_, by omega⟩
        intro e; rw [e] at h4; omega
      · exact .inl ⟨by omega, by rw [← k4]; exact h4⟩
    · rcases k4 with ⟨k4, k5⟩ | ⟨k4, k5⟩
      · exact .inl ⟨by omega, by rw [h3]; exact k5⟩
      · have hul : ar.getD u.f.toNat 0 = u.args.length ∧ T.okL ar u.args = true := by
          rw [← T.eta u] at ku
          rcases T.ok_cases ku with ⟨h, _⟩ | ⟨_, _, h'⟩
          · omega
          · exact h'
        refine .inr ⟨by omega, kbL_trans l t.args u.args ?_ ?_ hfl.2.2 htl.2.2 hul.2 (fun a ha t u => ih a ha t u) h4 k5⟩
        · have h5 := hfl.2.1; have h6 := htl.2.1; rw [h3] at h5; omega
        · have h5 := hul.1; have h6 := htl.2.1; rw [k4] at h6; omega
end Od
end Go.Proofs.Ytmdpiafeiopimaa

/- The order of Knuth and Bendix over a signature: above subterms, stable, monotone, total on ground terms. -/
namespace Go.Proofs.Ytmdpiafeiopimaa
namespace T
theorem often_le_oftenL (v : Int) : ∀ (l : List T) (a : T), a ∈ l → often v a ≤ oftenL v l
  | [], a, h => by simp at h
  | b :: r, a, h => by
    rw [oftenL]
    rcases List.mem_cons.1 h with rfl | h
    · omega
    · have := often_le_oftenL v r a h; omega
theorem ok_args {ar : List Int} {f : Int} {l : List T} (h : ok ar (.mk f l) = true) : ∀ a ∈ l, ok ar a = true := by
  rcases ok_cases h with ⟨_, rfl⟩ | ⟨_, _, _, h⟩
  · simp
  · exact okL_mem h
mutual
def put (s : List T) : T → T
  | .mk f l => if f < 0 then s.getD (-1 - f).toNat (.mk f l) else .mk f (putL s l)
def putL (s : List T) : List T → List T
  | [] => []
  | a :: r => put s a :: putL s r
end
theorem putL_map (s : List T) : ∀ l, putL s l = l.map (put s)
  | [] => rfl
  | a :: r => by rw [putL, putL_map s r, List.map_cons]
/-- A term put in at a place. -/
def into : T → List Nat → T → T
  | _, [], s => s
  | .mk f l, i :: p, s => .mk f (l.set i (into (l.getD i (.mk f l)) p s))
theorem vars_mem {ar : List Int} {s : T} {sg : List T} {x : Int} : ok ar s = true → ok ar (put sg s) = true → x ∈ vars s → ok ar (put sg (.mk x [])) = true := by
  induction s using T.ind with
  | h f l ih =>
    intro h1 h2 hx
    rcases ok_cases h1 with ⟨hf, rfl⟩ | ⟨hf, _, _, hl⟩
    · rw [vars, if_pos hf] at hx
      simp at hx
      subst hx
      exact h2
    · rw [vars, if_neg (by omega)] at hx
      rw [put, if_neg (by omega)] at h2
      have h3 := ok_args h2
      rw [putL_map] at h3
      have key : ∀ q : List T, x ∈ varsL q → ∃ a ∈ q, x ∈ vars a := by
        intro q
        induction q with
        | nil => intro h; simp [varsL] at h
        | cons b r ihr =>
          intro h
          rw [varsL, List.mem_append] at h
          rcases h with h | h
          · exact ⟨b, by simp, h⟩
          · obtain ⟨a, ha, hb⟩ := ihr h
            exact ⟨a, by simp [ha], hb⟩
      obtain ⟨a, ha, hxa⟩ := key l hx
      exact ih a ha (okL_mem hl a ha) (h3 _ (List.mem_map.2 ⟨a, ha, rfl⟩)) hxa
mutual
theorem often_put {ar : List Int} {sg : List T} {v : Int} (hv : v < 0) : ∀ t, ok ar t = true → often v (put sg t) = ((vars t).map fun x => often v (put sg (.mk x []))).sum
  | .mk f l, h => by
    rcases ok_cases h with ⟨hf, rfl⟩ | ⟨hf, _, _, hl⟩
    · rw [vars, if_pos hf]; simp
    · rw [put, vars, if_neg (by omega), if_neg (by omega), often, if_neg (by omega), often_putL hv l hl]; omega
theorem often_putL {ar : List Int} {sg : List T} {v : Int} (hv : v < 0) : ∀ l, okL ar l = true → oftenL v (putL sg l) = ((varsL l).map fun x => often v (put sg (.mk x []))).sum
  | [], _ => by simp [putL, oftenL, varsL]
  | a :: r, h => by
    simp only [okL, Bool.and_eq_true] at h
    rw [putL, oftenL, varsL, List.map_append, List.sum_append, often_put hv a h.1, often_putL hv r h.2]
end
theorem sum_le_of_count (g : Int → Nat) : ∀ (a b : List Int), (∀ v, a.count v ≤ b.count v) → (a.map g).sum ≤ (b.map g).sum
  | [], b, _ => by simp
  | x :: a, b, h => by
    have hx : x ∈ b := by
      have := h x
      rw [List.count_cons_self] at this
      exact List.count_pos_iff.1 (by omega)
    have p := List.perm_cons_erase hx
    have := sum_le_of_count g a (b.erase x) (fun v => by
      have h1 := h v
      have h2 := p.count_eq v
      rw [List.count_cons] at h1 h2
      omega)
    have e : (b.map g).sum = ((x :: b.erase x).map g).sum := (p.map g).sum_nat
    rw [e]
    simp only [List.map_cons, List.sum_cons]
    omega
end T
namespace Od
theorem Cov.arg {f : Int} {l : List T} {a : T} (h : a ∈ l) : Cov (.mk f l) a := fun v _ => by
  have := T.often_le_oftenL v l a h
  rw [T.often]; omega
theorem Good.wt_arg {o : Od} {ar : List Int} (G : Good o ar) : ∀ l : List T, T.okL ar l = true → ∀ a ∈ l, o.wt a ≤ o.wtL l ∧ (2 ≤ l.length → o.wt a + 1 ≤ o.wtL l)
  | [], _, a, h => by simp at h
  | b :: r, h, a, ha => by
    simp only [T.okL, Bool.and_eq_true] at h
    have := G.var
    have h1 := G.var_le b h.1
    have h2 := G.wtL_nonneg r h.2
    rw [wtL]
    rcases List.mem_cons.1 ha with rfl | ha
    · refine ⟨by omega, fun hl => ?_⟩
      cases r with
      | nil => simp at hl
      | cons c q =>
        simp only [T.okL, Bool.and_eq_true] at h
        have := G.var_le c h.2.1
        have := G.wtL_nonneg q h.2.2
        rw [wtL]; omega
    · have := (Good.wt_arg G r h.2 a ha).1
      exact ⟨by omega, fun _ => by omega⟩
theorem wt_var {o : Od} {x : Int} (h : x < 0) : o.wt (.mk x []) = o.var := by rw [wt, wtL]; unfold wsym; rw [if_pos h]; omega
theorem Good.kb_arg {o : Od} {ar : List Int} (G : Good o ar) : ∀ (t : T) (f : Int) (l : List T), t ∈ l → T.ok ar (.mk f l) = true → o.kb (.mk f l) t = true := by
  intro t
  induction t using T.ind with
  | h g q ih =>
    intro f l hm hok
    have ht := T.ok_args hok _ hm
    rcases T.ok_cases hok with ⟨_, rfl⟩ | ⟨h0, h1, h2, h3⟩
    · simp at hm
    have hb := G.bound f h0 h1
    refine (kb_iff ht).2 ⟨Cov.arg hm, ?_⟩
    have hw := G.wt_arg l h3 _ hm
    have e1 : o.wt (.mk f l) = o.wsym f + o.wtL l := by rw [wt]
    by_cases hlen : 2 ≤ l.length
    · exact .inl (by have := hw.2 hlen; omega)
    · obtain rfl : l = [.mk g q] := by
        match l, hm with
        | [x], hm => simp at hm; rw [hm]
        | x :: y :: r, _ => simp at hlen
      have e2 : o.wtL [.mk g q] = o.wt (.mk g q) := by rw [wtL, wtL]; omega
      by_cases hz : o.wsym f = 0
      · refine .inr ⟨by omega, h0, ?_⟩
        have top := G.one f h0 h1 (by simpa using h2) hz
        simp only [T.f_mk, T.args_mk]
        by_cases hg : g < 0
        · exact .inl ⟨hg, around_iff.2 ⟨rfl, _, rfl, .inl rfl⟩⟩
        · refine .inr ⟨by omega, ?_⟩
          have hgl : g < ar.length ∧ ar.getD g.toNat 0 = q.length := by
            rcases T.ok_cases ht with ⟨h, _⟩ | ⟨_, h, h', _⟩
            · omega
            · exact ⟨h, h'⟩
          by_cases e : f = g
          · refine .inr ⟨e, ?_⟩
            subst e
            have hq : q.length = 1 := by rw [hgl.2] at h2; simp at h2; omega
            obtain ⟨b, rfl⟩ : ∃ b, q = [b] := by
              match q, hq with
              | [b], _ => exact ⟨b, rfl⟩
            have kbb := ih b (by simp) f [b] (by simp) ht
            have hne : ¬ T.same (.mk f [b]) b = true := by
              intro e
              have := (T.same_iff _ _).1 e
              rw [this, kb_irrefl] at kbb; cases kbb
            rw [kbL, if_neg hne]
            exact kbb
          · have := top g (by omega) hgl.1
            refine .inl ⟨e, ?_⟩
            rcases Int.lt_or_le (o.rank g) (o.rank f) with h | h
            · exact h
            · exact absurd (G.inj f g h0 h1 (by omega) hgl.1 (by omega)) e
      · exact .inl (by omega)
mutual
theorem wt_put {o : Od} {ar : List Int} {sg : List T} : ∀ t, T.ok ar t = true → o.wt (T.put sg t) = o.wt t + ((T.vars t).map fun x => o.wt (T.put sg (.mk x [])) - o.var).sum
  | .mk f l, h => by
    rcases T.ok_cases h with ⟨hf, rfl⟩ | ⟨hf, _, _, hl⟩
    · rw [T.vars, if_pos hf, wt_var hf]; simp; omega
    · rw [T.put, T.vars, if_neg (by omega), if_neg (by omega), wt, wt, wtL_put l hl]; omega
theorem wtL_put {o : Od} {ar : List Int} {sg : List T} : ∀ l, T.okL ar l = true → o.wtL (T.putL sg l) = o.wtL l + ((T.varsL l).map fun x => o.wt (T.put sg (.mk x [])) - o.var).sum
  | [], _ => by simp [T.putL, wtL, T.varsL]
  | a :: r, h => by
    simp only [T.okL, Bool.and_eq_true] at h
    rw [T.putL, wtL, wtL, T.varsL, List.map_append, List.sum_append, wt_put a h.1, wtL_put r h.2]; omega
end
theorem sum_toNat (g : Int → Int) : ∀ l : List Int, (∀ x ∈ l, 0 ≤ g x) → (l.map g).sum = ((l.map fun x => (g x).toNat).sum : Nat)
  | [], _ => by simp
  | x :: r, h => by
    have := h x (by simp)
    simp only [List.map_cons, List.sum_cons, sum_toNat g r (fun y hy => h y (by simp [hy]))]
    omega
theorem count_of_cov {ar : List Int} {s t : T} (hs : T.ok ar s = true) (ht : T.ok ar t = true) (h : Cov s t) (v : Int) : (T.vars t).count v ≤ (T.vars s).count v := by
  by_cases hv : v < 0
  · have := h v hv
    rwa [T.often_vars hv s hs, T.often_vars hv t ht] at this
  · have : v ∉ T.vars t := fun hm => hv (T.vars_neg t v hm)
    rw [List.count_eq_zero.2 this]; omega
theorem Cov.put {ar : List Int} {s t : T} (sg : List T) (hs : T.ok ar s = true) (ht : T.ok ar t = true) (h : Cov s t) : Cov (s.put sg) (t.put sg) := fun v hv => by
  rw [T.often_put hv s hs, T.often_put hv t ht]
  exact T.sum_le_of_count _ _ _ (count_of_cov hs ht h)
theorem Good.wt_put_le {o : Od} {ar : List Int} (G : Good o ar) {s t : T} {sg : List T} (hs : T.ok ar s = true) (ht : T.ok ar t = true) (ks : T.ok ar (s.put sg) = true) (h : Cov s t) : o.wt (t.put sg) - o.wt t ≤ o.wt (s.put sg) - o.wt s := by
  have hx : ∀ x ∈ T.vars s, 0 ≤ o.wt (T.put sg (.mk x [])) - o.var := fun x hx => by
    have := G.var_le _ (T.vars_mem hs ks hx); omega
  have hc := count_of_cov hs ht h
  have hx2 : ∀ x ∈ T.vars t, 0 ≤ o.wt (T.put sg (.mk x [])) - o.var := fun x hm => hx x (by
    have h1 := hc x
    have h2 := List.count_pos_iff.2 hm
    exact List.count_pos_iff.1 (by omega))
  rw [wt_put s hs, wt_put t ht, sum_toNat _ _ hx, sum_toNat _ _ hx2]
  have := T.sum_le_of_count (fun x => (o.wt (T.put sg (.mk x [])) - o.var).toNat) _ _ hc
  omega
theorem Good.around_put {o : Od} {ar : List Int} (G : Good o ar) {sg : List T} {f x : Int} (hf : 0 ≤ f) (hx : x < 0) : ∀ s : T, T.ok ar s = true → T.ok ar (s.put sg) = true → around f x s = true → o.kb (s.put sg) (T.put sg (.mk x [])) = true ∧ T.ok ar (T.put sg (.mk x [])) = true := by
  intro s
  induction s using T.ind with
  | h g l ih =>
    intro hs hp ha
    obtain ⟨rfl, _, a, e, ka, hor⟩ := ok_around hs hf ha
    simp only [T.f_mk, T.mk.injEq, true_and] at *
    subst e
    have e1 : T.put sg (.mk g [a]) = .mk g [T.put sg a] := by rw [T.put, if_neg (by omega), T.putL, T.putL]
    rw [e1] at hp ⊢
    have kp := T.ok_args hp (T.put sg a) (by simp)
    have k1 := G.kb_arg (T.put sg a) g [T.put sg a] (by simp) hp
    rcases hor with h | h
    · have : a = .mk x [] := by
        obtain ⟨y, m⟩ := a
        simp only [T.f_mk] at h
        subst h
        rcases T.ok_cases ka with ⟨_, h⟩ | ⟨h, _⟩
        · rw [h]
        · omega
      subst this
      exact ⟨k1, kp⟩
    · obtain ⟨h1, h2⟩ := ih a (by simp) ka kp h
      exact ⟨G.kb_trans _ _ _ hp kp h2 k1 h1, h2⟩
theorem kbL_put {o : Od} {ar : List Int} {sg : List T} : ∀ l q : List T, T.okL ar l = true → T.okL ar q = true → T.okL ar (T.putL sg l) = true → T.okL ar (T.putL sg q) = true →
    (∀ a ∈ l, ∀ t, T.ok ar a = true → T.ok ar t = true → T.ok ar (a.put sg) = true → T.ok ar (t.put sg) = true → o.kb a t = true → o.kb (a.put sg) (t.put sg) = true) →
    o.kbL l q = true → o.kbL (T.putL sg l) (T.putL sg q) = true
  | [], _, _, _, _, _, _, h => by simp [kbL] at h
  | a :: l, [], _, _, _, _, _, _ => by rw [T.putL, T.putL, kbL]
  | a :: l, b :: q, h1, h2, h3, h4, ih, h => by
    rw [T.putL] at h3 h4 ⊢
    rw [T.putL]
    simp only [T.okL, Bool.and_eq_true] at h1 h2 h3 h4
    rw [kbL] at h ⊢
    by_cases e : T.same a b = true
    · rw [if_pos e] at h
      obtain rfl := (T.same_iff _ _).1 e
      rw [if_pos (T.same_refl _)]
      exact kbL_put l q h1.2 h2.2 h3.2 h4.2 (fun x hx => ih x (by simp [hx])) h
    · rw [if_neg e] at h
      have := ih a (by simp) b h1.1 h2.1 h3.1 h4.1 h
      have e2 : ¬ T.same (a.put sg) (b.put sg) = true := by
        intro e
        rw [(T.same_iff _ _).1 e, kb_irrefl] at this; cases this
      rw [if_neg e2]; exact this
/-- What is above stays above. -/
theorem Good.kb_put {o : Od} {ar : List Int} (G : Good o ar) (sg : List T) : ∀ s t : T, T.ok ar s = true → T.ok ar t = true → T.ok ar (s.put sg) = true → T.ok ar (t.put sg) = true → o.kb s t = true → o.kb (s.put sg) (t.put sg) = true := by
  intro s
  induction s using T.ind with
  | h f l ih =>
    intro t hs ht ps pt h
    obtain ⟨c, h⟩ := (kb_iff ht).1 h
    have hw := G.wt_put_le hs ht ps c
    have hc := c.put sg hs ht
    rcases h with h | ⟨h1, h2, h3⟩
    · exact (kb_iff pt).2 ⟨hc, .inl (by omega)⟩
    simp only [T.f_mk, T.args_mk] at h2 h3
    rcases h3 with ⟨h3, h4⟩ | ⟨h3, h4⟩
    · obtain ⟨x, m⟩ := t
      simp only [T.f_mk] at h3 h4
      rcases T.ok_cases ht with ⟨_, rfl⟩ | ⟨h, _⟩
      · exact (G.around_put h2 h3 _ hs ps h4).1
      · omega
    · obtain ⟨g, q⟩ := t
      simp only [T.f_mk, T.args_mk] at h3 h4
      have e1 : T.put sg (.mk f l) = .mk f (T.putL sg l) := by rw [T.put, if_neg (by omega)]
      have e2 : T.put sg (.mk g q) = .mk g (T.putL sg q) := by rw [T.put, if_neg (by omega)]
      refine (kb_iff pt).2 ⟨hc, ?_⟩
      rcases Int.lt_or_le (o.wt (T.put sg (.mk g q))) (o.wt (T.put sg (.mk f l))) with hlt | hle
      · exact .inl hlt
      · refine .inr ⟨by omega, ?_⟩
        rw [e1] at ps
        rw [e2] at pt
        rw [e1, e2]
        unfold Top
        simp only [T.f_mk, T.args_mk]
        refine ⟨h2, .inr ⟨h3, ?_⟩⟩
        rcases h4 with h4 | ⟨rfl, h4⟩
        · exact .inl h4
        · have g1 : T.okL ar l = true := by rcases T.ok_cases hs with ⟨h, _⟩ | ⟨_, _, _, h⟩; omega; exact h
          have g2 : T.okL ar q = true := by rcases T.ok_cases ht with ⟨h, _⟩ | ⟨_, _, _, h⟩; omega; exact h
          have g3 : T.okL ar (T.putL sg l) = true := by rcases T.ok_cases ps with ⟨h, _⟩ | ⟨_, _, _, h⟩; omega; exact h
          have g4 : T.okL ar (T.putL sg q) = true := by rcases T.ok_cases pt with ⟨h, _⟩ | ⟨_, _, _, h⟩; omega; exact h
          exact .inr ⟨rfl, kbL_put l q g1 g2 g3 g4 (fun a ha t k1 k2 k3 k4 k5 => ih a ha t k1 k2 k3 k4 k5) h4⟩
end Od
end Go.Proofs.Ytmdpiafeiopimaa

/- What an order and terms that fit come to: the laws of the order, plainly. -/
namespace Go.Proofs.Ytmdpiafeiopimaa
namespace T
mutual
theorem ok_over {sg : List Sy} {m : Int} : ∀ (t : T) (top : Bool), low m t = true → over sg top t = true → ok (sg.map (·.ar)) t = true
  | .mk f l, top, h1, h2 => by
    rw [low] at h1
    rw [over] at h2
    rw [ok]
    by_cases hf : f < 0
    · rw [if_pos hf] at h1 ⊢
      simp only [Bool.and_eq_true] at h1
      exact h1.2
    · rw [if_neg hf] at h1 h2 ⊢
      cases hs : sg[f.toNat]? with
      | none => rw [hs] at h2; cases h2
      | some s =>
        rw [hs] at h2
        simp only at h2
        split at h2
        · cases h2
        · rename_i hc
          have hc1 : s.ar = l.length := Classical.not_not.1 fun h => hc (.inl h)
          have hlt := (List.getElem?_eq_some_iff.1 hs).1
          have e : (sg.map (·.ar)).getD f.toNat 0 = s.ar := by rw [List.getD_eq_getElem?_getD, List.getElem?_map, hs]; rfl
          simp only [Bool.and_eq_true, decide_eq_true_eq]
          exact ⟨⟨by simp; omega, e.trans hc1⟩, okL_over l h1 h2⟩
theorem okL_over {sg : List Sy} {m : Int} : ∀ (l : List T), lowL m l = true → overL sg l = true → okL (sg.map (·.ar)) l = true
  | [], _, _ => rfl
  | a :: r, h1, h2 => by
    simp only [lowL, overL, Bool.and_eq_true] at h1 h2
    simp only [okL, Bool.and_eq_true]
    exact ⟨ok_over a false h1.1 h2.1, okL_over r h1.2 h2.2⟩
end
/-- A term over a signature, of no more than 300 parts. -/
theorem check_ok {sg : List Sy} {t : T} (h : t.check sg = 0) : ok (sg.map (·.ar)) t = true ∧ t.size ≤ 300 := by
  unfold check at h
  by_cases hc : sigCheck sg = 0 ∧ small 48 t = true ∧ over sg true t = true
  · have h1 := hc.2.1
    simp only [small, Bool.and_eq_true, decide_eq_true_eq] at h1
    exact ⟨ok_over t true h1.2.2 hc.2.2, h1.1⟩
  · rw [if_neg hc] at h; cases h
end T
namespace Od
theorem good_of {sg : List Sy} {o : Od} (h : OrdOk sg o) (hl : o.lpo = false) : Good o (sg.map (·.ar)) := by
  obtain ⟨h1, h2, h3, h4, h5⟩ := h.kbo hl
  have hlen := h.len
  have wat : ∀ f : Int, 0 ≤ f → o.wsym f = o.weights.getD f.toNat 0 := fun f hf => by unfold wsym; rw [if_neg (by omega)]
  have aat : ∀ (f : Int) (_ : 0 ≤ f) (hf : f.toNat < sg.length), (sg.map (·.ar)).getD f.toNat 0 = sg[f.toNat].ar := fun f _ hf => by
    rw [List.getD_eq_getElem?_getD, List.getElem?_map, List.getElem?_eq_getElem hf]; rfl
  refine ⟨by simpa using hlen, by simpa using h1, fun f g f0 f1 g0 g1 e => ?_, ⟨h2, h3⟩, fun f f0 f1 => ?_, fun f f0 f1 ha => ?_, fun f f0 f1 ha hw g g0 g1 => ?_⟩
  · simp only [List.length_map] at f1 g1
    unfold rank at e
    rcases Nat.lt_trichotomy f.toNat g.toNat with h' | h' | h'
    · exact absurd e.symm ((h.ranks g.toNat (by omega)).2 _ h')
    · omega
    · exact absurd e ((h.ranks f.toNat (by omega)).2 _ h')
  · simp only [List.length_map] at f1
    rw [wat f f0]
    exact (h5 f.toNat (by omega)).1
  · simp only [List.length_map] at f1
    rw [aat f f0 (by omega)] at ha
    rw [wat f f0]
    exact (h5 f.toNat (by omega)).2.1 ha
  · simp only [List.length_map] at f1 g1
    rw [aat f f0 (by omega)] at ha
    rw [wat f f0] at hw
    exact (h5 f.toNat (by omega)).2.2 ha hw g.toNat (by omega)
mutual
theorem Good.knows {o : Od} {ar : List Int} (G : Good o ar) : ∀ t, T.ok ar t = true → o.knows t = true
  | .mk f l, h => by
    rcases T.ok_cases h with ⟨hf, rfl⟩ | ⟨h0, h1, _, hl⟩
    · rw [Od.knows, if_pos hf]; rfl
    · rw [Od.knows, if_neg (by omega)]
      simp only [Bool.and_eq_true, decide_eq_true_eq]
      exact ⟨⟨by rw [G.prec]; exact h1, by rw [G.weights]; exact h1⟩, Good.knowsL G l hl⟩
theorem Good.knowsL {o : Od} {ar : List Int} (G : Good o ar) : ∀ l, T.okL ar l = true → o.knowsL l = true
  | [], _ => rfl
  | a :: r, h => by
    simp only [T.okL, Bool.and_eq_true] at h
    simp only [Od.knowsL, Bool.and_eq_true]
    exact ⟨Good.knows G a h.1, Good.knowsL G r h.2⟩
end
/-- Terms that the order may be asked of. -/
structure Fit (o : Od) (ar : List Int) (t : T) : Prop where
  ok : T.ok ar t = true
  size : t.size ≤ 2000000
section
variable {o : Od} {ar : List Int} {s t u : T}
theorem Good.Cmp_eq (G : Good o ar) (hs : Fit o ar s) (ht : Fit o ar t) : o.Cmp s t = if T.same s t then 2 else if o.kb s t then 3 else if o.kb t s then 1 else 0 := by
  unfold Cmp cmp
  rw [G.knows s hs.ok, G.knows t ht.ok, G.above_kb s t hs.ok ht.ok hs.size ht.size, G.above_kb t s ht.ok hs.ok ht.size hs.size]
  rfl
def turn (r : Int) : Int := if r = 1 then 3 else if r = 3 then 1 else r
end
end Od
end Go.Proofs.Ytmdpiafeiopimaa

/- The lexicographic path order is an order: irreflexive, transitive, above its own subterms. -/
namespace Go.Proofs.Ytmdpiafeiopimaa
namespace T
theorem has_arg {v : Int} {a t : T} (h : a ∈ t.args) (hv : has v a = true) : has v t = true := by
  obtain ⟨f, l⟩ := t
  have h : a ∈ l := h
  rw [has, hasL_any, List.any_eq_true.2 ⟨a, h, hv⟩]; simp
theorem has_top (t : T) : has t.f t = true := by obtain ⟨f, l⟩ := t; rw [has]; simp
theorem has_cases {v : Int} {t : T} (h : has v t = true) : t.f = v ∨ ∃ a ∈ t.args, has v a = true := by
  obtain ⟨f, l⟩ := t
  rw [has, hasL_any, Bool.or_eq_true, decide_eq_true_eq, List.any_eq_true] at h
  exact h
theorem size_arg {a t : T} (h : a ∈ t.args) : a.size < t.size := by
  have h1 := size_le_sizeL h
  have h2 := size_eq t
  omega
/-- A subterm, the term itself too. -/
inductive Sub (s : T) : T → Prop where
  | refl : Sub s s
  | arg {b t : T} (h : b ∈ t.args) (k : Sub s b) : Sub s t
theorem Sub.size {s t : T} (h : Sub s t) : s.size ≤ t.size := by
  induction h with
  | refl => exact Nat.le_refl _
  | arg hb _ ih => have := size_arg hb; omega
theorem Sub.trans {a s t : T} (h : Sub a s) (k : Sub s t) : Sub a t := by
  induction k with
  | refl => exact h
  | arg hb _ ih => exact .arg hb ih
end T
theorem lexR_self (R : T → T → Bool) : ∀ l, lexR R l l = false
  | [] => rfl
  | a :: r => by rw [lexR, if_pos (T.same_refl a), lexR_self R r]
namespace Od
variable {o : Od}
theorem lg_iff {s t : T} : o.lg s t = true ↔ ¬ s.f < 0 ∧ ((t.f < 0 ∧ T.has t.f s = true) ∨ (¬ t.f < 0 ∧ ((∃ a ∈ s.args, a = t ∨ o.lg a t = true) ∨ (s.f ≠ t.f ∧ o.rank t.f < o.rank s.f ∧ ∀ b ∈ t.args, o.lg s b = true) ∨ (s.f = t.f ∧ (∀ b ∈ t.args, o.lg s b = true) ∧ lexR o.lg s.args t.args = true)))) := by
  rw [lg_eq, lstep]
  by_cases h1 : s.f < 0
  · simp [h1]
  · by_cases h2 : t.f < 0
    · simp [h1, h2]
    · by_cases h3 : s.f = t.f
      · simp [h2, h3, T.same_iff]
      · simp [h1, h2, h3, T.same_iff]
/-- Above what an argument is above. -/
theorem lg_sub {s a t : T} (hs : ¬ s.f < 0) (ha : a ∈ s.args) (h : a = t ∨ o.lg a t = true) : o.lg s t = true := by
  rw [lg_iff]
  refine ⟨hs, ?_⟩
  by_cases ht : t.f < 0
  · refine .inl ⟨ht, T.has_arg ha ?_⟩
    rcases h with rfl | h
    · exact T.has_top _
    · rcases (lg_iff.1 h).2 with h | h
      · exact h.2
      · exact absurd ht h.1
  · exact .inr ⟨ht, .inl ⟨a, ha, h⟩⟩
/-- Nothing is above what it is part of. -/
theorem lg_not_sub : ∀ (n : Nat) (s t : T), s.size + t.size ≤ n → o.lknows t = true → T.Sub s t → o.lg s t = true → False
  | 0, s, _, hn, _, _, _ => by have := T.size_eq s; omega
  | n + 1, s, t, hn, hk, hsub, h => by
    obtain ⟨hs, h⟩ := lg_iff.1 h
    rcases h with ⟨ht, _⟩ | ⟨ht, h⟩
    · cases hsub with
      | refl => exact hs ht
      | arg hb k => rw [(lknows_top hk).2 ht] at hb; simp at hb
    · rcases h with ⟨a, ha, h⟩ | ⟨hne, _, hall⟩ | ⟨he, hall, hlex⟩
      · have h1 := T.size_arg ha
        have h2 := hsub.size
        rcases h with rfl | h
        · omega
        · exact lg_not_sub n a t (by omega) hk ((T.Sub.arg ha .refl).trans hsub) h
      · cases hsub with
        | refl => exact hne rfl
        | arg hb k => have := T.size_arg hb; exact lg_not_sub n s _ (by omega) (lknows_arg hk hb).1 k (hall _ hb)
      · cases hsub with
        | refl => rw [lexR_self] at hlex; cases hlex
        | arg hb k => have := T.size_arg hb; exact lg_not_sub n s _ (by omega) (lknows_arg hk hb).1 k (hall _ hb)
theorem lg_irrefl {s : T} (hk : o.lknows s = true) : o.lg s s = false := by
  cases h : o.lg s s with
  | false => rfl
  | true => exact (lg_not_sub _ s s (Nat.le_refl _) hk .refl h).elim
/-- What is above has all the variables. -/
theorem lg_vars {v : Int} (hv : v < 0) : ∀ (n : Nat) (s t : T), s.size + t.size ≤ n → o.lknows t = true → o.lg s t = true → T.has v t = true → T.has v s = true
  | 0, s, _, hn, _, _, _ => by have := T.size_eq s; omega
  | n + 1, s, t, hn, hk, h, hh => by
    obtain ⟨hs, h⟩ := lg_iff.1 h
    rcases h with ⟨ht, h⟩ | ⟨ht, h⟩
    · rcases T.has_cases hh with e | ⟨b, hb, _⟩
      · rw [← e]; exact h
      · rw [(lknows_top hk).2 ht] at hb; simp at hb
    · have key : (∀ b ∈ t.args, o.lg s b = true) → T.has v s = true := fun hall => by
        rcases T.has_cases hh with e | ⟨b, hb, hb2⟩
        · omega
        · have := T.size_arg hb; exact lg_vars hv n s b (by omega) (lknows_arg hk hb).1 (hall b hb) hb2
      rcases h with ⟨a, ha, h⟩ | ⟨_, _, hall⟩ | ⟨_, hall, _⟩
      · have := T.size_arg ha
        refine T.has_arg ha ?_
        rcases h with rfl | h
        · exact hh
        · exact lg_vars hv n a t (by omega) hk h hh
      · exact key hall
      · exact key hall
theorem lexR_trans {R : T → T → Bool} : ∀ (l q r : List T), (∀ a ∈ l, ∀ b ∈ q, ∀ c ∈ r, R a b = true → R b c = true → R a c = true) → (∀ a ∈ r, R a a = false) → lexR R l q = true → lexR R q r = true → lexR R l r = true
  | [], _, _, _, _, h, _ => by simp [lexR] at h
  | _ :: _, [], _, _, _, _, h => by simp [lexR] at h
  | _ :: _, _ :: _, [], _, _, _, _ => rfl
  | a :: l, b :: q, c :: r, ht, hi, h1, h2 => by
    have ih := lexR_trans l q r (fun a ha b hb c hc => ht a (by simp [ha]) b (by simp [hb]) c (by simp [hc])) (fun a ha => hi a (by simp [ha]))
    rw [lexR] at h1 h2 ⊢
    by_cases e1 : a = b
    · subst e1
      rw [if_pos (T.same_refl a)] at h1
      by_cases e2 : a = c
      · subst e2
        rw [if_pos (T.same_refl a)] at h2 ⊢
        exact ih h1 h2
      · have n2 : ¬ T.same a c = true := fun e => e2 ((T.same_iff _ _).1 e)
        rw [if_neg n2] at h2 ⊢
        exact h2
    · have n1 : ¬ T.same a b = true := fun e => e1 ((T.same_iff _ _).1 e)
      rw [if_neg n1] at h1
      by_cases e2 : b = c
      · subst e2
        rw [if_neg n1]; exact h1
      · have n2 : ¬ T.same b c = true := fun e => e2 ((T.same_iff _ _).1 e)
        rw [if_neg n2] at h2
        have h3 := ht a (by simp) b (by simp) c (by simp) h1 h2
        by_cases e3 : a = c
        · subst e3
          rw [hi a (by simp)] at h3; cases h3
        · rw [if_neg (fun e => e3 ((T.same_iff _ _).1 e))]; exact h3
/-- It is transitive. -/
theorem lg_trans : ∀ (n : Nat) (s t u : T), s.size + t.size + u.size ≤ n → o.lknows t = true → o.lknows u = true → o.lg s t = true → o.lg t u = true → o.lg s u = true
  | 0, s, _, _, hn, _, _, _, _ => by have := T.size_eq s; omega
  | n + 1, s, t, u, hn, kt, ku, h1, h2 => by
    have h1' := h1
    have h2' := h2
    obtain ⟨hs, h1⟩ := lg_iff.1 h1
    obtain ⟨ht, h2⟩ := lg_iff.1 h2
    rcases h1 with ⟨h, _⟩ | ⟨_, h1⟩
    · exact absurd h ht
    rcases h2 with ⟨hu, h2⟩ | ⟨hu, h2⟩
    · exact lg_iff.2 ⟨hs, .inl ⟨hu, lg_vars hu _ s t (Nat.le_refl _) kt h1' h2⟩⟩
    rcases h1 with ⟨a, ha, h1⟩ | h1
    · have hsz := T.size_arg ha
      refine lg_sub hs ha (.inr ?_)
      rcases h1 with rfl | h1
      · exact h2'
      · exact lg_trans n a t u (by omega) kt ku h1 h2'
    · have hall : ∀ b ∈ t.args, o.lg s b = true := by rcases h1 with ⟨_, _, h⟩ | ⟨_, h, _⟩ <;> exact h
      rcases h2 with ⟨b, hb, h2⟩ | h2
      · have hsz := T.size_arg hb
        rcases h2 with rfl | h2
        · exact hall _ hb
        · exact lg_trans n s b u (by omega) (lknows_arg kt hb).1 ku (hall b hb) h2
      · have hallu : ∀ c ∈ u.args, o.lg t c = true := by rcases h2 with ⟨_, _, h⟩ | ⟨_, h, _⟩ <;> exact h
        have hsu : ∀ c ∈ u.args, o.lg s c = true := fun c hc => by
          have := T.size_arg hc
          exact lg_trans n s t c (by omega) kt (lknows_arg ku hc).1 h1' (hallu c hc)
        refine lg_iff.2 ⟨hs, .inr ⟨hu, .inr ?_⟩⟩
        rcases h1 with ⟨n1, r1, _⟩ | ⟨e1, _, l1⟩
        · rcases h2 with ⟨n2, r2, _⟩ | ⟨e2, _, _⟩
          · exact .inl ⟨fun e => by rw [e] at r1; omega, by omega, hsu⟩
          · exact .inl ⟨by rw [← e2]; exact n1, by rw [← e2]; exact r1, hsu⟩
        · rcases h2 with ⟨n2, r2, _⟩ | ⟨e2, _, l2⟩
          · exact .inl ⟨by rw [e1]; exact n2, by rw [e1]; exact r2, hsu⟩
          · refine .inr ⟨e1.trans e2, hsu, lexR_trans _ _ _ (fun a ha b hb c hc p q => ?_) (fun c hc => lg_irrefl (lknows_arg ku hc).1) l1 l2⟩
            have := T.size_arg ha
            have := T.size_arg hb
            have := T.size_arg hc
            exact lg_trans n a b c (by omega) (lknows_arg kt hb).1 (lknows_arg ku hc).1 p q
/-- A term is above its own subterms. -/
theorem lg_subterm {s t : T} (hk : o.lknows t = true) (h : T.Sub s t) (hne : s ≠ t) : o.lg t s = true := by
  induction h with
  | refl => exact absurd rfl hne
  | @arg b t hb k ih =>
    have hb' := lknows_arg hk hb
    refine lg_sub (by omega) hb ?_
    by_cases e : s = b
    · exact .inl e.symm
    · exact .inr (ih hb'.1 e)
end Od
end Go.Proofs.Ytmdpiafeiopimaa

/- The lexicographic path order is stable, monotone, total on ground terms. -/
namespace Go.Proofs.Ytmdpiafeiopimaa
namespace T
theorem ok_known {o : Od} {ar : List Int} (h : ar.length = o.prec.length) (t : T) : ok ar t = true → o.lknows t = true := by
  induction t using T.ind with
  | h f l ih =>
    intro hk
    rw [ok] at hk
    rw [Od.lknows]
    split
    · rename_i hf; rw [if_pos hf] at hk; exact hk
    · rename_i hf
      rw [if_neg hf] at hk
      simp only [Bool.and_eq_true, decide_eq_true_eq] at hk ⊢
      refine ⟨by omega, ?_⟩
      rw [Od.lknowsL_all, List.all_eq_true]
      exact fun a ha => ih a ha (okL_mem hk.2 a ha)
theorem put_sym {s : List T} {t : T} (h : ¬ t.f < 0) : put s t = .mk t.f (t.args.map (put s)) := by
  obtain ⟨f, l⟩ := t
  have h : ¬ f < 0 := h
  rw [put, if_neg h, putL_map]; rfl
theorem sub_put {s : List T} {v : Int} (hv : v < 0) {o : Od} (t : T) : o.lknows t = true → has v t = true → Sub (put s (.mk v [])) (put s t) := by
  induction t using T.ind with
  | h f l ih =>
    intro hk h
    by_cases hf : f < 0
    · have hl := (lknows_top hk).2 hf
      have hl : l = [] := hl
      subst hl
      rcases has_cases h with e | ⟨b, hb, _⟩
      · have e : f = v := e
        subst e; exact .refl
      · simp at hb
    · rcases has_cases h with e | ⟨b, hb, h2⟩
      · have e : f = v := e
        omega
      · rw [put_sym (t := .mk f l) hf]
        exact .arg (List.mem_map_of_mem hb) (ih b hb (lknows_arg hk hb).1 h2)
end T
theorem lexR_map {R : T → T → Bool} (p : T → T) : ∀ (l q : List T), (∀ a ∈ l, ∀ b ∈ q, R a b = true → R (p a) (p b) = true) → (∀ a ∈ l, R (p a) (p a) = false) → lexR R l q = true → lexR R (l.map p) (q.map p) = true
  | [], _, _, _, h => by simp [lexR] at h
  | _ :: _, [], _, _, _ => rfl
  | a :: l, b :: q, hp, hi, h => by
    rw [lexR] at h
    rw [List.map_cons, List.map_cons, lexR]
    by_cases e : a = b
    · subst e
      rw [if_pos (T.same_refl _)] at h ⊢
      exact lexR_map p l q (fun x hx y hy => hp x (by simp [hx]) y (by simp [hy])) (fun x hx => hi x (by simp [hx])) h
    · rw [if_neg (fun z => e ((T.same_iff _ _).1 z))] at h
      have h2 := hp a (by simp) b (by simp) h
      by_cases e2 : p a = p b
      · rw [← e2, hi a (by simp)] at h2; cases h2
      · rw [if_neg (fun z => e2 ((T.same_iff _ _).1 z))]; exact h2
namespace Od
variable {o : Od}
theorem lg_put {g : List T} : ∀ (n : Nat) (s t : T), s.size + t.size ≤ n → o.lknows s = true → o.lknows t = true → o.lknows (T.put g s) = true → o.lknows (T.put g t) = true → o.lg s t = true → o.lg (T.put g s) (T.put g t) = true
  | 0, s, _, hn, _, _, _, _, _ => by have := T.size_eq s; omega
  | n + 1, s, t, hn, ks, kt, ks', kt', h => by
    obtain ⟨hs, h⟩ := lg_iff.1 h
    have es := T.put_sym (s := g) hs
    have hs' : ¬ (T.put g s).f < 0 := by rw [es]; exact hs
    have as' : (T.put g s).args = s.args.map (T.put g) := by rw [es]; rfl
    have ka : ∀ a ∈ s.args, o.lknows (T.put g a) = true := fun a ha => (lknows_arg ks' (by rw [as']; exact List.mem_map_of_mem ha)).1
    rcases h with ⟨ht, h⟩ | ⟨ht, h⟩
    · rcases T.has_cases h with e | ⟨b, hb, h2⟩
      · omega
      · have hsub := T.sub_put (s := g) ht b (lknows_arg ks hb).1 h2
        have et : t = .mk t.f [] := by rw [← (lknows_top kt).2 ht, T.eta]
        rw [et]
        refine lg_sub hs' (a := T.put g b) (by rw [as']; exact List.mem_map_of_mem hb) ?_
        by_cases e : T.put g (.mk t.f []) = T.put g b
        · exact .inl e.symm
        · exact .inr (lg_subterm (ka b hb) hsub e)
    · have et := T.put_sym (s := g) ht
      have at' : (T.put g t).args = t.args.map (T.put g) := by rw [et]; rfl
      have kb : ∀ b ∈ t.args, o.lknows (T.put g b) = true := fun b hb => (lknows_arg kt' (by rw [at']; exact List.mem_map_of_mem hb)).1
      have hall' : (∀ b ∈ t.args, o.lg s b = true) → ∀ b ∈ (T.put g t).args, o.lg (T.put g s) b = true := fun hall b hb => by
        rw [at'] at hb
        obtain ⟨c, hc, rfl⟩ := List.mem_map.1 hb
        have := T.size_arg hc
        exact lg_put n s c (by omega) ks (lknows_arg kt hc).1 ks' (kb c hc) (hall c hc)
      rcases h with ⟨a, ha, h⟩ | h
      · have := T.size_arg ha
        refine lg_sub hs' (a := T.put g a) (by rw [as']; exact List.mem_map_of_mem ha) ?_
        rcases h with rfl | h
        · exact .inl rfl
        · exact .inr (lg_put n a t (by omega) (lknows_arg ks ha).1 kt (ka a ha) kt' h)
      · refine lg_iff.2 ⟨hs', .inr ⟨by rw [et]; exact ht, .inr ?_⟩⟩
        have f1 : (T.put g s).f = s.f := by rw [es]; rfl
        have f2 : (T.put g t).f = t.f := by rw [et]; rfl
        rw [f1, f2]
        rcases h with ⟨n1, r1, hall⟩ | ⟨e1, hall, hlex⟩
        · exact .inl ⟨n1, r1, hall' hall⟩
        · refine .inr ⟨e1, hall' hall, ?_⟩
          rw [as', at']
          refine lexR_map (T.put g) _ _ (fun a ha b hb hab => ?_) (fun a ha => lg_irrefl (ka a ha)) hlex
          have := T.size_arg ha
          have := T.size_arg hb
          exact lg_put n a b (by omega) (lknows_arg ks ha).1 (lknows_arg kt hb).1 (ka a ha) (kb b hb) hab
end Od
end Go.Proofs.Ytmdpiafeiopimaa

/- The lexicographic path order over a signature, plainly: what the laws ask of it. -/
namespace Go.Proofs.Ytmdpiafeiopimaa
namespace Od
variable {o : Od} {sg : List Sy} {s t u : T}
theorem lcmp_eq (ks : o.lknows s = true) (kt : o.lknows t = true) : o.lcmp s t = if T.same s t then 2 else if o.lg s t then 3 else if o.lg t s then 1 else 0 := by
  unfold lcmp; rw [ks, kt]; rfl
end Od
end Go.Proofs.Ytmdpiafeiopimaa

/- May an order and clauses be over a signature? -/
namespace Go.Proofs.Ytmdpiafeiopimaa
open Go.RowKit Go
set_option linter.unusedVariables false
set_option linter.unusedSimpArgs false
theorem ranks_of (p : List Int) (n : Int) (w : World) (a : Option Addr) (c : Nat) (hc : p.length ≤ c) (hm : c ≤ maxLen) (hl : IsInts w p a) : Calls Try.prog 34 #[.slice a p.length c, .int .i64 n] w (Ret fun v' w' => (∃ b, v' = .bool b ∧ (b = true → (p.length : Int) = n ∧ Ranks p)) ∧ Below w.heap.size w w') :=
 (ranks_any p n w a c hc hm hl).mono (by rintro e w' ⟨⟨b, rfl, h⟩, hb⟩; exact ⟨_, rfl, ⟨b, rfl, h⟩, hb⟩)
set_option maxRecDepth 100000 in
theorem ordCheck_any (sg : List Sy) (o : Od) (w : World) (vs vo : Value) (hs : IsSig w sg vs) (ho : IsOd w o vo) : Calls Try.prog 16 #[vs, vo] w (Ret fun v' w' => (∃ n : Int, v' = .int .i64 n ∧ (n = 0 → OrdOk sg o)) ∧ Below w.heap.size w w') := by
 have hst := hs
 have hot := ho
 obtain ⟨p1, p2, k1, k2, rfl, hp1, hp2, hw1, hw2, hp, hw, hvar⟩ := ho
 obtain ⟨sa, sc, rfl, hs1, hs2, hs3⟩ := hs
 have hmx1 := hp2
 have hmx2 := hw2
 have hmx3 := hs2
 unfold maxLen at hmx1 hmx2 hmx3
 refine Calls.walk (l := [.agg #[.slice sa sg.length sc], .agg #[.bool o.lpo, .slice p1 o.prec.length k1, .slice p2 o.weights.length k2, .int .i64 o.var]]) Try.func16 rfl (by kernel_rfl) ?_
 refine WC.sub (K' := [(0, .agg #[.slice sa sg.length sc]), (1, .agg #[.bool o.lpo, .slice p1 o.prec.length k1, .slice p2 o.weights.length k2, .int .i64 o.var])]) ⟨rfl, rfl, trivial⟩ ?_
 refine WC.seq (WC.region ?_)
 refine WL.step (post := NewBlk w 24 #[.slice sa sg.length sc]) rfl rfl rfl (fun za zC zh zk => box_24 rfl (zh.ev rfl) (zk _ _ (newBlk _ _ _))) ?_
 rintro _ w1 ⟨g2, rfl, hg3, hB4, hb5, hz6⟩
 have hl7 : w.heap.size ≤ g2 := by omega
 refine WL.step (post := NewBlk w1 27 #[.bool o.lpo, .slice p1 o.prec.length k1, .slice p2 o.weights.length k2, .int .i64 o.var]) rfl rfl rfl (fun za zC zh zk => box_27 rfl (zh.ev rfl) (zk _ _ (newBlk _ _ _))) ?_
 rintro _ w8 ⟨g9, rfl, hg10, hB11, hb12, hz13⟩
 have hl14 : g2 < g9 := by have z1 := hB4.lt; omega
 have hl15 : w.heap.size ≤ g9 := by have z2 := (hb5).size; omega
 refine WL.asg rfl rfl rfl rfl rfl (WL.nil (WE.next (WC.seq (WC.seq (WC.region ?_)))))
 have hB16 := hB4.below hb12
 refine WL.val _ rfl rfl rfl (fun za zC zh zk => ld_24 rfl (zh.ev rfl) ((hB16.cell 0).trans rfl) zk) ?_
 have hb17 : Below w.heap.size w w8 := (bstep hb5 hb12)
 refine WL.call rfl rfl rfl (fun za zh zC => wp_call (by kernel_rfl) rfl (hv1 (zh.ev rfl))) (ret_of (sigCheck_any sg _ _ (hst.below hb17))) ?_
 rintro _ w19 ⟨rfl, hq18⟩
 refine WL.val (.bool ((((sigCheck sg) : Int) != (0 : Int)))) rfl rfl rfl (fun za zC zh zk => neq_3 rfl (zh.ev rfl) (zh.ev rfl) zk) ?_
 refine WL.mv rfl rfl rfl rfl rfl ?_
 refine bool_split ((((sigCheck sg) : Int) != (0 : Int))) (fun h20 => ?_) (fun h20 => ?_)
 ·refine WL.setb (d := 10) (b := true) rfl h20 ?_
  have h20 : ((sigCheck sg) : Int) ≠ (0 : Int) := by simpa using h20
  refine WL.skip (d := 10) rfl rfl rfl rfl rfl ?_
  refine WL.skip (d := 10) rfl rfl rfl rfl rfl ?_
  refine WL.skip (d := 10) rfl rfl rfl rfl rfl ?_
  refine WL.skip (d := 10) rfl rfl rfl rfl rfl ?_
  refine WL.skip (d := 10) rfl rfl rfl rfl rfl ?_
  refine WL.skip (d := 10) rfl rfl rfl rfl rfl ?_
  refine WL.skip (d := 10) rfl rfl rfl rfl rfl ?_
  refine WL.val (.bool true) rfl rfl rfl (fun za zC zh zk => wp_pickT rfl (zh.ev rfl) (zh.ev rfl) zk) ?_
  refine WL.nil (WE.next ?_)
  refine WC.condT rfl rfl ?_
  refine WC.seq (WC.region (WL.asg rfl rfl rfl rfl rfl (WL.nil (WE.next (WC.ret (WE.thenRet (WE.ret1 rfl rfl ?_)))))))
  have hb21 : Below w.heap.size w w19 := (bstep hb17 hq18)
  exact ⟨_, rfl, ⟨2, rfl, fun h => absurd h (by decide)⟩, hb21⟩
 ·refine WL.setb (d := 10) (b := false) rfl h20 ?_
  have h20 : ¬ (((sigCheck sg) : Int) ≠ (0 : Int)) := by simpa using h20
  refine WL.want (d := 10) rfl rfl rfl ?_
  refine WL.val _ rfl rfl rfl (fun za zC zh zk => fld_27_1 rfl (zh.ev rfl) zk) ?_
  refine WL.want (d := 10) rfl rfl rfl ?_
  have hB22 := hB11.below hq18
  refine WL.val _ rfl rfl rfl (fun za zC zh zk => ld_25 rfl (zh.ev rfl) ((hB22.cell 1).trans rfl) zk) ?_
  refine WL.want (d := 10) rfl rfl rfl ?_
  refine WL.val _ rfl rfl rfl (fun za zC zh zk => fld_24_0 rfl (zh.ev rfl) zk) ?_
  refine WL.want (d := 10) rfl rfl rfl ?_
  have hB23 := hB16.below hq18
  refine WL.val _ rfl rfl rfl (fun za zC zh zk => ld_22 rfl (zh.ev rfl) ((hB23.cell 0).trans rfl) zk) ?_
  refine WL.want (d := 10) rfl rfl rfl ?_
  refine WL.val (.int .i64 (((sg.length : Nat) : Int))) rfl rfl rfl (fun za zC zh zk => len_22 rfl (zh.ev rfl) zk) ?_
  refine WL.want (d := 10) rfl rfl rfl ?_
  have hb24 : Below w.heap.size w w19 := (bstep hb17 hq18)
  refine WL.call rfl rfl rfl (fun za zh zC => wp_call (by kernel_rfl) rfl (hv2 (zh.ev rfl) (zh.ev rfl))) (ranks_of o.prec (sg.length : Int) _ _ _ hp1 hp2 (IsInts.below hb24 hp)) ?_
  rintro _ w25 ⟨⟨br, rfl, hrk⟩, hbr⟩
  refine WL.want (d := 10) rfl rfl rfl ?_
  refine WL.val (.bool ((!br))) rfl rfl rfl (fun za zC zh zk => wp_not rfl (zh.ev rfl) zk) ?_
  refine WL.val (.bool ((!br))) rfl rfl rfl (fun za zC zh zk => wp_pickF rfl (zh.ev rfl) (zh.ev rfl) zk) ?_
  refine WL.nil (WE.next ?_)
  refine WC.cond rfl (fun h26 => ?_) (fun h26 => ?_)
  ·have h26 : ¬ (br = true) := by simpa using h26
   refine WC.seq (WC.region (WL.asg rfl rfl rfl rfl rfl (WL.nil (WE.next (WC.ret (WE.thenRet (WE.ret1 rfl rfl ?_)))))))
   have hb27 : Below w.heap.size w w25 := (bstep hb24 hbr)
   exact ⟨_, rfl, ⟨2, rfl, fun h => absurd h (by decide)⟩, hb27⟩
  ·have h26 : ¬ (¬ (br = true)) := by simpa using h26
   have hr := hrk (by simpa using h26)
   have hlen : o.prec.length = sg.length := by have z := hr.1; omega
   have hpos := sigCheck_pos (sg := sg) (by omega)
   refine WC.skip (WE.next (WC.seq (WC.seq (WC.region ?_))))
   refine WL.val _ rfl rfl rfl (fun za zC zh zk => fld_27_0 rfl (zh.ev rfl) zk) ?_
   have hB28 := hB22.below hbr
   refine WL.val _ rfl rfl rfl (fun za zC zh zk => ld_4 rfl (zh.ev rfl) ((hB28.cell 0).trans rfl) zk) ?_
   refine WL.nil (WE.next ?_)
   refine WC.cond rfl (fun h29 => ?_) (fun h29 => ?_)
   ·skip
    refine WC.seq (WC.region (WL.asg rfl rfl rfl rfl rfl (WL.nil (WE.next (WC.ret (WE.thenRet (WE.ret1 rfl rfl ?_)))))))
    have hb30 : Below w.heap.size w w25 := (bstep hb24 hbr)
    exact ⟨_, rfl, ⟨0, rfl, fun _ => ⟨by omega, hlen, hr.2, fun hl => by rw [h29] at hl; cases hl⟩⟩, hb30⟩
   ·skip
    refine WC.skip (WE.next (WC.seq (WC.seq ?_)))
    have hB31 := hB23.below hbr
    obtain ⟨b32, o33, ha34, hc35⟩ := IsInts.open hw
    have hb36 : Below w.heap.size w w25 := (bstep hb24 hbr)
    refine WC.opt [(true, .val (.pointer (some ⟨g9, 2, none⟩))), (true, .val (.slice p2 o.weights.length k2)), (true, .val (.int .i64 (((o.weights.length : Nat) : Int)))), (true, .val (.pointer (some ⟨g2, 0, none⟩))), (true, .val (.slice sa sg.length sc)), (true, .val (.int .i64 (((sg.length : Nat) : Int)))), (true, .val (.bool (((((o.weights.length : Nat) : Int) : Int) != (((sg.length : Nat) : Int) : Int))))), (true, .val (.bool (((((o.weights.length : Nat) : Int) : Int) != (((sg.length : Nat) : Int) : Int))))), ((true && !((((o.weights.length : Nat) : Int) : Int) != (((sg.length : Nat) : Int) : Int))), .val (.pointer (some ⟨g9, 3, none⟩))), ((true && !((((o.weights.length : Nat) : Int) : Int) != (((sg.length : Nat) : Int) : Int))), .val (.int .i64 o.var)), ((true && !((((o.weights.length : Nat) : Int) : Int) != (((sg.length : Nat) : Int) : Int))), .val (.bool ((decide ((o.var : Int) < (1 : Int)))))), (true, .val (.bool ((((((o.weights.length : Nat) : Int) : Int) != (((sg.length : Nat) : Int) : Int)) || (decide ((o.var : Int) < (1 : Int))))))), (true, .val (.bool ((((((o.weights.length : Nat) : Int) : Int) != (((sg.length : Nat) : Int) : Int)) || (decide ((o.var : Int) < (1 : Int))))))), ((true && !(((((o.weights.length : Nat) : Int) : Int) != (((sg.length : Nat) : Int) : Int)) || (decide ((o.var : Int) < (1 : Int))))), .val (.pointer (some ⟨g9, 3, none⟩))), ((true && !(((((o.weights.length : Nat) : Int) : Int) != (((sg.length : Nat) : Int) : Int)) || (decide ((o.var : Int) < (1 : Int))))), .val (.int .i64 o.var)), ((true && !(((((o.weights.length : Nat) : Int) : Int) != (((sg.length : Nat) : Int) : Int)) || (decide ((o.var : Int) < (1 : Int))))), .val (.bool ((decide ((1000 : Int) < (o.var : Int)))))), (true, .val (.bool (((((((o.weights.length : Nat) : Int) : Int) != (((sg.length : Nat) : Int) : Int)) || (decide ((o.var : Int) < (1 : Int)))) || (decide ((1000 : Int) < (o.var : Int))))))), (true, .val (.bool (((((((o.weights.length : Nat) : Int) : Int) != (((sg.length : Nat) : Int) : Int)) || (decide ((o.var : Int) < (1 : Int)))) || (decide ((1000 : Int) < (o.var : Int))))))), ((true && !((((((o.weights.length : Nat) : Int) : Int) != (((sg.length : Nat) : Int) : Int)) || (decide ((o.var : Int) < (1 : Int)))) || (decide ((1000 : Int) < (o.var : Int))))), .val (.pointer (some ⟨g9, 2, none⟩))), ((true && !((((((o.weights.length : Nat) : Int) : Int) != (((sg.length : Nat) : Int) : Int)) || (decide ((o.var : Int) < (1 : Int)))) || (decide ((1000 : Int) < (o.var : Int))))), .val (.slice p2 o.weights.length k2)), ((true && !((((((o.weights.length : Nat) : Int) : Int) != (((sg.length : Nat) : Int) : Int)) || (decide ((o.var : Int) < (1 : Int)))) || (decide ((1000 : Int) < (o.var : Int))))), .val (.pointer (some ⟨b32, o33 + 0, none⟩))), ((true && !((((((o.weights.length : Nat) : Int) : Int) != (((sg.length : Nat) : Int) : Int)) || (decide ((o.var : Int) < (1 : Int)))) || (decide ((1000 : Int) < (o.var : Int))))), .val (.int .i64 ((iget o.weights 0)))), ((true && !((((((o.weights.length : Nat) : Int) : Int) != (((sg.length : Nat) : Int) : Int)) || (decide ((o.var : Int) < (1 : Int)))) || (decide ((1000 : Int) < (o.var : Int))))), .val (.pointer (some ⟨g9, 3, none⟩))), ((true && !((((((o.weights.length : Nat) : Int) : Int) != (((sg.length : Nat) : Int) : Int)) || (decide ((o.var : Int) < (1 : Int)))) || (decide ((1000 : Int) < (o.var : Int))))), .val (.int .i64 o.var)), ((true && !((((((o.weights.length : Nat) : Int) : Int) != (((sg.length : Nat) : Int) : Int)) || (decide ((o.var : Int) < (1 : Int)))) || (decide ((1000 : Int) < (o.var : Int))))), .val (.bool ((((iget o.weights 0) : Int) != (o.var : Int))))), (true, .val (.bool ((((((((o.weights.length : Nat) : Int) : Int) != (((sg.length : Nat) : Int) : Int)) || (decide ((o.var : Int) < (1 : Int)))) || (decide ((1000 : Int) < (o.var : Int)))) || (((iget o.weights 0) : Int) != (o.var : Int))))))] [(0, .agg #[.slice sa sg.length sc]), (1, .agg #[.bool o.lpo, .slice p1 o.prec.length k1, .slice p2 o.weights.length k2, .int .i64 o.var]), (2, .pointer (some ⟨g2, 0, none⟩)), (3, .pointer (some ⟨g9, 0, none⟩)), (4, .int .i64 0), (18, .bool ((!br))), (20, .bool o.lpo)] ⟨rfl, rfl, rfl, rfl, rfl, rfl, rfl, trivial⟩ (by kernel_rfl) (by kernel_rfl) (by kernel_rfl) ?_ ?_
    ·refine ⟨⟨true, .none rfl, fun h w => optUndef h, fun zβ za zw zc => ?_⟩, ?_⟩
     ·exact fld_27_2 rfl (zc.kn.ev rfl) ⟨_, rfl, Below.refl _ _, optDef zβ rfl⟩
     refine ⟨⟨true, .none rfl, fun h w => optUndef h, fun zβ za zw zc => ?_⟩, ?_⟩
     ·exact ld_25 rfl ((evt za 21).trans (optVal (zc.dep 0 21 (by kernel_rfl)) rfl rfl)) (bkeeps zc.below _ _ ((hB28.cell 2).trans rfl)) ⟨_, rfl, Below.refl _ _, optDef zβ rfl⟩
     refine ⟨⟨true, .none rfl, fun h w => optUndef h, fun zβ za zw zc => ?_⟩, ?_⟩
     ·exact len_25 rfl ((evt za 22).trans (optVal (zc.dep 1 22 (by kernel_rfl)) rfl rfl)) ⟨_, rfl, Below.refl _ _, optDef zβ rfl⟩
     refine ⟨⟨true, .none rfl, fun h w => optUndef h, fun zβ za zw zc => ?_⟩, ?_⟩
     ·exact fld_24_0 rfl (zc.kn.ev rfl) ⟨_, rfl, Below.refl _ _, optDef zβ rfl⟩
     refine ⟨⟨true, .none rfl, fun h w => optUndef h, fun zβ za zw zc => ?_⟩, ?_⟩
     ·exact ld_22 rfl ((evt za 24).trans (optVal (zc.dep 3 24 (by kernel_rfl)) rfl rfl)) (bkeeps zc.below _ _ ((hB31.cell 0).trans rfl)) ⟨_, rfl, Below.refl _ _, optDef zβ rfl⟩
     refine ⟨⟨true, .none rfl, fun h w => optUndef h, fun zβ za zw zc => ?_⟩, ?_⟩
     ·exact len_22 rfl ((evt za 25).trans (optVal (zc.dep 4 25 (by kernel_rfl)) rfl rfl)) ⟨_, rfl, Below.refl _ _, optDef zβ rfl⟩
     refine ⟨⟨true, .none rfl, fun h w => optUndef h, fun zβ za zw zc => ?_⟩, ?_⟩
     ·exact neq_3 rfl ((evt za 23).trans (optVal (zc.dep 2 23 (by kernel_rfl)) rfl rfl)) ((evt za 26).trans (optVal (zc.dep 5 26 (by kernel_rfl)) rfl rfl)) ⟨_, rfl, Below.refl _ _, optDef zβ rfl⟩
     refine ⟨⟨true, .none rfl, fun h w => optUndef h, fun zβ za zw zc => ?_⟩, ?_⟩
     ·exact wp_move rfl ((evt za 27).trans (optVal (zc.dep 6 27 (by kernel_rfl)) rfl rfl)) ⟨_, rfl, Below.refl _ _, optDef zβ rfl⟩
     refine ⟨⟨_, .no (c := ((((o.weights.length : Nat) : Int) : Int) != (((sg.length : Nat) : Int) : Int))) (d := true) rfl (fun v w h => h), fun h w => optUndef h, fun zβ za zw zc => ?_⟩, ?_⟩
     ·exact fld_27_3 rfl (zc.kn.ev rfl) ⟨_, rfl, Below.refl _ _, optDef zβ rfl⟩
     refine ⟨⟨_, .no (c := ((((o.weights.length : Nat) : Int) : Int) != (((sg.length : Nat) : Int) : Int))) (d := true) rfl (fun v w h => h), fun h w => optUndef h, fun zβ za zw zc => ?_⟩, ?_⟩
     ·exact ld_3 rfl ((evt za 29).trans (optVal (zc.dep 8 29 (by kernel_rfl)) rfl zβ)) (bkeeps zc.below _ _ ((hB28.cell 3).trans rfl)) ⟨_, rfl, Below.refl _ _, optDef zβ rfl⟩
     refine ⟨⟨_, .no (c := ((((o.weights.length : Nat) : Int) : Int) != (((sg.length : Nat) : Int) : Int))) (d := true) rfl (fun v w h => h), fun h w => optUndef h, fun zβ za zw zc => ?_⟩, ?_⟩
     ·exact lss_3 rfl ((evt za 30).trans (optVal (zc.dep 9 30 (by kernel_rfl)) rfl zβ)) (zc.kn.ev rfl) ⟨_, rfl, Below.refl _ _, optDef zβ rfl⟩
     refine ⟨⟨true, .none rfl, fun h w => optUndef h, fun zβ za zw zc => ?_⟩, ?_⟩
     ·exact wp_or rfl ((evt za 28).trans (optVal (zc.dep 7 28 (by kernel_rfl)) rfl rfl)) (fun hp => ((evt za 31).trans (optVal (zc.dep 10 31 (by kernel_rfl)) rfl (bMkN zβ hp)))) ⟨_, rfl, Below.refl _ _, optDef zβ rfl⟩
     refine ⟨⟨true, .none rfl, fun h w => optUndef h, fun zβ za zw zc => ?_⟩, ?_⟩
     ·exact wp_move rfl ((evt za 32).trans (optVal (zc.dep 11 32 (by kernel_rfl)) rfl rfl)) ⟨_, rfl, Below.refl _ _, optDef zβ rfl⟩
     refine ⟨⟨_, .no (c := (((((o.weights.length : Nat) : Int) : Int) != (((sg.length : Nat) : Int) : Int)) || (decide ((o.var : Int) < (1 : Int))))) (d := true) rfl (fun v w h => h), fun h w => optUndef h, fun zβ za zw zc => ?_⟩, ?_⟩
     ·exact fld_27_3 rfl (zc.kn.ev rfl) ⟨_, rfl, Below.refl _ _, optDef zβ rfl⟩
     refine ⟨⟨_, .no (c := (((((o.weights.length : Nat) : Int) : Int) != (((sg.length : Nat) : Int) : Int)) || (decide ((o.var : Int) < (1 : Int))))) (d := true) rfl (fun v w h => h), fun h w => optUndef h, fun zβ za zw zc => ?_⟩, ?_⟩
     ·exact ld_3 rfl ((evt za 34).trans (optVal (zc.dep 13 34 (by kernel_rfl)) rfl zβ)) (bkeeps zc.below _ _ ((hB28.cell 3).trans rfl)) ⟨_, rfl, Below.refl _ _, optDef zβ rfl⟩
     refine ⟨⟨_, .no (c := (((((o.weights.length : Nat) : Int) : Int) != (((sg.length : Nat) : Int) : Int)) || (decide ((o.var : Int) < (1 : Int))))) (d := true) rfl (fun v w h => h), fun h w => optUndef h, fun zβ za zw zc => ?_⟩, ?_⟩
     ·exact gtr_3 rfl ((evt za 35).trans (optVal (zc.dep 14 35 (by kernel_rfl)) rfl zβ)) (zc.kn.ev rfl) ⟨_, rfl, Below.refl _ _, optDef zβ rfl⟩
     refine ⟨⟨true, .none rfl, fun h w => optUndef h, fun zβ za zw zc => ?_⟩, ?_⟩
     ·exact wp_or rfl ((evt za 33).trans (optVal (zc.dep 12 33 (by kernel_rfl)) rfl rfl)) (fun hp => ((evt za 36).trans (optVal (zc.dep 15 36 (by kernel_rfl)) rfl (bMkN zβ hp)))) ⟨_, rfl, Below.refl _ _, optDef zβ rfl⟩
     refine ⟨⟨true, .none rfl, fun h w => optUndef h, fun zβ za zw zc => ?_⟩, ?_⟩
     ·exact wp_move rfl ((evt za 37).trans (optVal (zc.dep 16 37 (by kernel_rfl)) rfl rfl)) ⟨_, rfl, Below.refl _ _, optDef zβ rfl⟩
     refine ⟨⟨_, .no (c := ((((((o.weights.length : Nat) : Int) : Int) != (((sg.length : Nat) : Int) : Int)) || (decide ((o.var : Int) < (1 : Int)))) || (decide ((1000 : Int) < (o.var : Int))))) (d := true) rfl (fun v w h => h), fun h w => optUndef h, fun zβ za zw zc => ?_⟩, ?_⟩
     ·exact fld_27_2 rfl (zc.kn.ev rfl) ⟨_, rfl, Below.refl _ _, optDef zβ rfl⟩
     refine ⟨⟨_, .no (c := ((((((o.weights.length : Nat) : Int) : Int) != (((sg.length : Nat) : Int) : Int)) || (decide ((o.var : Int) < (1 : Int)))) || (decide ((1000 : Int) < (o.var : Int))))) (d := true) rfl (fun v w h => h), fun h w => optUndef h, fun zβ za zw zc => ?_⟩, ?_⟩
     ·exact ld_25 rfl ((evt za 39).trans (optVal (zc.dep 18 39 (by kernel_rfl)) rfl zβ)) (bkeeps zc.below _ _ ((hB28.cell 2).trans rfl)) ⟨_, rfl, Below.refl _ _, optDef zβ rfl⟩
     refine ⟨⟨_, .no (c := ((((((o.weights.length : Nat) : Int) : Int) != (((sg.length : Nat) : Int) : Int)) || (decide ((o.var : Int) < (1 : Int)))) || (decide ((1000 : Int) < (o.var : Int))))) (d := true) rfl (fun v w h => h), fun h w => optUndef h, fun zβ za zw zc => ?_⟩, ?_⟩
     ·exact ix_25 (k := 0) rfl ((evt za 40).trans (optVal (zc.dep 19 40 (by kernel_rfl)) rfl zβ)) (ha34 0 (by first | omega | (have zz := zβ; simp only [Bool.and_eq_true, Bool.or_eq_true, Bool.true_and, Bool.not_eq_true', Bool.or_eq_false_iff, Bool.and_eq_false_iff, beq_eq_false_iff_ne, ne_eq, beq_iff_eq, decide_eq_true_eq, decide_eq_false_iff_not, bne_iff_ne, bne_eq_false_iff_eq] at zz; omega))) (zc.kn.ev rfl) (by first | omega | (have zz := zβ; simp only [Bool.and_eq_true, Bool.or_eq_true, Bool.true_and, Bool.not_eq_true', Bool.or_eq_false_iff, Bool.and_eq_false_iff, beq_eq_false_iff_ne, ne_eq, beq_iff_eq, decide_eq_true_eq, decide_eq_false_iff_not, bne_iff_ne, bne_eq_false_iff_eq] at zz; omega)) ⟨_, rfl, Below.refl _ _, optDef zβ rfl⟩
     refine ⟨⟨_, .no (c := ((((((o.weights.length : Nat) : Int) : Int) != (((sg.length : Nat) : Int) : Int)) || (decide ((o.var : Int) < (1 : Int)))) || (decide ((1000 : Int) < (o.var : Int))))) (d := true) rfl (fun v w h => h), fun h w => optUndef h, fun zβ za zw zc => ?_⟩, ?_⟩
     ·exact ld_3 rfl ((evt za 41).trans (optVal (zc.dep 20 41 (by kernel_rfl)) rfl zβ)) (bkeeps (bstep hb36 zc.below) _ _ (hc35 0 (by first | omega | (have zz := zβ; simp only [Bool.and_eq_true, Bool.or_eq_true, Bool.true_and, Bool.not_eq_true', Bool.or_eq_false_iff, Bool.and_eq_false_iff, beq_eq_false_iff_ne, ne_eq, beq_iff_eq, decide_eq_true_eq, decide_eq_false_iff_not, bne_iff_ne, bne_eq_false_iff_eq] at zz; omega)))) ⟨_, rfl, Below.refl _ _, optDef zβ rfl⟩
     refine ⟨⟨_, .no (c := ((((((o.weights.length : Nat) : Int) : Int) != (((sg.length : Nat) : Int) : Int)) || (decide ((o.var : Int) < (1 : Int)))) || (decide ((1000 : Int) < (o.var : Int))))) (d := true) rfl (fun v w h => h), fun h w => optUndef h, fun zβ za zw zc => ?_⟩, ?_⟩
     ·exact fld_27_3 rfl (zc.kn.ev rfl) ⟨_, rfl, Below.refl _ _, optDef zβ rfl⟩
     refine ⟨⟨_, .no (c := ((((((o.weights.length : Nat) : Int) : Int) != (((sg.length : Nat) : Int) : Int)) || (decide ((o.var : Int) < (1 : Int)))) || (decide ((1000 : Int) < (o.var : Int))))) (d := true) rfl (fun v w h => h), fun h w => optUndef h, fun zβ za zw zc => ?_⟩, ?_⟩
     ·exact ld_3 rfl ((evt za 43).trans (optVal (zc.dep 22 43 (by kernel_rfl)) rfl zβ)) (bkeeps zc.below _ _ ((hB28.cell 3).trans rfl)) ⟨_, rfl, Below.refl _ _, optDef zβ rfl⟩
     refine ⟨⟨_, .no (c := ((((((o.weights.length : Nat) : Int) : Int) != (((sg.length : Nat) : Int) : Int)) || (decide ((o.var : Int) < (1 : Int)))) || (decide ((1000 : Int) < (o.var : Int))))) (d := true) rfl (fun v w h => h), fun h w => optUndef h, fun zβ za zw zc => ?_⟩, ?_⟩
     ·exact neq_3 rfl ((evt za 42).trans (optVal (zc.dep 21 42 (by kernel_rfl)) rfl zβ)) ((evt za 44).trans (optVal (zc.dep 23 44 (by kernel_rfl)) rfl zβ)) ⟨_, rfl, Below.refl _ _, optDef zβ rfl⟩
     refine ⟨⟨true, .none rfl, fun h w => optUndef h, fun zβ za zw zc => ?_⟩, ?_⟩
     ·exact wp_or rfl ((evt za 38).trans (optVal (zc.dep 17 38 (by kernel_rfl)) rfl rfl)) (fun hp => ((evt za 45).trans (optVal (zc.dep 24 45 (by kernel_rfl)) rfl (bMkN zβ hp)))) ⟨_, rfl, Below.refl _ _, optDef zβ rfl⟩
     exact trivial
    ·intro za w37 zh hb38 zu
     have zh := zh.cons (d := 46) (v := .bool ((((((((o.weights.length : Nat) : Int) : Int) != (((sg.length : Nat) : Int) : Int)) || (decide ((o.var : Int) < (1 : Int)))) || (decide ((1000 : Int) < (o.var : Int)))) || (((iget o.weights 0) : Int) != (o.var : Int))))) (optVal (zu 25 46 (by kernel_rfl)) rfl rfl)
     clear zu
     refine WE.go zh ?_
     refine WE.next ?_
     refine WC.cond rfl (fun h39 => ?_) (fun h39 => ?_)
     ·have h39 : ((((((o.weights.length : Nat) : Int) : Int) ≠ (((sg.length : Nat) : Int) : Int)) ∨ ((o.var : Int) < (1 : Int))) ∨ ((1000 : Int) < (o.var : Int))) ∨ (((iget o.weights 0) : Int) ≠ (o.var : Int)) := by simpa using h39
      refine WC.seq (WC.region (WL.asg rfl rfl rfl rfl rfl (WL.nil (WE.next (WC.ret (WE.thenRet (WE.ret1 rfl rfl ?_)))))))
      have hb40 : Below w.heap.size w w37 := (bstep hb36 hb38)
      exact ⟨_, rfl, ⟨2, rfl, fun h => absurd h (by decide)⟩, hb40⟩
     ·have h39 : ¬ (((((((o.weights.length : Nat) : Int) : Int) ≠ (((sg.length : Nat) : Int) : Int)) ∨ ((o.var : Int) < (1 : Int))) ∨ ((1000 : Int) < (o.var : Int))) ∨ (((iget o.weights 0) : Int) ≠ (o.var : Int))) := by simpa using h39
      have hkb : (o.weights.length : Int) = sg.length ∧ 1 ≤ o.var ∧ o.var ≤ 1000 ∧ iget o.weights 0 = o.var := by have z := h39; simp only [not_or, Decidable.not_not, ne_eq] at z; omega
      refine WC.skip (WE.next (WC.seq (WC.seq (WC.region (WL.asg rfl rfl rfl rfl rfl (WL.nil (WE.next (WC.block ?_))))))))
      refine WC.loop (X := Nat) (fun k => sg.length - k) (fun k => [(0, .agg #[.slice sa sg.length sc]), (1, .agg #[.bool o.lpo, .slice p1 o.prec.length k1, .slice p2 o.weights.length k2, .int .i64 o.var]), (2, .pointer (some ⟨g2, 0, none⟩)), (3, .pointer (some ⟨g9, 0, none⟩)), (5, .int .i64 (((k : Nat) : Int))), (18, .bool ((!br))), (20, .bool o.lpo), (46, .bool ((((((((o.weights.length : Nat) : Int) : Int) != (((sg.length : Nat) : Int) : Int)) || (decide ((o.var : Int) < (1 : Int)))) || (decide ((1000 : Int) < (o.var : Int)))) || (((iget o.weights 0) : Int) != (o.var : Int)))))]) (fun k w41 => k ≤ sg.length ∧ (∀ i, i < k → SymOk o (sget sg i) i) ∧ Below w.heap.size w w41 ∧ Blk w41 g2 24 #[.slice sa sg.length sc] ∧ Blk w41 g9 27 #[.bool o.lpo, .slice p1 o.prec.length k1, .slice p2 o.weights.length k2, .int .i64 o.var]) 0 ⟨rfl, rfl, rfl, rfl, rfl, rfl, rfl, rfl, trivial⟩ ?_ ?_
      ·have hb42 : Below w.heap.size w w37 := (bstep hb36 hb38)
       have hB43 := hB31.below hb38
       have hB44 := hB28.below hb38
       exact ⟨Nat.zero_le _, fun i h => absurd h (Nat.not_lt_zero i), hb42, hB43, hB44⟩
      ·rintro k w41 ⟨hk, hall, hb45, hB46, hB47⟩
       refine WC.seq (WC.seq (WC.region (WL.mv rfl rfl rfl rfl rfl ?_)))
       refine WL.val _ rfl rfl rfl (fun za zC zh zk => fld_24_0 rfl (zh.ev rfl) zk) ?_
       refine WL.val _ rfl rfl rfl (fun za zC zh zk => ld_22 rfl (zh.ev rfl) ((hB46.cell 0).trans rfl) zk) ?_
       refine WL.val (.int .i64 (((sg.length : Nat) : Int))) rfl rfl rfl (fun za zC zh zk => len_22 rfl (zh.ev rfl) zk) ?_
       refine WL.val (.bool ((decide ((((k : Nat) : Int) : Int) < (((sg.length : Nat) : Int) : Int))))) rfl rfl rfl (fun za zC zh zk => lss_3 rfl (zh.ev rfl) (zh.ev rfl) zk) ?_
       refine WL.nil (WE.next ?_)
       refine WC.cond rfl (fun h48 => ?_) (fun h48 => ?_)
       ·have h48 : (((k : Nat) : Int) : Int) < (((sg.length : Nat) : Int) : Int) := by simpa using h48
        refine WC.skip (WE.next (WC.seq (WC.block (WC.seq (WC.region ?_)))))
        refine WL.val _ rfl rfl rfl (fun za zC zh zk => fld_27_2 rfl (zh.ev rfl) zk) ?_
        refine WL.val _ rfl rfl rfl (fun za zC zh zk => ld_25 rfl (zh.ev rfl) ((hB47.cell 2).trans rfl) zk) ?_
        refine WL.mv rfl rfl rfl rfl rfl ?_
        refine WL.val _ rfl rfl rfl (fun za zC zh zk => ix_25 (k := k) rfl (zh.ev rfl) (ha34 k (by first | omega | (simp; omega))) (zh.ev rfl) (by first | omega | (simp; omega)) zk) ?_
        refine WL.val _ rfl rfl rfl (fun za zC zh zk => ld_3 rfl (zh.ev rfl) (bkeeps hb45 _ _ (hc35 k (by first | omega | (simp; omega)))) zk) ?_
        refine WL.asg rfl rfl rfl rfl rfl (WL.nil (WE.next (WC.seq (WC.seq (WC.region (WL.mv rfl rfl rfl rfl rfl ?_))))))
        refine WL.val (.bool ((decide (((iget o.weights k) : Int) < (0 : Int))))) rfl rfl rfl (fun za zC zh zk => lss_3 rfl (zh.ev rfl) (zh.ev rfl) zk) ?_
        refine WL.mv rfl rfl rfl rfl rfl ?_
        refine bool_split ((decide (((iget o.weights k) : Int) < (0 : Int)))) (fun h49 => ?_) (fun h49 => ?_)
        ·refine WL.setb (d := 61) (b := true) rfl h49 ?_
         have h49 : ((iget o.weights k) : Int) < (0 : Int) := by simpa using h49
         refine WL.skip (d := 61) rfl rfl rfl rfl rfl ?_
         refine WL.skip (d := 61) rfl rfl rfl rfl rfl ?_
         refine WL.val (.bool true) rfl rfl rfl (fun za zC zh zk => wp_pickT rfl (zh.ev rfl) (zh.ev rfl) zk) ?_
         refine WL.mv rfl rfl rfl rfl rfl ?_
         refine WL.skip (d := 65) rfl rfl rfl rfl rfl ?_
         refine WL.skip (d := 65) rfl rfl rfl rfl rfl ?_
         refine WL.skip (d := 65) rfl rfl rfl rfl rfl ?_
         refine WL.skip (d := 65) rfl rfl rfl rfl rfl ?_
         refine WL.skip (d := 65) rfl rfl rfl rfl rfl ?_
         refine WL.skip (d := 65) rfl rfl rfl rfl rfl ?_
         refine WL.skip (d := 65) rfl rfl rfl rfl rfl ?_
         refine WL.skip (d := 65) rfl rfl rfl rfl rfl ?_
         refine WL.skipU (d := 73) rfl rfl rfl rfl ?_
         refine WL.skipU (d := 73) rfl rfl rfl rfl ?_
         refine WL.skipU (d := 73) rfl rfl rfl rfl ?_
         refine WL.skipU (d := 73) rfl rfl rfl rfl ?_
         refine WL.skip (d := 65) rfl rfl rfl rfl rfl ?_
         refine WL.val (.bool true) rfl rfl rfl (fun za zC zh zk => wp_pickT rfl (zh.ev rfl) (zh.ev rfl) zk) ?_
         refine WL.nil (WE.sub (K' := [(0, .agg #[.slice sa sg.length sc]), (1, .agg #[.bool o.lpo, .slice p1 o.prec.length k1, .slice p2 o.weights.length k2, .int .i64 o.var]), (2, .pointer (some ⟨g2, 0, none⟩)), (3, .pointer (some ⟨g9, 0, none⟩)), (5, .int .i64 (((k : Nat) : Int))), (6, .int .i64 ((iget o.weights k))), (18, .bool ((!br))), (20, .bool o.lpo), (46, .bool ((((((((o.weights.length : Nat) : Int) : Int) != (((sg.length : Nat) : Int) : Int)) || (decide ((o.var : Int) < (1 : Int)))) || (decide ((1000 : Int) < (o.var : Int)))) || (((iget o.weights 0) : Int) != (o.var : Int))))), (51, .bool ((decide ((((k : Nat) : Int) : Int) < (((sg.length : Nat) : Int) : Int))))), (79, .bool true)]) ⟨rfl, rfl, rfl, rfl, rfl, rfl, rfl, rfl, rfl, rfl, rfl, trivial⟩ ?_)
         refine WE.next ?_
         refine WC.condT rfl rfl ?_
         refine WC.seq (WC.region (WL.asg rfl rfl rfl rfl rfl (WL.nil (WE.next (WC.ret (WE.thenRet (WE.blockRet (WE.thenRet (WE.thenRet (WE.blockRet (WE.thenRet (WE.ret1 rfl rfl ?_))))))))))))
         exact ⟨_, rfl, ⟨2, rfl, fun h => absurd h (by decide)⟩, hb45⟩
        ·refine WL.setb (d := 61) (b := false) rfl h49 ?_
         have h49 : ¬ (((iget o.weights k) : Int) < (0 : Int)) := by simpa using h49
         refine WL.want (d := 61) rfl rfl rfl ?_
         refine WL.mv rfl rfl rfl rfl rfl ?_
         refine WL.want (d := 61) rfl rfl rfl ?_
         refine WL.val (.bool ((decide ((1000 : Int) < ((iget o.weights k) : Int))))) rfl rfl rfl (fun za zC zh zk => gtr_3 rfl (zh.ev rfl) (zh.ev rfl) zk) ?_
         refine WL.val (.bool ((decide ((1000 : Int) < ((iget o.weights k) : Int))))) rfl rfl rfl (fun za zC zh zk => wp_pickF rfl (zh.ev rfl) (zh.ev rfl) zk) ?_
         refine WL.mv rfl rfl rfl rfl rfl ?_
         refine bool_split ((decide ((1000 : Int) < ((iget o.weights k) : Int)))) (fun h50 => ?_) (fun h50 => ?_)
         ·refine WL.setb (d := 65) (b := true) rfl h50 ?_
          have h50 : (1000 : Int) < ((iget o.weights k) : Int) := by simpa using h50
          refine WL.skip (d := 65) rfl rfl rfl rfl rfl ?_
          refine WL.skip (d := 65) rfl rfl rfl rfl rfl ?_
          refine WL.skip (d := 65) rfl rfl rfl rfl rfl ?_
          refine WL.skip (d := 65) rfl rfl rfl rfl rfl ?_
          refine WL.skip (d := 65) rfl rfl rfl rfl rfl ?_
          refine WL.skip (d := 65) rfl rfl rfl rfl rfl ?_
          refine WL.skip (d := 65) rfl rfl rfl rfl rfl ?_
          refine WL.skip (d := 65) rfl rfl rfl rfl rfl ?_
          refine WL.skipU (d := 73) rfl rfl rfl rfl ?_
          refine WL.skipU (d := 73) rfl rfl rfl rfl ?_
          refine WL.skipU (d := 73) rfl rfl rfl rfl ?_
          refine WL.skipU (d := 73) rfl rfl rfl rfl ?_
          refine WL.skip (d := 65) rfl rfl rfl rfl rfl ?_
          refine WL.val (.bool true) rfl rfl rfl (fun za zC zh zk => wp_pickT rfl (zh.ev rfl) (zh.ev rfl) zk) ?_
          refine WL.nil (WE.sub (K' := [(0, .agg #[.slice sa sg.length sc]), (1, .agg #[.bool o.lpo, .slice p1 o.prec.length k1, .slice p2 o.weights.length k2, .int .i64 o.var]), (2, .pointer (some ⟨g2, 0, none⟩)), (3, .pointer (some ⟨g9, 0, none⟩)), (5, .int .i64 (((k : Nat) : Int))), (6, .int .i64 ((iget o.weights k))), (18, .bool ((!br))), (20, .bool o.lpo), (46, .bool ((((((((o.weights.length : Nat) : Int) : Int) != (((sg.length : Nat) : Int) : Int)) || (decide ((o.var : Int) < (1 : Int)))) || (decide ((1000 : Int) < (o.var : Int)))) || (((iget o.weights 0) : Int) != (o.var : Int))))), (51, .bool ((decide ((((k : Nat) : Int) : Int) < (((sg.length : Nat) : Int) : Int))))), (79, .bool true)]) ⟨rfl, rfl, rfl, rfl, rfl, rfl, rfl, rfl, rfl, rfl, rfl, trivial⟩ ?_)
          refine WE.next ?_
          refine WC.condT rfl rfl ?_
          refine WC.seq (WC.region (WL.asg rfl rfl rfl rfl rfl (WL.nil (WE.next (WC.ret (WE.thenRet (WE.blockRet (WE.thenRet (WE.thenRet (WE.blockRet (WE.thenRet (WE.ret1 rfl rfl ?_))))))))))))
          exact ⟨_, rfl, ⟨2, rfl, fun h => absurd h (by decide)⟩, hb45⟩
         ·refine WL.setb (d := 65) (b := false) rfl h50 ?_
          have h50 : ¬ ((1000 : Int) < ((iget o.weights k) : Int)) := by simpa using h50
          refine WL.want (d := 65) rfl rfl rfl ?_
          refine WL.val _ rfl rfl rfl (fun za zC zh zk => fld_24_0 rfl (zh.ev rfl) zk) ?_
          refine WL.want (d := 65) rfl rfl rfl ?_
          refine WL.val _ rfl rfl rfl (fun za zC zh zk => ld_22 rfl (zh.ev rfl) ((hB46.cell 0).trans rfl) zk) ?_
          refine WL.want (d := 65) rfl rfl rfl ?_
          refine WL.mv rfl rfl rfl rfl rfl ?_
          refine WL.want (d := 65) rfl rfl rfl ?_
          obtain ⟨b51, o52, ha53, hc54⟩ := IsSys.open hs3
          refine WL.val _ rfl rfl rfl (fun za zC zh zk => ix_22 (k := k) rfl (zh.ev rfl) (ha53 k (by first | omega | (simp; omega))) (zh.ev rfl) (by first | omega | (simp; omega)) zk) ?_
          refine WL.want (d := 65) rfl rfl rfl ?_
          refine WL.val _ rfl rfl rfl (fun za zC zh zk => fld_47_1 rfl (zh.ev rfl) zk) ?_
          refine WL.want (d := 65) rfl rfl rfl ?_
          refine WL.val _ rfl rfl rfl (fun za zC zh zk => ld_3 rfl (zh.ev rfl) (bkeeps hb45 _ _ (hc54 k (by first | omega | (simp; omega))).2.1) zk) ?_
          refine WL.want (d := 65) rfl rfl rfl ?_
          refine WL.val (.bool ((((sget sg k).ar : Int) == (0 : Int)))) rfl rfl rfl (fun za zC zh zk => eql_3 rfl (zh.ev rfl) (zh.ev rfl) zk) ?_
          refine WL.want (d := 65) rfl rfl rfl ?_
          refine WL.mv rfl rfl rfl rfl rfl ?_
          refine bool_split ((((sget sg k).ar : Int) == (0 : Int))) (fun h55 => ?_) (fun h55 => ?_)
          ·refine WL.setb (d := 73) (b := true) rfl h55 ?_
           have h55 : ((sget sg k).ar : Int) = (0 : Int) := by simpa using h55
           refine WL.want (d := 73) rfl rfl rfl ?_
           refine WL.mv rfl rfl rfl rfl rfl ?_
           refine WL.want (d := 73) rfl rfl rfl ?_
           refine WL.val _ rfl rfl rfl (fun za zC zh zk => fld_27_3 rfl (zh.ev rfl) zk) ?_
           refine WL.want (d := 73) rfl rfl rfl ?_
           refine WL.val _ rfl rfl rfl (fun za zC zh zk => ld_3 rfl (zh.ev rfl) ((hB47.cell 3).trans rfl) zk) ?_
           refine WL.want (d := 73) rfl rfl rfl ?_
           refine WL.val (.bool ((decide (((iget o.weights k) : Int) < (o.var : Int))))) rfl rfl rfl (fun za zC zh zk => lss_3 rfl (zh.ev rfl) (zh.ev rfl) zk) ?_
           refine WL.want (d := 65) rfl rfl rfl ?_
           refine WL.val (.bool ((decide (((iget o.weights k) : Int) < (o.var : Int))))) rfl rfl rfl (fun za zC zh zk => wp_pickT rfl (zh.ev rfl) (zh.ev rfl) zk) ?_
           refine WL.val (.bool ((decide (((iget o.weights k) : Int) < (o.var : Int))))) rfl rfl rfl (fun za zC zh zk => wp_pickF rfl (zh.ev rfl) (zh.ev rfl) zk) ?_
           refine WL.nil (WE.sub (K' := [(0, .agg #[.slice sa sg.length sc]), (1, .agg #[.bool o.lpo, .slice p1 o.prec.length k1, .slice p2 o.weights.length k2, .int .i64 o.var]), (2, .pointer (some ⟨g2, 0, none⟩)), (3, .pointer (some ⟨g9, 0, none⟩)), (5, .int .i64 (((k : Nat) : Int))), (6, .int .i64 ((iget o.weights k))), (18, .bool ((!br))), (20, .bool o.lpo), (46, .bool ((((((((o.weights.length : Nat) : Int) : Int) != (((sg.length : Nat) : Int) : Int)) || (decide ((o.var : Int) < (1 : Int)))) || (decide ((1000 : Int) < (o.var : Int)))) || (((iget o.weights 0) : Int) != (o.var : Int))))), (51, .bool ((decide ((((k : Nat) : Int) : Int) < (((sg.length : Nat) : Int) : Int))))), (79, .bool ((decide (((iget o.weights k) : Int) < (o.var : Int)))))]) ⟨rfl, rfl, rfl, rfl, rfl, rfl, rfl, rfl, rfl, rfl, rfl, trivial⟩ ?_)
           refine WE.next ?_
           refine WC.cond rfl (fun h56 => ?_) (fun h56 => ?_)
           ·have h56 : ((iget o.weights k) : Int) < (o.var : Int) := by simpa using h56
            refine WC.seq (WC.region (WL.asg rfl rfl rfl rfl rfl (WL.nil (WE.next (WC.ret (WE.thenRet (WE.blockRet (WE.thenRet (WE.thenRet (WE.blockRet (WE.thenRet (WE.ret1 rfl rfl ?_))))))))))))
            exact ⟨_, rfl, ⟨2, rfl, fun h => absurd h (by decide)⟩, hb45⟩
           ·have h56 : ¬ (((iget o.weights k) : Int) < (o.var : Int)) := by simpa using h56
            refine WC.skip (WE.next (WC.seq (WC.region ?_)))
            refine WL.val _ rfl rfl rfl (fun za zC zh zk => fld_24_0 rfl (zh.ev rfl) zk) ?_
            refine WL.val _ rfl rfl rfl (fun za zC zh zk => ld_22 rfl (zh.ev rfl) ((hB46.cell 0).trans rfl) zk) ?_
            refine WL.mv rfl rfl rfl rfl rfl ?_
            refine WL.val _ rfl rfl rfl (fun za zC zh zk => ix_22 (k := k) rfl (zh.ev rfl) (ha53 k (by first | omega | (simp; omega))) (zh.ev rfl) (by first | omega | (simp; omega)) zk) ?_
            refine WL.val _ rfl rfl rfl (fun za zC zh zk => fld_47_1 rfl (zh.ev rfl) zk) ?_
            refine WL.val _ rfl rfl rfl (fun za zC zh zk => ld_3 rfl (zh.ev rfl) (bkeeps hb45 _ _ (hc54 k (by first | omega | (simp; omega))).2.1) zk) ?_
            refine WL.val (.bool ((((sget sg k).ar : Int) == (1 : Int)))) rfl rfl rfl (fun za zC zh zk => eql_3 rfl (zh.ev rfl) (zh.ev rfl) zk) ?_
            refine WL.mv rfl rfl rfl rfl rfl ?_
            refine bool_split ((((sget sg k).ar : Int) == (1 : Int))) (fun h57 => ?_) (fun h57 => ?_)
            ·refine WL.setb (d := 87) (b := true) rfl h57 ?_
             have h57 : ((sget sg k).ar : Int) = (1 : Int) := by simpa using h57
             refine WL.want (d := 87) rfl rfl rfl ?_
             refine WL.mv rfl rfl rfl rfl rfl ?_
             refine WL.want (d := 87) rfl rfl rfl ?_
             refine WL.val (.bool ((((iget o.weights k) : Int) == (0 : Int)))) rfl rfl rfl (fun za zC zh zk => eql_3 rfl (zh.ev rfl) (zh.ev rfl) zk) ?_
             refine WL.val (.bool ((((iget o.weights k) : Int) == (0 : Int)))) rfl rfl rfl (fun za zC zh zk => wp_pickT rfl (zh.ev rfl) (zh.ev rfl) zk) ?_
             refine WL.mv rfl rfl rfl rfl rfl ?_
             refine bool_split ((((iget o.weights k) : Int) == (0 : Int))) (fun h58 => ?_) (fun h58 => ?_)
             ·refine WL.setb (d := 91) (b := true) rfl h58 ?_
              have h58 : ((iget o.weights k) : Int) = (0 : Int) := by simpa using h58
              refine WL.want (d := 91) rfl rfl rfl ?_
              refine WL.val _ rfl rfl rfl (fun za zC zh zk => fld_27_1 rfl (zh.ev rfl) zk) ?_
              refine WL.want (d := 91) rfl rfl rfl ?_
              refine WL.val _ rfl rfl rfl (fun za zC zh zk => ld_25 rfl (zh.ev rfl) ((hB47.cell 1).trans rfl) zk) ?_
              refine WL.want (d := 91) rfl rfl rfl ?_
              refine WL.mv rfl rfl rfl rfl rfl ?_
              refine WL.want (d := 91) rfl rfl rfl ?_
              refine WL.call rfl rfl rfl (fun za zh zC => wp_call (by kernel_rfl) rfl (hv2 (zh.ev rfl) (zh.ev rfl))) (ret_of (highest_any o.prec k _ _ _ (by omega) hp1 hp2 (IsInts.below hb45 hp))) ?_
              rintro _ w60 ⟨rfl, hq59⟩
              refine WL.want (d := 91) rfl rfl rfl ?_
              refine WL.val (.bool ((!(high o.prec k)))) rfl rfl rfl (fun za zC zh zk => wp_not rfl (zh.ev rfl) zk) ?_
              refine WL.val (.bool ((!(high o.prec k)))) rfl rfl rfl (fun za zC zh zk => wp_pickT rfl (zh.ev rfl) (zh.ev rfl) zk) ?_
              refine WL.nil (WE.next ?_)
              refine WC.cond rfl (fun h61 => ?_) (fun h61 => ?_)
              ·have h61 : ¬ ((high o.prec k) = true) := by simpa using h61
               refine WC.seq (WC.region (WL.asg rfl rfl rfl rfl rfl (WL.nil (WE.next (WC.ret (WE.blockRet (WE.thenRet (WE.thenRet (WE.blockRet (WE.thenRet (WE.ret1 rfl rfl ?_)))))))))))
               have hb62 : Below w.heap.size w w60 := (bstep hb45 hq59)
               exact ⟨_, rfl, ⟨2, rfl, fun h => absurd h (by decide)⟩, hb62⟩
              ·have h61 : ¬ (¬ ((high o.prec k) = true)) := by simpa using h61
               refine WC.skip (WE.blockNormal (WE.next (WC.region (WL.mv rfl rfl rfl rfl rfl ?_))))
               refine WL.val (.int .i64 ((((k + 1) : Nat) : Int))) rfl rfl rfl (fun za zC zh zk => addb_3 rfl (zh.ev rfl) (zh.ev rfl) (wrap_eq (by omega) (by omega) (by omega)) zk) ?_
               refine WL.asg rfl rfl rfl rfl rfl (WL.nil ?_)
               refine WE.round (k + 1) ⟨rfl, rfl, rfl, rfl, rfl, rfl, rfl, rfl, trivial⟩ ?_ ?_
               ·have hb63 : Below w.heap.size w w60 := (bstep hb45 hq59)
                have hB64 := hB46.below hq59
                have hB65 := hB47.below hq59
                exact ⟨by omega, fun i hi => by
                  by_cases e : i = k
                  ·subst e
                   simp_all [SymOk, iget, high]
                   try omega
                  ·exact hall i (by omega), hb63, hB64, hB65⟩
               ·omega
             ·refine WL.setb (d := 91) (b := false) rfl h58 ?_
              have h58 : ¬ (((iget o.weights k) : Int) = (0 : Int)) := by simpa using h58
              refine WL.skip (d := 91) rfl rfl rfl rfl rfl ?_
              refine WL.skip (d := 91) rfl rfl rfl rfl rfl ?_
              refine WL.skip (d := 91) rfl rfl rfl rfl rfl ?_
              refine WL.skip (d := 91) rfl rfl rfl rfl rfl ?_
              refine WL.skip (d := 91) rfl rfl rfl rfl rfl ?_
              refine WL.val (.bool false) rfl rfl rfl (fun za zC zh zk => wp_pickF rfl (zh.ev rfl) (zh.ev rfl) zk) ?_
              refine WL.nil (WE.next ?_)
              refine WC.condF rfl rfl ?_
              refine WC.skip (WE.blockNormal (WE.next (WC.region (WL.mv rfl rfl rfl rfl rfl ?_))))
              refine WL.val (.int .i64 ((((k + 1) : Nat) : Int))) rfl rfl rfl (fun za zC zh zk => addb_3 rfl (zh.ev rfl) (zh.ev rfl) (wrap_eq (by omega) (by omega) (by omega)) zk) ?_
              refine WL.asg rfl rfl rfl rfl rfl (WL.nil ?_)
              refine WE.round (k + 1) ⟨rfl, rfl, rfl, rfl, rfl, rfl, rfl, rfl, trivial⟩ ?_ ?_
              ·exact ⟨by omega, fun i hi => by
                 by_cases e : i = k
                 ·subst e
                  simp_all [SymOk, iget, high]
                  try omega
                 ·exact hall i (by omega), hb45, hB46, hB47⟩
              ·omega
            ·refine WL.setb (d := 87) (b := false) rfl h57 ?_
             have h57 : ¬ (((sget sg k).ar : Int) = (1 : Int)) := by simpa using h57
             refine WL.skip (d := 87) rfl rfl rfl rfl rfl ?_
             refine WL.skip (d := 87) rfl rfl rfl rfl rfl ?_
             refine WL.val (.bool false) rfl rfl rfl (fun za zC zh zk => wp_pickF rfl (zh.ev rfl) (zh.ev rfl) zk) ?_
             refine WL.mv rfl rfl rfl rfl rfl ?_
             refine WL.skip (d := 91) rfl rfl rfl rfl rfl ?_
             refine WL.skip (d := 91) rfl rfl rfl rfl rfl ?_
             refine WL.skip (d := 91) rfl rfl rfl rfl rfl ?_
             refine WL.skip (d := 91) rfl rfl rfl rfl rfl ?_
             refine WL.skip (d := 91) rfl rfl rfl rfl rfl ?_
             refine WL.val (.bool false) rfl rfl rfl (fun za zC zh zk => wp_pickF rfl (zh.ev rfl) (zh.ev rfl) zk) ?_
             refine WL.nil (WE.next ?_)
             refine WC.condF rfl rfl ?_
             refine WC.skip (WE.blockNormal (WE.next (WC.region (WL.mv rfl rfl rfl rfl rfl ?_))))
             refine WL.val (.int .i64 ((((k + 1) : Nat) : Int))) rfl rfl rfl (fun za zC zh zk => addb_3 rfl (zh.ev rfl) (zh.ev rfl) (wrap_eq (by omega) (by omega) (by omega)) zk) ?_
             refine WL.asg rfl rfl rfl rfl rfl (WL.nil ?_)
             refine WE.round (k + 1) ⟨rfl, rfl, rfl, rfl, rfl, rfl, rfl, rfl, trivial⟩ ?_ ?_
             ·exact ⟨by omega, fun i hi => by
                by_cases e : i = k
                ·subst e
                 simp_all [SymOk, iget, high]
                 try omega
                ·exact hall i (by omega), hb45, hB46, hB47⟩
             ·omega
          ·refine WL.setb (d := 73) (b := false) rfl h55 ?_
           have h55 : ¬ (((sget sg k).ar : Int) = (0 : Int)) := by simpa using h55
           refine WL.skip (d := 73) rfl rfl rfl rfl rfl ?_
           refine WL.skip (d := 73) rfl rfl rfl rfl rfl ?_
           refine WL.skip (d := 73) rfl rfl rfl rfl rfl ?_
           refine WL.skip (d := 73) rfl rfl rfl rfl rfl ?_
           refine WL.want (d := 65) rfl rfl rfl ?_
           refine WL.val (.bool false) rfl rfl rfl (fun za zC zh zk => wp_pickF rfl (zh.ev rfl) (zh.ev rfl) zk) ?_
           refine WL.val (.bool false) rfl rfl rfl (fun za zC zh zk => wp_pickF rfl (zh.ev rfl) (zh.ev rfl) zk) ?_
           refine WL.nil (WE.sub (K' := [(0, .agg #[.slice sa sg.length sc]), (1, .agg #[.bool o.lpo, .slice p1 o.prec.length k1, .slice p2 o.weights.length k2, .int .i64 o.var]), (2, .pointer (some ⟨g2, 0, none⟩)), (3, .pointer (some ⟨g9, 0, none⟩)), (5, .int .i64 (((k : Nat) : Int))), (6, .int .i64 ((iget o.weights k))), (18, .bool ((!br))), (20, .bool o.lpo), (46, .bool ((((((((o.weights.length : Nat) : Int) : Int) != (((sg.length : Nat) : Int) : Int)) || (decide ((o.var : Int) < (1 : Int)))) || (decide ((1000 : Int) < (o.var : Int)))) || (((iget o.weights 0) : Int) != (o.var : Int))))), (51, .bool ((decide ((((k : Nat) : Int) : Int) < (((sg.length : Nat) : Int) : Int))))), (79, .bool false)]) ⟨rfl, rfl, rfl, rfl, rfl, rfl, rfl, rfl, rfl, rfl, rfl, trivial⟩ ?_)
           refine WE.next ?_
           refine WC.condF rfl rfl ?_
           refine WC.skip (WE.next (WC.seq (WC.region ?_)))
           refine WL.val _ rfl rfl rfl (fun za zC zh zk => fld_24_0 rfl (zh.ev rfl) zk) ?_
           refine WL.val _ rfl rfl rfl (fun za zC zh zk => ld_22 rfl (zh.ev rfl) ((hB46.cell 0).trans rfl) zk) ?_
           refine WL.mv rfl rfl rfl rfl rfl ?_
           refine WL.val _ rfl rfl rfl (fun za zC zh zk => ix_22 (k := k) rfl (zh.ev rfl) (ha53 k (by first | omega | (simp; omega))) (zh.ev rfl) (by first | omega | (simp; omega)) zk) ?_
           refine WL.val _ rfl rfl rfl (fun za zC zh zk => fld_47_1 rfl (zh.ev rfl) zk) ?_
           refine WL.val _ rfl rfl rfl (fun za zC zh zk => ld_3 rfl (zh.ev rfl) (bkeeps hb45 _ _ (hc54 k (by first | omega | (simp; omega))).2.1) zk) ?_
           refine WL.val (.bool ((((sget sg k).ar : Int) == (1 : Int)))) rfl rfl rfl (fun za zC zh zk => eql_3 rfl (zh.ev rfl) (zh.ev rfl) zk) ?_
           refine WL.mv rfl rfl rfl rfl rfl ?_
           refine bool_split ((((sget sg k).ar : Int) == (1 : Int))) (fun h66 => ?_) (fun h66 => ?_)
           ·refine WL.setb (d := 87) (b := true) rfl h66 ?_
            have h66 : ((sget sg k).ar : Int) = (1 : Int) := by simpa using h66
            refine WL.want (d := 87) rfl rfl rfl ?_
            refine WL.mv rfl rfl rfl rfl rfl ?_
            refine WL.want (d := 87) rfl rfl rfl ?_
            refine WL.val (.bool ((((iget o.weights k) : Int) == (0 : Int)))) rfl rfl rfl (fun za zC zh zk => eql_3 rfl (zh.ev rfl) (zh.ev rfl) zk) ?_
            refine WL.val (.bool ((((iget o.weights k) : Int) == (0 : Int)))) rfl rfl rfl (fun za zC zh zk => wp_pickT rfl (zh.ev rfl) (zh.ev rfl) zk) ?_
            refine WL.mv rfl rfl rfl rfl rfl ?_
            refine bool_split ((((iget o.weights k) : Int) == (0 : Int))) (fun h67 => ?_) (fun h67 => ?_)
            ·refine WL.setb (d := 91) (b := true) rfl h67 ?_
             have h67 : ((iget o.weights k) : Int) = (0 : Int) := by simpa using h67
             refine WL.want (d := 91) rfl rfl rfl ?_
             refine WL.val _ rfl rfl rfl (fun za zC zh zk => fld_27_1 rfl (zh.ev rfl) zk) ?_
             refine WL.want (d := 91) rfl rfl rfl ?_
             refine WL.val _ rfl rfl rfl (fun za zC zh zk => ld_25 rfl (zh.ev rfl) ((hB47.cell 1).trans rfl) zk) ?_
             refine WL.want (d := 91) rfl rfl rfl ?_
             refine WL.mv rfl rfl rfl rfl rfl ?_
             refine WL.want (d := 91) rfl rfl rfl ?_
             refine WL.call rfl rfl rfl (fun za zh zC => wp_call (by kernel_rfl) rfl (hv2 (zh.ev rfl) (zh.ev rfl))) (ret_of (highest_any o.prec k _ _ _ (by omega) hp1 hp2 (IsInts.below hb45 hp))) ?_
             rintro _ w69 ⟨rfl, hq68⟩
             refine WL.want (d := 91) rfl rfl rfl ?_
             refine WL.val (.bool ((!(high o.prec k)))) rfl rfl rfl (fun za zC zh zk => wp_not rfl (zh.ev rfl) zk) ?_
             refine WL.val (.bool ((!(high o.prec k)))) rfl rfl rfl (fun za zC zh zk => wp_pickT rfl (zh.ev rfl) (zh.ev rfl) zk) ?_
             refine WL.nil (WE.next ?_)
             refine WC.cond rfl (fun h70 => ?_) (fun h70 => ?_)
             ·have h70 : ¬ ((high o.prec k) = true) := by simpa using h70
              refine WC.seq (WC.region (WL.asg rfl rfl rfl rfl rfl (WL.nil (WE.next (WC.ret (WE.blockRet (WE.thenRet (WE.thenRet (WE.blockRet (WE.thenRet (WE.ret1 rfl rfl ?_)))))))))))
              have hb71 : Below w.heap.size w w69 := (bstep hb45 hq68)
              exact ⟨_, rfl, ⟨2, rfl, fun h => absurd h (by decide)⟩, hb71⟩
             ·have h70 : ¬ (¬ ((high o.prec k) = true)) := by simpa using h70
              refine WC.skip (WE.blockNormal (WE.next (WC.region (WL.mv rfl rfl rfl rfl rfl ?_))))
              refine WL.val (.int .i64 ((((k + 1) : Nat) : Int))) rfl rfl rfl (fun za zC zh zk => addb_3 rfl (zh.ev rfl) (zh.ev rfl) (wrap_eq (by omega) (by omega) (by omega)) zk) ?_
              refine WL.asg rfl rfl rfl rfl rfl (WL.nil ?_)
              refine WE.round (k + 1) ⟨rfl, rfl, rfl, rfl, rfl, rfl, rfl, rfl, trivial⟩ ?_ ?_
              ·have hb72 : Below w.heap.size w w69 := (bstep hb45 hq68)
               have hB73 := hB46.below hq68
               have hB74 := hB47.below hq68
               exact ⟨by omega, fun i hi => by
                 by_cases e : i = k
                 ·subst e
                  simp_all [SymOk, iget, high]
                  try omega
                 ·exact hall i (by omega), hb72, hB73, hB74⟩
              ·omega
            ·refine WL.setb (d := 91) (b := false) rfl h67 ?_
             have h67 : ¬ (((iget o.weights k) : Int) = (0 : Int)) := by simpa using h67
             refine WL.skip (d := 91) rfl rfl rfl rfl rfl ?_
             refine WL.skip (d := 91) rfl rfl rfl rfl rfl ?_
             refine WL.skip (d := 91) rfl rfl rfl rfl rfl ?_
             refine WL.skip (d := 91) rfl rfl rfl rfl rfl ?_
             refine WL.skip (d := 91) rfl rfl rfl rfl rfl ?_
             refine WL.val (.bool false) rfl rfl rfl (fun za zC zh zk => wp_pickF rfl (zh.ev rfl) (zh.ev rfl) zk) ?_
             refine WL.nil (WE.next ?_)
             refine WC.condF rfl rfl ?_
             refine WC.skip (WE.blockNormal (WE.next (WC.region (WL.mv rfl rfl rfl rfl rfl ?_))))
             refine WL.val (.int .i64 ((((k + 1) : Nat) : Int))) rfl rfl rfl (fun za zC zh zk => addb_3 rfl (zh.ev rfl) (zh.ev rfl) (wrap_eq (by omega) (by omega) (by omega)) zk) ?_
             refine WL.asg rfl rfl rfl rfl rfl (WL.nil ?_)
             refine WE.round (k + 1) ⟨rfl, rfl, rfl, rfl, rfl, rfl, rfl, rfl, trivial⟩ ?_ ?_
             ·exact ⟨by omega, fun i hi => by
                by_cases e : i = k
                ·subst e
                 simp_all [SymOk, iget, high]
                 try omega
                ·exact hall i (by omega), hb45, hB46, hB47⟩
             ·omega
           ·refine WL.setb (d := 87) (b := false) rfl h66 ?_
            have h66 : ¬ (((sget sg k).ar : Int) = (1 : Int)) := by simpa using h66
            refine WL.skip (d := 87) rfl rfl rfl rfl rfl ?_
            refine WL.skip (d := 87) rfl rfl rfl rfl rfl ?_
            refine WL.val (.bool false) rfl rfl rfl (fun za zC zh zk => wp_pickF rfl (zh.ev rfl) (zh.ev rfl) zk) ?_
            refine WL.mv rfl rfl rfl rfl rfl ?_
            refine WL.skip (d := 91) rfl rfl rfl rfl rfl ?_
            refine WL.skip (d := 91) rfl rfl rfl rfl rfl ?_
            refine WL.skip (d := 91) rfl rfl rfl rfl rfl ?_
            refine WL.skip (d := 91) rfl rfl rfl rfl rfl ?_
            refine WL.skip (d := 91) rfl rfl rfl rfl rfl ?_
            refine WL.val (.bool false) rfl rfl rfl (fun za zC zh zk => wp_pickF rfl (zh.ev rfl) (zh.ev rfl) zk) ?_
            refine WL.nil (WE.next ?_)
            refine WC.condF rfl rfl ?_
            refine WC.skip (WE.blockNormal (WE.next (WC.region (WL.mv rfl rfl rfl rfl rfl ?_))))
            refine WL.val (.int .i64 ((((k + 1) : Nat) : Int))) rfl rfl rfl (fun za zC zh zk => addb_3 rfl (zh.ev rfl) (zh.ev rfl) (wrap_eq (by omega) (by omega) (by omega)) zk) ?_
            refine WL.asg rfl rfl rfl rfl rfl (WL.nil ?_)
            refine WE.round (k + 1) ⟨rfl, rfl, rfl, rfl, rfl, rfl, rfl, rfl, trivial⟩ ?_ ?_
            ·exact ⟨by omega, fun i hi => by
               by_cases e : i = k
               ·subst e
                simp_all [SymOk, iget, high]
                try omega
               ·exact hall i (by omega), hb45, hB46, hB47⟩
            ·omega
       ·have h48 : ¬ ((((k : Nat) : Int) : Int) < (((sg.length : Nat) : Int) : Int)) := by simpa using h48
        refine WC.exit (WE.thenExit (WE.thenExit (WE.blockIs rfl (WE.next (WC.seq (WC.region (WL.asg rfl rfl rfl rfl rfl (WL.nil (WE.next (WC.ret (WE.ret1 rfl rfl ?_)))))))))))
        exact ⟨_, rfl, ⟨0, rfl, fun _ => ⟨by omega, hlen, hr.2, fun _ => ⟨by omega, hkb.2.1, hkb.2.2.1, hkb.2.2.2, fun i hi => by have z := hall i (by omega); rwa [sget_lt hi] at z⟩⟩⟩, hb45⟩
end Go.Proofs.Ytmdpiafeiopimaa

namespace Go.Proofs.Ytmdpiafeiopimaa
open Go.RowKit Go
set_option linter.unusedVariables false
structure TwoOwn (w : World) (B : Nat) (e : TypeId) (a1 : Option Addr) (c1 n1 : Nat) (xs1 : List Value) (a2 : Option Addr) (c2 n2 : Nat) (xs2 : List Value) : Prop where
  o1 : w.ownsRow B e 1 (.slice a1 n1 c1) n1 xs1
  o2 : w.ownsRow B e 1 (.slice a2 n2 c2) n2 xs2
  apart : ∀ b, (Value.slice a1 n1 c1).ownBlock = some b → (Value.slice a2 n2 c2).ownBlock ≠ some b
section
variable {w w' : World} {B e c1 n1 c2 n2 : Nat} {a1 a2 : Option Addr} {xs1 xs2 : List Value}
theorem TwoOwn.nil : TwoOwn w B e none 0 0 [] none 0 0 [] := ⟨World.ownsRow_nil _ _ _ _, World.ownsRow_nil _ _ _ _, fun b h => by cases h⟩
theorem TwoOwn.swap (h : TwoOwn w B e a1 c1 n1 xs1 a2 c2 n2 xs2) : TwoOwn w B e a2 c2 n2 xs2 a1 c1 n1 xs1 := ⟨h.o2, h.o1, fun b h2 h1 => h.apart b h1 h2⟩
theorem ownsRow_below {v : Value} {n : Nat} {xs : List Value} (h : w.ownsRow B e 1 v n xs) (hb : Below w.heap.size w w') : w'.ownsRow B e 1 v n xs := h.kept (row := none) ⟨hb.os, hb.tape, hb.output, hb.size, fun k hk _ => hb.block k hk⟩ (by cases v.ownBlock <;> simp)
theorem TwoOwn.below (h : TwoOwn w B e a1 c1 n1 xs1 a2 c2 n2 xs2) (hb : Below w.heap.size w w') : TwoOwn w' B e a1 c1 n1 xs1 a2 c2 n2 xs2 := ⟨ownsRow_below h.o1 hb, ownsRow_below h.o2 hb, h.apart⟩
theorem ownsRow_upd {v : Value} {n g : Nat} {xs : List Value} (h : w.ownsRow B e 1 v n xs) (hu : Upd g w w') (hg : g < B) : w'.ownsRow B e 1 v n xs := h.kept (row := some g) ⟨hu.os, hu.tape, hu.output, Nat.le_of_eq hu.size.symm, fun k hk hne => hu.block k (fun e => hne (by rw [e]))⟩ (by
  cases hv : v.ownBlock with
  | none => exact .inl rfl
  | some b => refine .inr (fun e => ?_); have z := (h.lt b hv).1; have := Option.some.inj e; omega)
theorem TwoOwn.upd {g : Nat} (h : TwoOwn w B e a1 c1 n1 xs1 a2 c2 n2 xs2) (hu : Upd g w w') (hg : g < B) : TwoOwn w' B e a1 c1 n1 xs1 a2 c2 n2 xs2 := ⟨ownsRow_upd h.o1 hu hg, ownsRow_upd h.o2 hu hg, h.apart⟩
end
section
variable {P : Program} {w : World} {a : Act} {K : Act → World → Prop} {Q : Exit → Act → World → Prop} {o : Oper}
/-- An append to the first of the two. -/
theorem wp_app2 {s x : Operand} {t e : TypeId} {z : Value} {bytes B n1 c1 n2 c2 h : Nat} {a1 a2 : Option Addr} {y : Value} {xs1 xs2 : List Value} (ht : P.underlying t = some (.slice e)) (hinfo : (P.info? e).map (fun i => (i.zero, i.size, i.bytes)) = some (some z, 1, bytes)) (hzs : z.cells.size = 1)
    (ho : o.op = .call { callee := .builtin .append, args := #[s, x], argTypes := #[t, t] }) (hs : a.eval s = .slice a1 n1 c1) (hx : a.eval x = .slice (some ⟨h, 0, none⟩) 1 1) (hown : TwoOwn w B e a1 c1 n1 xs1 a2 c2 n2 xs2) (hB : Blk w h e #[y]) (h1 : y.oneCell' = true)
    (hb : (n1 + 1) * bytes ≤ 140737488355328) (hn : n1 + 1 ≤ 9223372036854775807) (hbase : B ≤ w.heap.size)
    (hK : ∀ ra rc w', TwoOwn w' B e ra rc (n1 + 1) (xs1 ++ [y]) a2 c2 n2 xs2 → Chg (fun b => B ≤ b) w w' → K (a.put o.dst (.slice ra (n1 + 1) rc)) w') : o.wp P a w K Q := by
  refine wp_app (m := 1) (news := [y]) ht hinfo hzs (by omega) ho hs hx hown.o1 (SrcIs.ofBlk (cs := [y]) hB) rfl (by simpa using h1) hb hn hbase (fun ra' rc' w' hg => hK _ _ _ ⟨hg.own, ?_, ?_⟩ ⟨hg.grow.os, hg.grow.tape, hg.grow.output, hg.grow.size, fun k hk hSk => hg.grow.block k hk (fun e => hSk (hown.o1.lt k e.symm).1)⟩)
  · refine hown.o2.kept hg.grow ?_
    cases hv : (Value.slice a2 n2 c2).ownBlock with
    | none => exact .inl rfl
    | some b => exact .inr (fun e => hown.apart b e.symm hv)
  · intro b hb2 h2
    rcases hg.at_ with e1 | e1
    · exact hown.apart b (e1 ▸ hb2) h2
    · rw [e1] at hb2; have := Option.some.inj hb2; have := (hown.o2.lt b h2).2; omega
end
def upTo (n : Nat) : List Int := (List.range n).map Int.ofNat
theorem upTo_succ (n : Nat) : upTo (n + 1) = upTo n ++ [(n : Int)] := by simp [upTo, List.range_succ]
theorem upTo_len (n : Nat) : (upTo n).length = n := by simp [upTo]
def ones (n : Nat) : List Int := List.replicate n 1
theorem ones_succ (n : Nat) : ones (n + 1) = ones n ++ [1] := by simp [ones, List.replicate_succ']
theorem ones_len (n : Nat) : (ones n).length = n := by simp [ones]
theorem ints_row {w : World} {B e rc n : Nat} {ra : Option Addr} {L : List Int} (h : w.ownsRow B e 1 (.slice ra n rc) n (L.map (Value.int .i64))) (hL : ∀ x ∈ L, I64 x) : L.length = n ∧ n ≤ rc ∧ rc ≤ maxLen ∧ IsInts w L ra := by
  have hl : L.length = n := by have := h.1; simpa using this
  rcases h.2 with ⟨e, h0⟩ | ⟨g, cap, cur, e, _, hb, hc, hm, hs, hx⟩
  · simp only [Value.slice.injEq] at e
    obtain ⟨rfl, rfl, rfl⟩ := e
    obtain rfl : L = [] := List.length_eq_zero_iff.1 hl
    exact ⟨rfl, Nat.le_refl _, Nat.zero_le _, fun k hk => by simp at hk⟩
  · simp only [Value.slice.injEq, true_and] at e
    obtain ⟨rfl, rfl⟩ := e
    refine ⟨hl, hc, hm, fun k hk => ⟨g, 0, [.int .i64 L[k]], rfl, rfl, fun j hj => ?_, rfl, hL _ (List.getElem_mem hk)⟩⟩
    obtain rfl : j = 0 := by omega
    have hB : Blk w g _ cur := hb
    have e1 : (L.map (Value.int .i64))[k]? = some (.int .i64 L[k]) := by simp [hk]
    rw [← hx, List.getElem?_take] at e1
    split at e1
    · simpa [hB.cell] using e1
    · cases e1
theorem upTo_i64 {n : Nat} (h : n ≤ 1000000) : ∀ x ∈ upTo n, I64 x := by
  intro x hx
  simp only [upTo, List.mem_map, List.mem_range] at hx
  obtain ⟨k, hk, rfl⟩ := hx
  unfold I64
  simp only [Int.ofNat_eq_natCast]
  omega
theorem ones_i64 (n : Nat) : ∀ x ∈ ones n, I64 x := fun x hx => by
  have := List.eq_of_mem_replicate hx
  subst this; unfold I64; omega
end Go.Proofs.Ytmdpiafeiopimaa
