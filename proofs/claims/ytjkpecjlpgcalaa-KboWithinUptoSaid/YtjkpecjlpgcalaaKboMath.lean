/- The order of Knuth and Bendix over a signature: an order, above subterms, stable, monotone, total on ground terms. -/
import Derived.Test.YtjkpecjlpgcalaaKboPlain
namespace Go.Proofs.Ytjkpecjlpgcalaa

namespace T
mutual
def vars : T → List Int
  | .mk f l => if f < 0 then [f] else varsL l
def varsL : List T → List Int
  | [] => []
  | a :: r => vars a ++ varsL r
end

-- A term over arities: variables stand alone.
mutual
def ok (ar : List Int) : T → Bool
  | .mk f l => if f < 0 then l.isEmpty else decide (f < ar.length ∧ ar.getD f.toNat 0 = l.length) && okL ar l
def okL (ar : List Int) : List T → Bool
  | [] => true
  | a :: r => ok ar a && okL ar r
end

theorem okL_mem {ar : List Int} {l : List T} (h : okL ar l = true) : ∀ a ∈ l, ok ar a = true := by
  induction l with
  | nil => simp
  | cons b r ih =>
    simp only [okL, Bool.and_eq_true] at h
    intro a ha
    rcases List.mem_cons.1 ha with rfl | ha
    · exact h.1
    · exact ih h.2 a ha

theorem ok_cases {ar : List Int} {f : Int} {l : List T} (h : ok ar (.mk f l) = true) : f < 0 ∧ l = [] ∨ 0 ≤ f ∧ f < ar.length ∧ ar.getD f.toNat 0 = l.length ∧ okL ar l = true := by
  rw [ok] at h
  by_cases hf : f < 0
  · rw [if_pos hf] at h
    exact .inl ⟨hf, by simpa using h⟩
  · rw [if_neg hf] at h
    simp only [Bool.and_eq_true, decide_eq_true_eq] at h
    exact .inr ⟨by omega, h.1.1, h.1.2, h.2⟩

mutual
theorem often_vars {ar : List Int} {v : Int} (hv : v < 0) : ∀ t, ok ar t = true → often v t = (vars t).count v
  | .mk f l, h => by
    rcases ok_cases h with ⟨hf, rfl⟩ | ⟨hf, _, _, hl⟩
    · rw [often, oftenL, vars, if_pos hf]
      by_cases e : f = v
      · subst e; simp
      · simp [e]
    · rw [often, vars, if_neg (by omega), if_neg (by omega), often_varsL hv l hl]; omega
theorem often_varsL {ar : List Int} {v : Int} (hv : v < 0) : ∀ l, okL ar l = true → oftenL v l = (varsL l).count v
  | [], _ => by simp [oftenL, varsL]
  | a :: r, h => by
    simp only [okL, Bool.and_eq_true] at h
    rw [oftenL, varsL, List.count_append, often_vars hv a h.1, often_varsL hv r h.2]
end

mutual
theorem vars_neg : ∀ t, ∀ x ∈ vars t, x < 0
  | .mk f l => by
    intro x hx
    rw [vars] at hx
    by_cases hf : f < 0
    · rw [if_pos hf] at hx; simp at hx; omega
    · rw [if_neg hf] at hx; exact varsL_neg l x hx
theorem varsL_neg : ∀ l, ∀ x ∈ varsL l, x < 0
  | [] => by simp [varsL]
  | a :: r => by
    intro x hx
    rw [varsL, List.mem_append] at hx
    rcases hx with hx | hx
    · exact vars_neg a x hx
    · exact varsL_neg r x hx
end
end T

namespace Od

/-- No variable more often in t than in s. -/
def Cov (s t : T) : Prop := ∀ v, v < 0 → t.often v ≤ s.often v

mutual
theorem covers_iff {ar : List Int} {s t : T} : ∀ u, T.ok ar u = true → (covers s t u = true ↔ ∀ v ∈ T.vars u, t.often v ≤ s.often v)
  | .mk f l, h => by
    rcases T.ok_cases h with ⟨hf, rfl⟩ | ⟨hf, _, _, hl⟩
    · rw [covers, T.vars, if_pos hf, if_pos hf]; simp
    · rw [covers, T.vars, if_neg (by omega), if_neg (by omega)]; exact coversL_iff l hl
theorem coversL_iff {ar : List Int} {s t : T} : ∀ l, T.okL ar l = true → (coversL s t l = true ↔ ∀ v ∈ T.varsL l, t.often v ≤ s.often v)
  | [], _ => by simp [coversL, T.varsL]
  | a :: r, h => by
    simp only [T.okL, Bool.and_eq_true] at h
    rw [coversL, T.varsL, Bool.and_eq_true, covers_iff a h.1, coversL_iff r h.2]
    simp only [List.mem_append]
    constructor
    · rintro ⟨h1, h2⟩ v (hv | hv)
      · exact h1 v hv
      · exact h2 v hv
    · intro h
      exact ⟨fun v hv => h v (.inl hv), fun v hv => h v (.inr hv)⟩
end

theorem covers_cov {ar : List Int} {s t : T} (ht : T.ok ar t = true) : covers s t t = true ↔ Cov s t := by
  rw [covers_iff t ht]
  constructor
  · intro h v hv
    by_cases hm : v ∈ T.vars t
    · exact h v hm
    · rw [T.often_vars hv t ht, List.count_eq_zero.2 hm]; omega
  · intro h v hv
    exact h v (T.vars_neg t v hv)

/-- An order that may be, over arities. -/
structure Good (o : Od) (ar : List Int) : Prop where
  prec : o.prec.length = ar.length
  weights : o.weights.length = ar.length
  inj : ∀ f g : Int, 0 ≤ f → f < ar.length → 0 ≤ g → g < ar.length → o.rank f = o.rank g → f = g
  var : 1 ≤ o.var ∧ o.var ≤ 1000
  bound : ∀ f : Int, 0 ≤ f → f < ar.length → 0 ≤ o.wsym f ∧ o.wsym f ≤ 1000
  const : ∀ f : Int, 0 ≤ f → f < ar.length → ar.getD f.toNat 0 = 0 → o.var ≤ o.wsym f
  one : ∀ f : Int, 0 ≤ f → f < ar.length → ar.getD f.toNat 0 = 1 → o.wsym f = 0 → ∀ g : Int, 0 ≤ g → g < ar.length → o.rank g ≤ o.rank f

mutual
def wt (o : Od) : T → Int
  | .mk f l => o.wsym f + wtL o l
def wtL (o : Od) : List T → Int
  | [] => 0
  | a :: r => wt o a + wtL o r
end


theorem Good.clamp {o : Od} {ar : List Int} (G : Good o ar) {f : Int} (h : f < 0 ∨ 0 ≤ f ∧ f < ar.length) : Od.clamp (o.wsym f) = o.wsym f := by
  unfold Od.clamp most
  rcases h with h | ⟨h1, h2⟩
  · have := G.var; unfold wsym; rw [if_pos h]; omega
  · have := G.bound f h1 h2; omega

mutual
theorem Good.raw_wt {o : Od} {ar : List Int} (G : Good o ar) : ∀ t, T.ok ar t = true → o.raw t = o.wt t
  | .mk f l, h => by
    rcases T.ok_cases h with ⟨hf, rfl⟩ | ⟨h0, h1, _, hl⟩
    · rw [raw, wt, G.clamp (.inl hf)]; simp [rawL, wtL]
    · rw [raw, wt, G.clamp (.inr ⟨h0, h1⟩), Good.raw_wtL G l hl]
theorem Good.raw_wtL {o : Od} {ar : List Int} (G : Good o ar) : ∀ l, T.okL ar l = true → o.rawL l = o.wtL l
  | [], _ => by simp [rawL, wtL]
  | a :: r, h => by
    simp only [T.okL, Bool.and_eq_true] at h
    rw [rawL, wtL, Good.raw_wt G a h.1, Good.raw_wtL G r h.2]
end

mutual
theorem Good.wt_le {o : Od} {ar : List Int} (G : Good o ar) : ∀ t, T.ok ar t = true → o.wt t ≤ 1000 * t.size
  | .mk f l, h => by
    rcases T.ok_cases h with ⟨hf, rfl⟩ | ⟨h0, h1, _, hl⟩
    · have := G.var; rw [wt, T.size, wtL, T.sizeL]; unfold wsym; rw [if_pos hf]; omega
    · have := G.bound f h0 h1; have := Good.wtL_le G l hl; rw [wt, T.size]; omega
theorem Good.wtL_le {o : Od} {ar : List Int} (G : Good o ar) : ∀ l, T.okL ar l = true → o.wtL l ≤ 1000 * T.sizeL l
  | [], _ => by simp [wtL, T.sizeL]
  | a :: r, h => by
    simp only [T.okL, Bool.and_eq_true] at h
    have := Good.wt_le G a h.1; have := Good.wtL_le G r h.2
    rw [wtL, T.sizeL]; omega
end

mutual
theorem Good.var_le {o : Od} {ar : List Int} (G : Good o ar) : ∀ t, T.ok ar t = true → o.var ≤ o.wt t
  | .mk f l, h => by
    rcases T.ok_cases h with ⟨hf, rfl⟩ | ⟨h0, h1, h2, hl⟩
    · rw [wt, wtL]; unfold wsym; rw [if_pos hf]; omega
    · have b := G.bound f h0 h1
      cases l with
      | nil => have := G.const f h0 h1 (by simpa using h2); rw [wt, wtL]; omega
      | cons a r =>
        simp only [T.okL, Bool.and_eq_true] at hl
        have := Good.var_le G a hl.1; have := Good.wtL_nonneg G r hl.2
        rw [wt, wtL]; omega
theorem Good.wtL_nonneg {o : Od} {ar : List Int} (G : Good o ar) : ∀ l, T.okL ar l = true → 0 ≤ o.wtL l
  | [], _ => by simp [wtL]
  | a :: r, h => by
    simp only [T.okL, Bool.and_eq_true] at h
    have := Good.var_le G a h.1; have := Good.wtL_nonneg G r h.2; have := G.var
    rw [wtL]; omega
end

theorem Good.weight_wt {o : Od} {ar : List Int} (G : Good o ar) {t : T} (h : T.ok ar t = true) (hs : t.size ≤ 2000000) : o.weight t = o.wt t := by
  have := G.raw_wt t h
  have := G.wt_le t h
  unfold weight most
  omega

mutual
def kb (o : Od) : T → T → Bool
  | .mk f l, t =>
    covers (.mk f l) t t && (decide (o.wt t < o.wt (.mk f l)) || (decide (o.wt (.mk f l) = o.wt t) &&
      (if f < 0 then false else if t.f < 0 then around f t.f (.mk f l) else if f ≠ t.f then decide (o.rank t.f < o.rank f) else kbL o l t.args)))
def kbL (o : Od) : List T → List T → Bool
  | [], _ => false
  | _ :: _, [] => true
  | a :: r, b :: q => if T.same a b then kbL o r q else kb o a b
end

mutual
theorem Good.above_kb {o : Od} {ar : List Int} (G : Good o ar) : ∀ s t, T.ok ar s = true → T.ok ar t = true → s.size ≤ 2000000 → t.size ≤ 2000000 → o.above s t = o.kb s t
  | .mk f l, t, hs, ht, ss, st => by
    rw [above, kb, G.weight_wt hs ss, G.weight_wt ht st]
    rcases T.ok_cases hs with ⟨hf, rfl⟩ | ⟨h0, h1, _, hl⟩
    · simp [hf]
    · have := t.size_eq
      rw [T.size] at ss
      have : t.f < 0 ∨ T.okL ar t.args = true := by
        rw [← T.eta t] at ht
        rcases T.ok_cases ht with ⟨h, _⟩ | ⟨_, _, _, h⟩
        · exact .inl h
        · exact .inr h
      by_cases hg : t.f < 0
      · simp [hg]
      · rw [Good.aboveL_kb G l t.args hl (by rcases this with h | h; exact absurd h hg; exact h) (by omega) (by omega)]
theorem Good.aboveL_kb {o : Od} {ar : List Int} (G : Good o ar) : ∀ l q, T.okL ar l = true → T.okL ar q = true → T.sizeL l ≤ 2000000 → T.sizeL q ≤ 2000000 → o.aboveL l q = o.kbL l q
  | [], _, _, _, _, _ => by rw [aboveL, kbL]
  | _ :: _, [], _, _, _, _ => by rw [aboveL, kbL]
  | a :: r, b :: q, h1, h2, h3, h4 => by
    simp only [T.okL, Bool.and_eq_true] at h1 h2
    rw [T.sizeL] at h3 h4
    rw [aboveL, kbL, Good.aboveL_kb G r q h1.2 h2.2 (by omega) (by omega), Good.above_kb G a b h1.1 h2.1 (by omega) (by omega)]
end

/-- What decides between terms that weigh the same. -/
def Top (o : Od) (s t : T) : Prop :=
  0 ≤ s.f ∧ (t.f < 0 ∧ around s.f t.f s = true ∨ 0 ≤ t.f ∧ (s.f ≠ t.f ∧ o.rank t.f < o.rank s.f ∨ s.f = t.f ∧ o.kbL s.args t.args = true))

theorem kb_iff {o : Od} {ar : List Int} {s t : T} (ht : T.ok ar t = true) : o.kb s t = true ↔ Cov s t ∧ (o.wt t < o.wt s ∨ o.wt s = o.wt t ∧ o.Top s t) := by
  rw [← covers_cov ht]
  obtain ⟨f, l⟩ := s
  rw [kb]
  simp only [Bool.and_eq_true, Bool.or_eq_true, decide_eq_true_eq]
  refine and_congr_right fun _ => or_congr_right (and_congr_right fun _ => ?_)
  unfold Top
  simp only [T.f_mk, T.args_mk]
  by_cases h1 : f < 0
  · simp [h1]; omega
  · by_cases h2 : t.f < 0
    · have e1 : 0 ≤ f := by omega
      have e2 : ¬ 0 ≤ t.f := by omega
      simp [h1, h2, e1, e2]
    · by_cases h3 : f = t.f
      · have e : 0 ≤ t.f := by omega
        simp [h2, h3, e]
      · simp [h2, h3]; omega

theorem kbL_refl (o : Od) : ∀ l, o.kbL l l = false
  | [] => by rw [kbL]
  | a :: r => by rw [kbL, if_pos (T.same_refl a), kbL_refl o r]

theorem kb_irrefl (o : Od) (s : T) : o.kb s s = false := by
  obtain ⟨f, l⟩ := s
  rw [kb]
  by_cases h : f < 0
  · simp [h]
  · simp [h, kbL_refl]

theorem Cov.trans {s t u : T} (h : Cov s t) (k : Cov t u) : Cov s u := fun v hv => Nat.le_trans (k v hv) (h v hv)

theorem around_iff {f v : Int} {g : Int} {l : List T} : around f v (.mk g l) = true ↔ g = f ∧ ∃ a, l = [a] ∧ (a.f = v ∨ around f v a = true) := by
  match l with
  | [] => simp [around]
  | [a] => simp [around]
  | a :: b :: r => simp [around]

theorem ok_around {ar : List Int} {s : T} (h : T.ok ar s = true) {f v : Int} (hf : 0 ≤ f) (ha : around f v s = true) : s.f = f ∧ ar.getD f.toNat 0 = 1 ∧ ∃ a, s = .mk f [a] ∧ T.ok ar a = true ∧ (a.f = v ∨ around f v a = true) := by
  obtain ⟨g, l⟩ := s
  obtain ⟨rfl, a, rfl, h3⟩ := around_iff.1 ha
  rcases T.ok_cases h with ⟨h0, _⟩ | ⟨_, _, h1, h2⟩
  · omega
  · simp only [T.okL, Bool.and_eq_true] at h2
    exact ⟨rfl, by simpa using h1, a, rfl, h2.1, h3⟩


/-- Symbols around a variable that weigh as it does. -/
theorem Good.around_wt {o : Od} {ar : List Int} (G : Good o ar) : ∀ t, T.ok ar t = true → ∀ f v : Int, 0 ≤ f → v < 0 → around f v t = true → 0 ≤ o.wsym f → o.var + o.wsym f ≤ o.wt t := by
  intro t
  induction t using T.ind with
  | h g l ih =>
    intro ht f v hf hv ha hw
    obtain ⟨rfl, h1, a, e, h2, h3⟩ := ok_around ht hf ha
    simp only [T.mk.injEq, true_and, T.f_mk] at e
    subst e
    have := G.var_le a h2
    rw [wt, wtL, wtL]
    simp only [T.f_mk] at *
    omega

theorem Good.kb_var {o : Od} {ar : List Int} (G : Good o ar) {x : Int} {s : T} (hs : T.ok ar s = true) (hx : x < 0) (h : o.kb s (.mk x []) = true) (hw : o.wt s = o.var) : 0 ≤ s.f ∧ around s.f x s = true ∧ o.wsym s.f = 0 ∧ ∀ g : Int, 0 ≤ g → g < ar.length → o.rank g ≤ o.rank s.f := by
  have ok : T.ok ar (.mk x []) = true := by rw [T.ok, if_pos hx]; rfl
  have hwx : o.wt (.mk x []) = o.var := by rw [wt, wtL]; unfold wsym; rw [if_pos hx]; omega
  obtain ⟨_, h⟩ := (kb_iff ok).1 h
  rcases h with h | ⟨_, h0, h⟩
  · omega
  · rcases h with ⟨_, h⟩ | ⟨h, _⟩
    · obtain ⟨_, h1, a, e, h2, h3⟩ := ok_around hs h0 h
      have hlt : s.f < ar.length := by
        rw [← T.eta s] at hs
        rcases T.ok_cases hs with ⟨h, _⟩ | ⟨_, h, _⟩ <;> omega
      have b := G.bound s.f h0 hlt
      have := G.around_wt s hs s.f x h0 hx h b.1
      exact ⟨h0, h, by omega, G.one s.f h0 hlt h1 (by omega)⟩
    · simp only [T.f_mk] at h; omega

theorem kbL_trans {o : Od} {ar : List Int} : ∀ l q r : List T, l.length = q.length → q.length = r.length → T.okL ar l = true → T.okL ar q = true → T.okL ar r = true →
    (∀ a ∈ l, ∀ t u, T.ok ar a = true → T.ok ar t = true → T.ok ar u = true → o.kb a t = true → o.kb t u = true → o.kb a u = true) → o.kbL l q = true → o.kbL q r = true → o.kbL l r = true
  | [], _, _, _, _, _, _, _, _, h, _ => by simp [kbL] at h
  | a :: l, [], _, h, _, _, _, _, _, _, _ => by simp at h
  | a :: l, b :: q, [], _, h, _, _, _, _, _, _ => by simp at h
  | a :: l, b :: q, c :: r, h1, h2, k1, k2, k3, ih, h3, h4 => by
    simp only [T.okL, Bool.and_eq_true] at k1 k2 k3
    rw [kbL] at h3 h4 ⊢
    by_cases e1 : T.same a b = true
    · rw [if_pos e1] at h3
      obtain rfl := (T.same_iff _ _).1 e1
      by_cases e2 : T.same a c = true
      · rw [if_pos e2] at h4 ⊢
        exact kbL_trans l q r (by simpa using h1) (by simpa using h2) k1.2 k2.2 k3.2 (fun x hx => ih x (by simp [hx])) h3 h4
      · rw [if_neg e2] at h4 ⊢
        exact h4
    · rw [if_neg e1] at h3
      by_cases e2 : T.same b c = true
      · obtain rfl := (T.same_iff _ _).1 e2
        rw [if_neg e1]; exact h3
      · rw [if_neg e2] at h4
        have := ih a (by simp) b c k1.1 k2.1 k3.1 h3 h4
        have e3 : ¬ T.same a c = true := by
          intro e
          obtain rfl := (T.same_iff _ _).1 e
          rw [kb_irrefl] at this; cases this
        rw [if_neg e3]; exact this

theorem Good.kb_trans {o : Od} {ar : List Int} (G : Good o ar) : ∀ s t u, T.ok ar s = true → T.ok ar t = true → T.ok ar u = true → o.kb s t = true → o.kb t u = true → o.kb s u = true := by
  intro s
  induction s using T.ind with
  | h f l ih =>
  intro t u ks kt ku h k
  have h' := h
  have k' := k
  obtain ⟨c1, h⟩ := (kb_iff kt).1 h
  obtain ⟨c2, k⟩ := (kb_iff ku).1 k
  refine (kb_iff ku).2 ⟨c1.trans c2, ?_⟩
  rcases h with h | ⟨h1, h2, h3⟩
  · rcases k with k | ⟨k1, _⟩ <;> exact .inl (by omega)
  rcases k with k | ⟨k1, k2, k3⟩
  · exact .inl (by omega)
  refine .inr ⟨by omega, h2, ?_⟩
  simp only [T.f_mk, T.args_mk] at h2 h3 ⊢
  rcases h3 with ⟨h3, _⟩ | ⟨_, h3⟩
  · omega
  have hfl : f < ar.length ∧ ar.getD f.toNat 0 = l.length ∧ T.okL ar l = true := by
    rcases T.ok_cases ks with ⟨h, _⟩ | ⟨_, h, h'⟩
    · omega
    · exact ⟨h, h'⟩
  have htl : t.f < ar.length ∧ ar.getD t.f.toNat 0 = t.args.length ∧ T.okL ar t.args = true := by
    rw [← T.eta t] at kt
    rcases T.ok_cases kt with ⟨h, _⟩ | ⟨_, h, h'⟩
    · omega
    · exact ⟨h, h'⟩
  rcases k3 with ⟨k3, k4⟩ | ⟨k3, k4⟩
  · -- u is a variable
    obtain ⟨x, m⟩ := u
    simp only [T.f_mk] at k3 k4 ⊢
    have hm : m = [] := by
      rcases T.ok_cases ku with ⟨_, h⟩ | ⟨h, _⟩
      · exact h
      · omega
    subst hm
    have hwx : o.wt (.mk x []) = o.var := by rw [wt, wtL]; unfold wsym; rw [if_pos k3]; omega
    obtain ⟨_, _, z1, z2⟩ := G.kb_var kt k3 k' (by omega)
    refine .inl ⟨k3, ?_⟩
    rcases h3 with ⟨h3, h4⟩ | ⟨h3, h4⟩
    · have := z2 f h2 hfl.1; omega
    · subst h3
      obtain ⟨_, a1, b, e, kb, hb⟩ := ok_around kt k2 k4
      have e1 : t.args = [b] := by rw [e]; rfl
      rw [e1] at h4
      rw [a1] at hfl
      obtain ⟨a, rfl⟩ : ∃ a, l = [a] := by
        match l, hfl.2.1 with
        | [a], _ => exact ⟨a, rfl⟩
      have ka : T.ok ar a = true := by have := hfl.2.2; simp only [T.okL, Bool.and_eq_true] at this; exact this.1
      rw [kbL] at h4
      by_cases es : T.same a b = true
      · rw [if_pos es] at h4; simp [kbL] at h4
      rw [if_neg es] at h4
      have wa : o.wt a = o.var := by rw [wt, wtL, wtL] at h1; omega
      have hax : o.kb a (.mk x []) = true := by
        rcases hb with hb | hb
        · have : b = .mk x [] := by
            obtain ⟨y, m⟩ := b
            simp only [T.f_mk] at hb
            subst hb
            rcases T.ok_cases kb with ⟨_, h⟩ | ⟨h, _⟩
            · rw [h]
            · omega
          rw [← this]; exact h4
        · refine ih a (by simp) b _ ka kb ku h4 ((kb_iff ku).2 ⟨?_, .inr ⟨?_, ?_, .inl ⟨k3, ?_⟩⟩⟩)
          · intro v hv
            have := c2 v hv
            have e2 : t.often v = b.often v := by rw [e, T.often, T.oftenL, T.oftenL, if_neg (by omega)]; omega
            omega
          · rw [e, wt, wtL, wtL] at k1; omega
          · have := (ok_around kb k2 hb).1; omega
          · have := (ok_around kb k2 hb).1
            rw [this]; exact hb
      obtain ⟨y0, y1, y2, y3⟩ := G.kb_var ka k3 hax wa
      have haf : a.f < ar.length := by
        rw [← T.eta a] at ka
        rcases T.ok_cases ka with ⟨h, _⟩ | ⟨_, h, _⟩ <;> omega
      have eq : a.f = t.f := G.inj _ _ y0 haf k2 htl.1 (by have := z2 a.f y0 haf; have := y3 t.f k2 htl.1; omega)
      refine around_iff.2 ⟨rfl, a, rfl, .inr ?_⟩
      rw [← eq]; exact y1
  · -- u is none
    refine .inr ⟨k3, ?_⟩
    rcases h3 with ⟨h3, h4⟩ | ⟨h3, h4⟩
    · rcases k4 with ⟨k4, k5⟩ | ⟨k4, k5⟩
      · refine .inl ⟨?_, by omega⟩
        intro e; rw [e] at h4; omega
      · exact .inl ⟨by omega, by rw [← k4]; exact h4⟩
    · rcases k4 with ⟨k4, k5⟩ | ⟨k4, k5⟩
      · exact .inl ⟨by omega, by rw [h3]; exact k5⟩
      · have hul : ar.getD u.f.toNat 0 = u.args.length ∧ T.okL ar u.args = true := by
          rw [← T.eta u] at ku
          rcases T.ok_cases ku with ⟨h, _⟩ | ⟨_, _, h'⟩
          · omega
          · exact h'
        refine .inr ⟨by omega, kbL_trans l t.args u.args ?_ ?_ hfl.2.2 htl.2.2 hul.2 (fun a ha t u => ih a ha t u) h4 k5⟩
        · have h5 := hfl.2.1; have h6 := htl.2.1; rw [h3] at h5; omega
        · have h5 := hul.1; have h6 := htl.2.1; rw [k4] at h6; omega

end Od
end Go.Proofs.Ytjkpecjlpgcalaa
