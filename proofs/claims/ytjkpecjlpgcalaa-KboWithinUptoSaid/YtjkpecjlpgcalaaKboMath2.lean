/- The order of Knuth and Bendix over a signature: above subterms, stable, monotone, total on ground terms. -/
import Derived.Test.YtjkpecjlpgcalaaKboMath
namespace Go.Proofs.Ytjkpecjlpgcalaa

namespace T
theorem oftenL_append (v : Int) : ∀ l q : List T, oftenL v (l ++ q) = oftenL v l + oftenL v q
  | [], q => by simp [oftenL]
  | a :: r, q => by rw [List.cons_append, oftenL, oftenL, oftenL_append v r q]; omega

theorem often_le_oftenL (v : Int) : ∀ (l : List T) (a : T), a ∈ l → often v a ≤ oftenL v l
  | [], a, h => by simp at h
  | b :: r, a, h => by
    rw [oftenL]
    rcases List.mem_cons.1 h with rfl | h
    · omega
    · have := often_le_oftenL v r a h; omega

theorem okL_append {ar : List Int} : ∀ l q : List T, okL ar (l ++ q) = (okL ar l && okL ar q)
  | [], q => by simp [okL]
  | a :: r, q => by rw [List.cons_append, okL, okL, okL_append r q, Bool.and_assoc]

theorem ok_args {ar : List Int} {f : Int} {l : List T} (h : ok ar (.mk f l) = true) : ∀ a ∈ l, ok ar a = true := by
  rcases ok_cases h with ⟨_, rfl⟩ | ⟨_, _, _, h⟩
  · simp
  · exact okL_mem h

/-- A part of a term, not the whole. -/
inductive Part : T → T → Prop where
  | arg {f : Int} {l : List T} {a : T} (h : a ∈ l) : Part a (.mk f l)
  | deep {f : Int} {l : List T} {a b : T} (h : b ∈ l) (k : Part a b) : Part a (.mk f l)

-- Terms put in for variables.
mutual
def put (s : List T) : T → T
  | .mk f l => if f < 0 then s.getD (-1 - f).toNat (.mk f l) else .mk f (putL s l)
def putL (s : List T) : List T → List T
  | [] => []
  | a :: r => put s a :: putL s r
end
theorem putL_map (s : List T) : ∀ l, putL s l = l.map (put s)
  | [] => rfl
  | a :: r => by rw [putL, putL_map s r, List.map_cons]

/-- A term put in at a place. -/
def into : T → List Nat → T → T
  | _, [], s => s
  | .mk f l, i :: p, s => .mk f (l.set i (into (l.getD i (.mk f l)) p s))

theorem vars_mem {ar : List Int} {s : T} {sg : List T} {x : Int} : ok ar s = true → ok ar (put sg s) = true → x ∈ vars s → ok ar (put sg (.mk x [])) = true := by
  induction s using T.ind with
  | h f l ih =>
    intro h1 h2 hx
    rcases ok_cases h1 with ⟨hf, rfl⟩ | ⟨hf, _, _, hl⟩
    · rw [vars, if_pos hf] at hx
      simp at hx
      subst hx
      exact h2
    · rw [vars, if_neg (by omega)] at hx
      rw [put, if_neg (by omega)] at h2
      have h3 := ok_args h2
      rw [putL_map] at h3
      have key : ∀ q : List T, x ∈ varsL q → ∃ a ∈ q, x ∈ vars a := by
        intro q
        induction q with
        | nil => intro h; simp [varsL] at h
        | cons b r ihr =>
          intro h
          rw [varsL, List.mem_append] at h
          rcases h with h | h
          · exact ⟨b, by simp, h⟩
          · obtain ⟨a, ha, hb⟩ := ihr h
            exact ⟨a, by simp [ha], hb⟩
      obtain ⟨a, ha, hxa⟩ := key l hx
      exact ih a ha (okL_mem hl a ha) (h3 _ (List.mem_map.2 ⟨a, ha, rfl⟩)) hxa

mutual
theorem often_put {ar : List Int} {sg : List T} {v : Int} (hv : v < 0) : ∀ t, ok ar t = true → often v (put sg t) = ((vars t).map fun x => often v (put sg (.mk x []))).sum
  | .mk f l, h => by
    rcases ok_cases h with ⟨hf, rfl⟩ | ⟨hf, _, _, hl⟩
    · rw [vars, if_pos hf]; simp
    · rw [put, vars, if_neg (by omega), if_neg (by omega), often, if_neg (by omega), often_putL hv l hl]; omega
theorem often_putL {ar : List Int} {sg : List T} {v : Int} (hv : v < 0) : ∀ l, okL ar l = true → oftenL v (putL sg l) = ((varsL l).map fun x => often v (put sg (.mk x []))).sum
  | [], _ => by simp [putL, oftenL, varsL]
  | a :: r, h => by
    simp only [okL, Bool.and_eq_true] at h
    rw [putL, oftenL, varsL, List.map_append, List.sum_append, often_put hv a h.1, often_putL hv r h.2]
end

theorem sum_le_of_count (g : Int → Nat) : ∀ (a b : List Int), (∀ v, a.count v ≤ b.count v) → (a.map g).sum ≤ (b.map g).sum
  | [], b, _ => by simp
  | x :: a, b, h => by
    have hx : x ∈ b := by
      have := h x
      rw [List.count_cons_self] at this
      exact List.count_pos_iff.1 (by omega)
    have p := List.perm_cons_erase hx
    have := sum_le_of_count g a (b.erase x) (fun v => by
      have h1 := h v
      have h2 := p.count_eq v
      rw [List.count_cons] at h1 h2
      omega)
    have e : (b.map g).sum = ((x :: b.erase x).map g).sum := (p.map g).sum_nat
    rw [e]
    simp only [List.map_cons, List.sum_cons]
    omega
end T

namespace Od

theorem Cov.arg {f : Int} {l : List T} {a : T} (h : a ∈ l) : Cov (.mk f l) a := fun v _ => by
  have := T.often_le_oftenL v l a h
  rw [T.often]; omega

theorem Good.wt_arg {o : Od} {ar : List Int} (G : Good o ar) : ∀ l : List T, T.okL ar l = true → ∀ a ∈ l, o.wt a ≤ o.wtL l ∧ (2 ≤ l.length → o.wt a + 1 ≤ o.wtL l)
  | [], _, a, h => by simp at h
  | b :: r, h, a, ha => by
    simp only [T.okL, Bool.and_eq_true] at h
    have := G.var
    have h1 := G.var_le b h.1
    have h2 := G.wtL_nonneg r h.2
    rw [wtL]
    rcases List.mem_cons.1 ha with rfl | ha
    · refine ⟨by omega, fun hl => ?_⟩
      cases r with
      | nil => simp at hl
      | cons c q =>
        simp only [T.okL, Bool.and_eq_true] at h
        have := G.var_le c h.2.1
        have := G.wtL_nonneg q h.2.2
        rw [wtL]; omega
    · have := (Good.wt_arg G r h.2 a ha).1
      exact ⟨by omega, fun _ => by omega⟩

theorem wt_var {o : Od} {x : Int} (h : x < 0) : o.wt (.mk x []) = o.var := by rw [wt, wtL]; unfold wsym; rw [if_pos h]; omega

theorem Good.kb_arg {o : Od} {ar : List Int} (G : Good o ar) : ∀ (t : T) (f : Int) (l : List T), t ∈ l → T.ok ar (.mk f l) = true → o.kb (.mk f l) t = true := by
  intro t
  induction t using T.ind with
  | h g q ih =>
    intro f l hm hok
    have ht := T.ok_args hok _ hm
    rcases T.ok_cases hok with ⟨_, rfl⟩ | ⟨h0, h1, h2, h3⟩
    · simp at hm
    have hb := G.bound f h0 h1
    refine (kb_iff ht).2 ⟨Cov.arg hm, ?_⟩
    have hw := G.wt_arg l h3 _ hm
    have e1 : o.wt (.mk f l) = o.wsym f + o.wtL l := by rw [wt]
    by_cases hlen : 2 ≤ l.length
    · exact .inl (by have := hw.2 hlen; omega)
    · obtain rfl : l = [.mk g q] := by
        match l, hm with
        | [x], hm => simp at hm; rw [hm]
        | x :: y :: r, _ => simp at hlen
      have e2 : o.wtL [.mk g q] = o.wt (.mk g q) := by rw [wtL, wtL]; omega
      by_cases hz : o.wsym f = 0
      · refine .inr ⟨by omega, h0, ?_⟩
        have top := G.one f h0 h1 (by simpa using h2) hz
        simp only [T.f_mk, T.args_mk]
        by_cases hg : g < 0
        · exact .inl ⟨hg, around_iff.2 ⟨rfl, _, rfl, .inl rfl⟩⟩
        · refine .inr ⟨by omega, ?_⟩
          have hgl : g < ar.length ∧ ar.getD g.toNat 0 = q.length := by
            rcases T.ok_cases ht with ⟨h, _⟩ | ⟨_, h, h', _⟩
            · omega
            · exact ⟨h, h'⟩
          by_cases e : f = g
          · refine .inr ⟨e, ?_⟩
            subst e
            have hq : q.length = 1 := by rw [hgl.2] at h2; simp at h2; omega
            obtain ⟨b, rfl⟩ : ∃ b, q = [b] := by
              match q, hq with
              | [b], _ => exact ⟨b, rfl⟩
            have kbb := ih b (by simp) f [b] (by simp) ht
            have hne : ¬ T.same (.mk f [b]) b = true := by
              intro e
              have := (T.same_iff _ _).1 e
              rw [this, kb_irrefl] at kbb; cases kbb
            rw [kbL, if_neg hne]
            exact kbb
          · have := top g (by omega) hgl.1
            refine .inl ⟨e, ?_⟩
            rcases Int.lt_or_le (o.rank g) (o.rank f) with h | h
            · exact h
            · exact absurd (G.inj f g h0 h1 (by omega) hgl.1 (by omega)) e
      · exact .inl (by omega)

/-- A term is above its parts. -/
theorem Good.kb_part {o : Od} {ar : List Int} (G : Good o ar) {s t : T} (h : T.Part s t) : T.ok ar t = true → o.kb t s = true ∧ T.ok ar s = true := by
  induction h with
  | arg h => exact fun k => ⟨G.kb_arg _ _ _ h k, T.ok_args k _ h⟩
  | @deep f l a b h k ih =>
    intro hok
    have hb := T.ok_args hok _ h
    obtain ⟨h1, h2⟩ := ih hb
    exact ⟨G.kb_trans _ b _ hok hb h2 (G.kb_arg _ _ _ h hok) h1, h2⟩

mutual
theorem wt_put {o : Od} {ar : List Int} {sg : List T} : ∀ t, T.ok ar t = true → o.wt (T.put sg t) = o.wt t + ((T.vars t).map fun x => o.wt (T.put sg (.mk x [])) - o.var).sum
  | .mk f l, h => by
    rcases T.ok_cases h with ⟨hf, rfl⟩ | ⟨hf, _, _, hl⟩
    · rw [T.vars, if_pos hf, wt_var hf]; simp; omega
    · rw [T.put, T.vars, if_neg (by omega), if_neg (by omega), wt, wt, wtL_put l hl]; omega
theorem wtL_put {o : Od} {ar : List Int} {sg : List T} : ∀ l, T.okL ar l = true → o.wtL (T.putL sg l) = o.wtL l + ((T.varsL l).map fun x => o.wt (T.put sg (.mk x [])) - o.var).sum
  | [], _ => by simp [T.putL, wtL, T.varsL]
  | a :: r, h => by
    simp only [T.okL, Bool.and_eq_true] at h
    rw [T.putL, wtL, wtL, T.varsL, List.map_append, List.sum_append, wt_put a h.1, wtL_put r h.2]; omega
end

theorem sum_toNat (g : Int → Int) : ∀ l : List Int, (∀ x ∈ l, 0 ≤ g x) → (l.map g).sum = ((l.map fun x => (g x).toNat).sum : Nat)
  | [], _ => by simp
  | x :: r, h => by
    have := h x (by simp)
    simp only [List.map_cons, List.sum_cons, sum_toNat g r (fun y hy => h y (by simp [hy]))]
    omega

theorem count_of_cov {ar : List Int} {s t : T} (hs : T.ok ar s = true) (ht : T.ok ar t = true) (h : Cov s t) (v : Int) : (T.vars t).count v ≤ (T.vars s).count v := by
  by_cases hv : v < 0
  · have := h v hv
    rwa [T.often_vars hv s hs, T.often_vars hv t ht] at this
  · have : v ∉ T.vars t := fun hm => hv (T.vars_neg t v hm)
    rw [List.count_eq_zero.2 this]; omega

theorem Cov.put {ar : List Int} {s t : T} (sg : List T) (hs : T.ok ar s = true) (ht : T.ok ar t = true) (h : Cov s t) : Cov (s.put sg) (t.put sg) := fun v hv => by
  rw [T.often_put hv s hs, T.often_put hv t ht]
  exact T.sum_le_of_count _ _ _ (count_of_cov hs ht h)

theorem Good.wt_put_le {o : Od} {ar : List Int} (G : Good o ar) {s t : T} {sg : List T} (hs : T.ok ar s = true) (ht : T.ok ar t = true) (ks : T.ok ar (s.put sg) = true) (h : Cov s t) : o.wt (t.put sg) - o.wt t ≤ o.wt (s.put sg) - o.wt s := by
  have hx : ∀ x ∈ T.vars s, 0 ≤ o.wt (T.put sg (.mk x [])) - o.var := fun x hx => by
    have := G.var_le _ (T.vars_mem hs ks hx); omega
  have hc := count_of_cov hs ht h
  have hx2 : ∀ x ∈ T.vars t, 0 ≤ o.wt (T.put sg (.mk x [])) - o.var := fun x hm => hx x (by
    have h1 := hc x
    have h2 := List.count_pos_iff.2 hm
    exact List.count_pos_iff.1 (by omega))
  rw [wt_put s hs, wt_put t ht, sum_toNat _ _ hx, sum_toNat _ _ hx2]
  have := T.sum_le_of_count (fun x => (o.wt (T.put sg (.mk x [])) - o.var).toNat) _ _ hc
  omega

theorem Good.around_put {o : Od} {ar : List Int} (G : Good o ar) {sg : List T} {f x : Int} (hf : 0 ≤ f) (hx : x < 0) : ∀ s : T, T.ok ar s = true → T.ok ar (s.put sg) = true → around f x s = true → o.kb (s.put sg) (T.put sg (.mk x [])) = true ∧ T.ok ar (T.put sg (.mk x [])) = true := by
  intro s
  induction s using T.ind with
  | h g l ih =>
    intro hs hp ha
    obtain ⟨rfl, _, a, e, ka, hor⟩ := ok_around hs hf ha
    simp only [T.f_mk, T.mk.injEq, true_and] at *
    subst e
    have e1 : T.put sg (.mk g [a]) = .mk g [T.put sg a] := by rw [T.put, if_neg (by omega), T.putL, T.putL]
    rw [e1] at hp ⊢
    have kp := T.ok_args hp (T.put sg a) (by simp)
    have k1 := G.kb_arg (T.put sg a) g [T.put sg a] (by simp) hp
    rcases hor with h | h
    · have : a = .mk x [] := by
        obtain ⟨y, m⟩ := a
        simp only [T.f_mk] at h
        subst h
        rcases T.ok_cases ka with ⟨_, h⟩ | ⟨h, _⟩
        · rw [h]
        · omega
      subst this
      exact ⟨k1, kp⟩
    · obtain ⟨h1, h2⟩ := ih a (by simp) ka kp h
      exact ⟨G.kb_trans _ _ _ hp kp h2 k1 h1, h2⟩

theorem kbL_put {o : Od} {ar : List Int} {sg : List T} : ∀ l q : List T, T.okL ar l = true → T.okL ar q = true → T.okL ar (T.putL sg l) = true → T.okL ar (T.putL sg q) = true →
    (∀ a ∈ l, ∀ t, T.ok ar a = true → T.ok ar t = true → T.ok ar (a.put sg) = true → T.ok ar (t.put sg) = true → o.kb a t = true → o.kb (a.put sg) (t.put sg) = true) →
    o.kbL l q = true → o.kbL (T.putL sg l) (T.putL sg q) = true
  | [], _, _, _, _, _, _, h => by simp [kbL] at h
  | a :: l, [], _, _, _, _, _, _ => by rw [T.putL, T.putL, kbL]
  | a :: l, b :: q, h1, h2, h3, h4, ih, h => by
    rw [T.putL] at h3 h4 ⊢
    rw [T.putL]
    simp only [T.okL, Bool.and_eq_true] at h1 h2 h3 h4
    rw [kbL] at h ⊢
    by_cases e : T.same a b = true
    · rw [if_pos e] at h
      obtain rfl := (T.same_iff _ _).1 e
      rw [if_pos (T.same_refl _)]
      exact kbL_put l q h1.2 h2.2 h3.2 h4.2 (fun x hx => ih x (by simp [hx])) h
    · rw [if_neg e] at h
      have := ih a (by simp) b h1.1 h2.1 h3.1 h4.1 h
      have e2 : ¬ T.same (a.put sg) (b.put sg) = true := by
        intro e
        rw [(T.same_iff _ _).1 e, kb_irrefl] at this; cases this
      rw [if_neg e2]; exact this

/-- What is above stays above. -/
theorem Good.kb_put {o : Od} {ar : List Int} (G : Good o ar) (sg : List T) : ∀ s t : T, T.ok ar s = true → T.ok ar t = true → T.ok ar (s.put sg) = true → T.ok ar (t.put sg) = true → o.kb s t = true → o.kb (s.put sg) (t.put sg) = true := by
  intro s
  induction s using T.ind with
  | h f l ih =>
    intro t hs ht ps pt h
    obtain ⟨c, h⟩ := (kb_iff ht).1 h
    have hw := G.wt_put_le hs ht ps c
    have hc := c.put sg hs ht
    rcases h with h | ⟨h1, h2, h3⟩
    · exact (kb_iff pt).2 ⟨hc, .inl (by omega)⟩
    simp only [T.f_mk, T.args_mk] at h2 h3
    rcases h3 with ⟨h3, h4⟩ | ⟨h3, h4⟩
    · obtain ⟨x, m⟩ := t
      simp only [T.f_mk] at h3 h4
      rcases T.ok_cases ht with ⟨_, rfl⟩ | ⟨h, _⟩
      · exact (G.around_put h2 h3 _ hs ps h4).1
      · omega
    · obtain ⟨g, q⟩ := t
      simp only [T.f_mk, T.args_mk] at h3 h4
      have e1 : T.put sg (.mk f l) = .mk f (T.putL sg l) := by rw [T.put, if_neg (by omega)]
      have e2 : T.put sg (.mk g q) = .mk g (T.putL sg q) := by rw [T.put, if_neg (by omega)]
      refine (kb_iff pt).2 ⟨hc, ?_⟩
      rcases Int.lt_or_le (o.wt (T.put sg (.mk g q))) (o.wt (T.put sg (.mk f l))) with hlt | hle
      · exact .inl hlt
      · refine .inr ⟨by omega, ?_⟩
        rw [e1] at ps
        rw [e2] at pt
        rw [e1, e2]
        unfold Top
        simp only [T.f_mk, T.args_mk]
        refine ⟨h2, .inr ⟨h3, ?_⟩⟩
        rcases h4 with h4 | ⟨rfl, h4⟩
        · exact .inl h4
        · have g1 : T.okL ar l = true := by rcases T.ok_cases hs with ⟨h, _⟩ | ⟨_, _, _, h⟩; omega; exact h
          have g2 : T.okL ar q = true := by rcases T.ok_cases ht with ⟨h, _⟩ | ⟨_, _, _, h⟩; omega; exact h
          have g3 : T.okL ar (T.putL sg l) = true := by rcases T.ok_cases ps with ⟨h, _⟩ | ⟨_, _, _, h⟩; omega; exact h
          have g4 : T.okL ar (T.putL sg q) = true := by rcases T.ok_cases pt with ⟨h, _⟩ | ⟨_, _, _, h⟩; omega; exact h
          exact .inr ⟨rfl, kbL_put l q g1 g2 g3 g4 (fun a ha t k1 k2 k3 k4 k5 => ih a ha t k1 k2 k3 k4 k5) h4⟩

theorem wtL_append (o : Od) : ∀ l q : List T, o.wtL (l ++ q) = o.wtL l + o.wtL q
  | [], q => by simp [wtL]
  | a :: r, q => by rw [List.cons_append, wtL, wtL, wtL_append o r q]; omega

theorem kbL_ctx {o : Od} {a b : T} (h : o.kb a b = true) (r q : List T) : ∀ l : List T, o.kbL (l ++ a :: r) (l ++ b :: q) = true
  | [] => by
    have e : ¬ T.same a b = true := by
      intro e
      rw [(T.same_iff _ _).1 e, kb_irrefl] at h; cases h
    rw [List.nil_append, List.nil_append, kbL, if_neg e]; exact h
  | c :: l => by
    rw [List.cons_append, List.cons_append, kbL, if_pos (T.same_refl c)]; exact kbL_ctx h r q l

theorem kb_ctx {o : Od} {ar : List Int} {f : Int} {l r : List T} {a b : T} (h : o.kb a b = true) (hf : 0 ≤ f) (hb : T.ok ar (.mk f (l ++ b :: r)) = true) : o.kb (.mk f (l ++ a :: r)) (.mk f (l ++ b :: r)) = true := by
  have hbb := T.ok_args hb b (by simp)
  obtain ⟨c, h'⟩ := (kb_iff hbb).1 h
  refine (kb_iff hb).2 ⟨fun v hv => ?_, ?_⟩
  · have := c v hv
    rw [T.often, T.often, T.oftenL_append, T.oftenL_append, T.oftenL, T.oftenL]; omega
  · have e1 : o.wt (.mk f (l ++ a :: r)) = o.wsym f + (o.wtL l + (o.wt a + o.wtL r)) := by rw [wt, wtL_append, wtL]
    have e2 : o.wt (.mk f (l ++ b :: r)) = o.wsym f + (o.wtL l + (o.wt b + o.wtL r)) := by rw [wt, wtL_append, wtL]
    rcases h' with h' | ⟨h', _⟩
    · exact .inl (by omega)
    · refine .inr ⟨by omega, ?_⟩
      exact ⟨hf, .inr ⟨hf, .inr ⟨rfl, kbL_ctx h r r l⟩⟩⟩

/-- A place of a term. -/
def Within : T → List Nat → Prop
  | _, [] => True
  | .mk _ l, i :: p => ∃ h : i < l.length, Within l[i] p

theorem kb_into {o : Od} {ar : List Int} {s t : T} (h : o.kb s t = true) : ∀ (p : List Nat) (u : T), Within u p → T.ok ar u = true → T.ok ar (u.into p s) = true → T.ok ar (u.into p t) = true → o.kb (u.into p s) (u.into p t) = true
  | [], u, _, _, _, _ => by cases u; exact h
  | i :: p, .mk f l, hw, hu, h1, h2 => by
    obtain ⟨hi, hw⟩ := hw
    rw [T.into] at h1 h2
    rw [T.into, T.into]
    have e : l.getD i (.mk f l) = l[i] := by simp [hi]
    rw [e] at h1 h2 ⊢
    have hf : 0 ≤ f := by
      rcases T.ok_cases hu with ⟨_, rfl⟩ | ⟨h, _⟩
      · simp at hi
      · exact h
    have s1 : ∀ x : T, l.set i x = l.take i ++ x :: l.drop (i + 1) := fun x => List.set_eq_take_append_cons_drop.trans (by rw [if_pos hi])
    have m : ∀ x : T, x ∈ l.set i x := fun x => by rw [s1]; simp
    have := kb_into h p l[i] hw (T.ok_args hu _ (List.getElem_mem hi)) (T.ok_args h1 _ (m _)) (T.ok_args h2 _ (m _))
    rw [s1] at h1 h2
    rw [s1, s1]
    exact kb_ctx this hf h2

theorem kbL_total {o : Od} {ar : List Int} : ∀ l q : List T, l.length = q.length → T.okL ar l = true → T.okL ar q = true → T.varsL l = [] → T.varsL q = [] →
    (∀ a ∈ l, ∀ t, T.ok ar a = true → T.ok ar t = true → T.vars a = [] → T.vars t = [] → a ≠ t → o.kb a t = true ∨ o.kb t a = true) → l ≠ q → o.kbL l q = true ∨ o.kbL q l = true
  | [], [], _, _, _, _, _, _, h => absurd rfl h
  | [], b :: q, h, _, _, _, _, _, _ => by simp at h
  | a :: l, [], h, _, _, _, _, _, _ => by simp at h
  | a :: l, b :: q, h0, h1, h2, v1, v2, ih, h => by
    simp only [T.okL, Bool.and_eq_true] at h1 h2
    rw [T.varsL, List.append_eq_nil_iff] at v1 v2
    rw [kbL, kbL, T.same_symm b a]
    by_cases e : T.same a b = true
    · rw [if_pos e, if_pos e]
      obtain rfl := (T.same_iff _ _).1 e
      exact kbL_total l q (by simpa using h0) h1.2 h2.2 v1.2 v2.2 (fun x hx => ih x (by simp [hx])) (fun e => h (by rw [e]))
    · rw [if_neg e, if_neg e]
      exact ih a (by simp) b h1.1 h2.1 v1.1 v2.1 (fun e' => e ((T.same_iff _ _).2 e'))

/-- Ground terms are comparable. -/
theorem Good.kb_total {o : Od} {ar : List Int} (G : Good o ar) : ∀ s t : T, T.ok ar s = true → T.ok ar t = true → T.vars s = [] → T.vars t = [] → s ≠ t → o.kb s t = true ∨ o.kb t s = true := by
  intro s
  induction s using T.ind with
  | h f l ih =>
    intro t hs ht vs vt hne
    have cov : ∀ a b : T, T.ok ar b = true → T.vars b = [] → Cov a b := fun a b hb hv v h => by
      rw [T.often_vars h b hb, hv]; simp
    have c1 := cov (.mk f l) t ht vt
    have c2 := cov t (.mk f l) hs vs
    rcases Int.lt_trichotomy (o.wt (.mk f l)) (o.wt t) with h | h | h
    · exact .inr ((kb_iff hs).2 ⟨c2, .inl h⟩)
    · obtain ⟨g, q⟩ := t
      rcases T.ok_cases hs with ⟨hf, _⟩ | ⟨f0, f1, f2, f3⟩
      · rw [T.vars, if_pos hf] at vs; simp at vs
      rcases T.ok_cases ht with ⟨hf, _⟩ | ⟨g0, g1, g2, g3⟩
      · rw [T.vars, if_pos hf] at vt; simp at vt
      rw [T.vars, if_neg (by omega)] at vs vt
      by_cases e : f = g
      · subst e
        have hlen : l.length = q.length := by rw [f2] at g2; omega
        rcases kbL_total l q hlen f3 g3 vs vt (fun a ha t => ih a ha t) (fun e => hne (by rw [e])) with k | k
        · exact .inl ((kb_iff ht).2 ⟨c1, .inr ⟨h, f0, .inr ⟨g0, .inr ⟨rfl, k⟩⟩⟩⟩)
        · exact .inr ((kb_iff hs).2 ⟨c2, .inr ⟨h.symm, f0, .inr ⟨g0, .inr ⟨rfl, k⟩⟩⟩⟩)
      · rcases Int.lt_trichotomy (o.rank f) (o.rank g) with k | k | k
        · exact .inr ((kb_iff hs).2 ⟨c2, .inr ⟨h.symm, g0, .inr ⟨f0, .inl ⟨fun e' => e e'.symm, k⟩⟩⟩⟩)
        · exact absurd (G.inj f g f0 f1 g0 g1 k) e
        · exact .inl ((kb_iff ht).2 ⟨c1, .inr ⟨h, f0, .inr ⟨g0, .inl ⟨e, k⟩⟩⟩⟩)
    · exact .inl ((kb_iff ht).2 ⟨c1, .inl h⟩)

end Od
end Go.Proofs.Ytjkpecjlpgcalaa
