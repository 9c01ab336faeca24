/- Arguments of a law, opened: terms and orders. -/
import Derived.Test.YtlkiabgpnboicaaMgi
import Derived.Test.YtlkiabgpnboicaaMgh
import Derived.Test.YtlkiabgpnboicaaMga
import Derived.WalkKit
import Derived.ProofKit
import Derived.JoinedCond
import Derived.OpenShut

/- The order of Knuth and Bendix over a signature: above subterms, stable, monotone, total on ground terms. -/
namespace Go.Proofs.Ytlkiabgpnboicaa

namespace T
theorem oftenL_append (v : Int) : ∀ l q : List T, oftenL v (l ++ q) = oftenL v l + oftenL v q
  | [], q => by simp [oftenL]
  | a :: r, q => by rw [List.cons_append, oftenL, oftenL, oftenL_append v r q]; omega

theorem often_le_oftenL (v : Int) : ∀ (l : List T) (a : T), a ∈ l → often v a ≤ oftenL v l
  | [], a, h => by simp at h
  | b :: r, a, h => by
    rw [oftenL]
    rcases List.mem_cons.1 h with rfl | h
    · omega
    · have := often_le_oftenL v r a h; omega

theorem okL_append {ar : List Int} : ∀ l q : List T, okL ar (l ++ q) = (okL ar l && okL ar q)
  | [], q => by simp [okL]
  | a :: r, q => by rw [List.cons_append, okL, okL, okL_append r q, Bool.and_assoc]

theorem ok_args {ar : List Int} {f : Int} {l : List T} (h : ok ar (.mk f l) = true) : ∀ a ∈ l, ok ar a = true := by
  rcases ok_cases h with ⟨_, rfl⟩ | ⟨_, _, _, h⟩
  · simp
  · exact okL_mem h

/-- A part of a term, not the whole. -/
inductive Part : T → T → Prop where
  | arg {f : Int} {l : List T} {a : T} (h : a ∈ l) : Part a (.mk f l)
  | deep {f : Int} {l : List T} {a b : T} (h : b ∈ l) (k : Part a b) : Part a (.mk f l)

-- Terms put in for variables.
mutual
def put (s : List T) : T → T
  | .mk f l => if f < 0 then s.getD (-1 - f).toNat (.mk f l) else .mk f (putL s l)
def putL (s : List T) : List T → List T
  | [] => []
  | a :: r => put s a :: putL s r
end
theorem putL_map (s : List T) : ∀ l, putL s l = l.map (put s)
  | [] => rfl
  | a :: r => by rw [putL, putL_map s r, List.map_cons]

/-- A term put in at a place. -/
def into : T → List Nat → T → T
  | _, [], s => s
  | .mk f l, i :: p, s => .mk f (l.set i (into (l.getD i (.mk f l)) p s))

theorem vars_mem {ar : List Int} {s : T} {sg : List T} {x : Int} : ok ar s = true → ok ar (put sg s) = true → x ∈ vars s → ok ar (put sg (.mk x [])) = true := by
  induction s using T.ind with
  | h f l ih =>
    intro h1 h2 hx
    rcases ok_cases h1 with ⟨hf, rfl⟩ | ⟨hf, _, _, hl⟩
    · rw [vars, if_pos hf] at hx
      simp at hx
      subst hx
      exact h2
    · rw [vars, if_neg (by omega)] at hx
      rw [put, if_neg (by omega)] at h2
      have h3 := ok_args h2
      rw [putL_map] at h3
      have key : ∀ q : List T, x ∈ varsL q → ∃ a ∈ q, x ∈ vars a := by
        intro q
        induction q with
        | nil => intro h; simp [varsL] at h
        | cons b r ihr =>
          intro h
          rw [varsL, List.mem_append] at h
          rcases h with h | h
          · exact ⟨b, by simp, h⟩
          · obtain ⟨a, ha, hb⟩ := ihr h
            exact ⟨a, by simp [ha], hb⟩
      obtain ⟨a, ha, hxa⟩ := key l hx
      exact ih a ha (okL_mem hl a ha) (h3 _ (List.mem_map.2 ⟨a, ha, rfl⟩)) hxa

mutual
theorem often_put {ar : List Int} {sg : List T} {v : Int} (hv : v < 0) : ∀ t, ok ar t = true → often v (put sg t) = ((vars t).map fun x => often v (put sg (.mk x []))).sum
  | .mk f l, h => by
    rcases ok_cases h with ⟨hf, rfl⟩ | ⟨hf, _, _, hl⟩
    · rw [vars, if_pos hf]; simp
    · rw [put, vars, if_neg (by omega), if_neg (by omega), often, if_neg (by omega), often_putL hv l hl]; omega
theorem often_putL {ar : List Int} {sg : List T} {v : Int} (hv : v < 0) : ∀ l, okL ar l = true → oftenL v (putL sg l) = ((varsL l).map fun x => often v (put sg (.mk x []))).sum
  | [], _ => by simp [putL, oftenL, varsL]
  | a :: r, h => by
    simp only [okL, Bool.and_eq_true] at h
    rw [putL, oftenL, varsL, List.map_append, List.sum_append, often_put hv a h.1, often_putL hv r h.2]
end

theorem sum_le_of_count (g : Int → Nat) : ∀ (a b : List Int), (∀ v, a.count v ≤ b.count v) → (a.map g).sum ≤ (b.map g).sum
  | [], b, _ => by simp
  | x :: a, b, h => by
    have hx : x ∈ b := by
      have := h x
      rw [List.count_cons_self] at this
      exact List.count_pos_iff.1 (by omega)
    have p := List.perm_cons_erase hx
    have := sum_le_of_count g a (b.erase x) (fun v => by
      have h1 := h v
      have h2 := p.count_eq v
      rw [List.count_cons] at h1 h2
      omega)
    have e : (b.map g).sum = ((x :: b.erase x).map g).sum := (p.map g).sum_nat
    rw [e]
    simp only [List.map_cons, List.sum_cons]
    omega
end T

namespace Od

theorem Cov.arg {f : Int} {l : List T} {a : T} (h : a ∈ l) : Cov (.mk f l) a := fun v _ => by
  have := T.often_le_oftenL v l a h
  rw [T.often]; omega

theorem Good.wt_arg {o : Od} {ar : List Int} (G : Good o ar) : ∀ l : List T, T.okL ar l = true → ∀ a ∈ l, o.wt a ≤ o.wtL l ∧ (2 ≤ l.length → o.wt a + 1 ≤ o.wtL l)
  | [], _, a, h => by simp at h
  | b :: r, h, a, ha => by
    simp only [T.okL, Bool.and_eq_true] at h
    have := G.var
    have h1 := G.var_le b h.1
    have h2 := G.wtL_nonneg r h.2
    rw [wtL]
    rcases List.mem_cons.1 ha with rfl | ha
    · refine ⟨by omega, fun hl => ?_⟩
      cases r with
      | nil => simp at hl
      | cons c q =>
        simp only [T.okL, Bool.and_eq_true] at h
        have := G.var_le c h.2.1
        have := G.wtL_nonneg q h.2.2
        rw [wtL]; omega
    · have := (Good.wt_arg G r h.2 a ha).1
      exact ⟨by omega, fun _ => by omega⟩

theorem wt_var {o : Od} {x : Int} (h : x < 0) : o.wt (.mk x []) = o.var := by rw [wt, wtL]; unfold wsym; rw [if_pos h]; omega

theorem Good.kb_arg {o : Od} {ar : List Int} (G : Good o ar) : ∀ (t : T) (f : Int) (l : List T), t ∈ l → T.ok ar (.mk f l) = true → o.kb (.mk f l) t = true := by
  intro t
  induction t using T.ind with
  | h g q ih =>
    intro f l hm hok
    have ht := T.ok_args hok _ hm
    rcases T.ok_cases hok with ⟨_, rfl⟩ | ⟨h0, h1, h2, h3⟩
    · simp at hm
    have hb := G.bound f h0 h1
    refine (kb_iff ht).2 ⟨Cov.arg hm, ?_⟩
    have hw := G.wt_arg l h3 _ hm
    have e1 : o.wt (.mk f l) = o.wsym f + o.wtL l := by rw [wt]
    by_cases hlen : 2 ≤ l.length
    · exact .inl (by have := hw.2 hlen; omega)
    · obtain rfl : l = [.mk g q] := by
        match l, hm with
        | [x], hm => simp at hm; rw [hm]
        | x :: y :: r, _ => simp at hlen
      have e2 : o.wtL [.mk g q] = o.wt (.mk g q) := by rw [wtL, wtL]; omega
      by_cases hz : o.wsym f = 0
      · refine .inr ⟨by omega, h0, ?_⟩
        have top := G.one f h0 h1 (by simpa using h2) hz
        simp only [T.f_mk, T.args_mk]
        by_cases hg : g < 0
        · exact .inl ⟨hg, around_iff.2 ⟨rfl, _, rfl, .inl rfl⟩⟩
        · refine .inr ⟨by omega, ?_⟩
          have hgl : g < ar.length ∧ ar.getD g.toNat 0 = q.length := by
            rcases T.ok_cases ht with ⟨h, _⟩ | ⟨_, h, h', _⟩
            · omega
            · exact ⟨h, h'⟩
          by_cases e : f = g
          · refine .inr ⟨e, ?_⟩
            subst e
            have hq : q.length = 1 := by rw [hgl.2] at h2; simp at h2; omega
            obtain ⟨b, rfl⟩ : ∃ b, q = [b] := by
              match q, hq with
              | [b], _ => exact ⟨b, rfl⟩
            have kbb := ih b (by simp) f [b] (by simp) ht
            have hne : ¬ T.same (.mk f [b]) b = true := by
              intro e
              have := (T.same_iff _ _).1 e
              rw [this, kb_irrefl] at kbb; cases kbb
            rw [kbL, if_neg hne]
            exact kbb
          · have := top g (by omega) hgl.1
            refine .inl ⟨e, ?_⟩
            rcases Int.lt_or_le (o.rank g) (o.rank f) with h | h
            · exact h
            · exact absurd (G.inj f g h0 h1 (by omega) hgl.1 (by omega)) e
      · exact .inl (by omega)

/-- A term is above its parts. -/
theorem Good.kb_part {o : Od} {ar : List Int} (G : Good o ar) {s t : T} (h : T.Part s t) : T.ok ar t = true → o.kb t s = true ∧ T.ok ar s = true := by
  induction h with
  | arg h => exact fun k => ⟨G.kb_arg _ _ _ h k, T.ok_args k _ h⟩
  | @deep f l a b h k ih =>
    intro hok
    have hb := T.ok_args hok _ h
    obtain ⟨h1, h2⟩ := ih hb
    exact ⟨G.kb_trans _ b _ hok hb h2 (G.kb_arg _ _ _ h hok) h1, h2⟩

mutual
theorem wt_put {o : Od} {ar : List Int} {sg : List T} : ∀ t, T.ok ar t = true → o.wt (T.put sg t) = o.wt t + ((T.vars t).map fun x => o.wt (T.put sg (.mk x [])) - o.var).sum
  | .mk f l, h => by
    rcases T.ok_cases h with ⟨hf, rfl⟩ | ⟨hf, _, _, hl⟩
    · rw [T.vars, if_pos hf, wt_var hf]; simp; omega
    · rw [T.put, T.vars, if_neg (by omega), if_neg (by omega), wt, wt, wtL_put l hl]; omega
theorem wtL_put {o : Od} {ar : List Int} {sg : List T} : ∀ l, T.okL ar l = true → o.wtL (T.putL sg l) = o.wtL l + ((T.varsL l).map fun x => o.wt (T.put sg (.mk x [])) - o.var).sum
  | [], _ => by simp [T.putL, wtL, T.varsL]
  | a :: r, h => by
    simp only [T.okL, Bool.and_eq_true] at h
    rw [T.putL, wtL, wtL, T.varsL, List.map_append, List.sum_append, wt_put a h.1, wtL_put r h.2]; omega
end

theorem sum_toNat (g : Int → Int) : ∀ l : List Int, (∀ x ∈ l, 0 ≤ g x) → (l.map g).sum = ((l.map fun x => (g x).toNat).sum : Nat)
  | [], _ => by simp
  | x :: r, h => by
    have := h x (by simp)
    simp only [List.map_cons, List.sum_cons, sum_toNat g r (fun y hy => h y (by simp [hy]))]
    omega

theorem count_of_cov {ar : List Int} {s t : T} (hs : T.ok ar s = true) (ht : T.ok ar t = true) (h : Cov s t) (v : Int) : (T.vars t).count v ≤ (T.vars s).count v := by
  by_cases hv : v < 0
  · have := h v hv
    rwa [T.often_vars hv s hs, T.often_vars hv t ht] at this
  · have : v ∉ T.vars t := fun hm => hv (T.vars_neg t v hm)
    rw [List.count_eq_zero.2 this]; omega

theorem Cov.put {ar : List Int} {s t : T} (sg : List T) (hs : T.ok ar s = true) (ht : T.ok ar t = true) (h : Cov s t) : Cov (s.put sg) (t.put sg) := fun v hv => by
  rw [T.often_put hv s hs, T.often_put hv t ht]
  exact T.sum_le_of_count _ _ _ (count_of_cov hs ht h)

theorem Good.wt_put_le {o : Od} {ar : List Int} (G : Good o ar) {s t : T} {sg : List T} (hs : T.ok ar s = true) (ht : T.ok ar t = true) (ks : T.ok ar (s.put sg) = true) (h : Cov s t) : o.wt (t.put sg) - o.wt t ≤ o.wt (s.put sg) - o.wt s := by
  have hx : ∀ x ∈ T.vars s, 0 ≤ o.wt (T.put sg (.mk x [])) - o.var := fun x hx => by
    have := G.var_le _ (T.vars_mem hs ks hx); omega
  have hc := count_of_cov hs ht h
  have hx2 : ∀ x ∈ T.vars t, 0 ≤ o.wt (T.put sg (.mk x [])) - o.var := fun x hm => hx x (by
    have h1 := hc x
    have h2 := List.count_pos_iff.2 hm
    exact List.count_pos_iff.1 (by omega))
  rw [wt_put s hs, wt_put t ht, sum_toNat _ _ hx, sum_toNat _ _ hx2]
  have := T.sum_le_of_count (fun x => (o.wt (T.put sg (.mk x [])) - o.var).toNat) _ _ hc
  omega

theorem Good.around_put {o : Od} {ar : List Int} (G : Good o ar) {sg : List T} {f x : Int} (hf : 0 ≤ f) (hx : x < 0) : ∀ s : T, T.ok ar s = true → T.ok ar (s.put sg) = true → around f x s = true → o.kb (s.put sg) (T.put sg (.mk x [])) = true ∧ T.ok ar (T.put sg (.mk x [])) = true := by
  intro s
  induction s using T.ind with
  | h g l ih =>
    intro hs hp ha
    obtain ⟨rfl, _, a, e, ka, hor⟩ := ok_around hs hf ha
    simp only [T.f_mk, T.mk.injEq, true_and] at *
    subst e
    have e1 : T.put sg (.mk g [a]) = .mk g [T.put sg a] := by rw [T.put, if_neg (by omega), T.putL, T.putL]
    rw [e1] at hp ⊢
    have kp := T.ok_args hp (T.put sg a) (by simp)
    have k1 := G.kb_arg (T.put sg a) g [T.put sg a] (by simp) hp
    rcases hor with h | h
    · have : a = .mk x [] := by
        obtain ⟨y, m⟩ := a
        simp only [T.f_mk] at h
        subst h
        rcases T.ok_cases ka with ⟨_, h⟩ | ⟨h, _⟩
        · rw [h]
        · omega
      subst this
      exact ⟨k1, kp⟩
    · obtain ⟨h1, h2⟩ := ih a (by simp) ka kp h
      exact ⟨G.kb_trans _ _ _ hp kp h2 k1 h1, h2⟩

theorem kbL_put {o : Od} {ar : List Int} {sg : List T} : ∀ l q : List T, T.okL ar l = true → T.okL ar q = true → T.okL ar (T.putL sg l) = true → T.okL ar (T.putL sg q) = true →
    (∀ a ∈ l, ∀ t, T.ok ar a = true → T.ok ar t = true → T.ok ar (a.put sg) = true → T.ok ar (t.put sg) = true → o.kb a t = true → o.kb (a.put sg) (t.put sg) = true) →
    o.kbL l q = true → o.kbL (T.putL sg l) (T.putL sg q) = true
  | [], _, _, _, _, _, _, h => by simp [kbL] at h
  | a :: l, [], _, _, _, _, _, _ => by rw [T.putL, T.putL, kbL]
  | a :: l, b :: q, h1, h2, h3, h4, ih, h => by
    rw [T.putL] at h3 h4 ⊢
    rw [T.putL]
    simp only [T.okL, Bool.and_eq_true] at h1 h2 h3 h4
    rw [kbL] at h ⊢
    by_cases e : T.same a b = true
    · rw [if_pos e] at h
      obtain rfl := (T.same_iff _ _).1 e
      rw [if_pos (T.same_refl _)]
      exact kbL_put l q h1.2 h2.2 h3.2 h4.2 (fun x hx => ih x (by simp [hx])) h
    · rw [if_neg e] at h
      have := ih a (by simp) b h1.1 h2.1 h3.1 h4.1 h
      have e2 : ¬ T.same (a.put sg) (b.put sg) = true := by
        intro e
        rw [(T.same_iff _ _).1 e, kb_irrefl] at this; cases this
      rw [if_neg e2]; exact this

/-- What is above stays above. -/
theorem Good.kb_put {o : Od} {ar : List Int} (G : Good o ar) (sg : List T) : ∀ s t : T, T.ok ar s = true → T.ok ar t = true → T.ok ar (s.put sg) = true → T.ok ar (t.put sg) = true → o.kb s t = true → o.kb (s.put sg) (t.put sg) = true := by
  intro s
  induction s using T.ind with
  | h f l ih =>
    intro t hs ht ps pt h
    obtain ⟨c, h⟩ := (kb_iff ht).1 h
    have hw := G.wt_put_le hs ht ps c
    have hc := c.put sg hs ht
    rcases h with h | ⟨h1, h2, h3⟩
    · exact (kb_iff pt).2 ⟨hc, .inl (by omega)⟩
    simp only [T.f_mk, T.args_mk] at h2 h3
    rcases h3 with ⟨h3, h4⟩ | ⟨h3, h4⟩
    · obtain ⟨x, m⟩ := t
      simp only [T.f_mk] at h3 h4
      rcases T.ok_cases ht with ⟨_, rfl⟩ | ⟨h, _⟩
      · exact (G.around_put h2 h3 _ hs ps h4).1
      · omega
    · obtain ⟨g, q⟩ := t
      simp only [T.f_mk, T.args_mk] at h3 h4
      have e1 : T.put sg (.mk f l) = .mk f (T.putL sg l) := by rw [T.put, if_neg (by omega)]
      have e2 : T.put sg (.mk g q) = .mk g (T.putL sg q) := by rw [T.put, if_neg (by omega)]
      refine (kb_iff pt).2 ⟨hc, ?_⟩
      rcases Int.lt_or_le (o.wt (T.put sg (.mk g q))) (o.wt (T.put sg (.mk f l))) with hlt | hle
      · exact .inl hlt
      · refine .inr ⟨by omega, ?_⟩
        rw [e1] at ps
        rw [e2] at pt
        rw [e1, e2]
        unfold Top
        simp only [T.f_mk, T.args_mk]
        refine ⟨h2, .inr ⟨h3, ?_⟩⟩
        rcases h4 with h4 | ⟨rfl, h4⟩
        · exact .inl h4
        · have g1 : T.okL ar l = true := by rcases T.ok_cases hs with ⟨h, _⟩ | ⟨_, _, _, h⟩; omega; exact h
          have g2 : T.okL ar q = true := by rcases T.ok_cases ht with ⟨h, _⟩ | ⟨_, _, _, h⟩; omega; exact h
          have g3 : T.okL ar (T.putL sg l) = true := by rcases T.ok_cases ps with ⟨h, _⟩ | ⟨_, _, _, h⟩; omega; exact h
          have g4 : T.okL ar (T.putL sg q) = true := by rcases T.ok_cases pt with ⟨h, _⟩ | ⟨_, _, _, h⟩; omega; exact h
          exact .inr ⟨rfl, kbL_put l q g1 g2 g3 g4 (fun a ha t k1 k2 k3 k4 k5 => ih a ha t k1 k2 k3 k4 k5) h4⟩

theorem wtL_append (o : Od) : ∀ l q : List T, o.wtL (l ++ q) = o.wtL l + o.wtL q
  | [], q => by simp [wtL]
  | a :: r, q => by rw [List.cons_append, wtL, wtL, wtL_append o r q]; omega

theorem kbL_ctx {o : Od} {a b : T} (h : o.kb a b = true) (r q : List T) : ∀ l : List T, o.kbL (l ++ a :: r) (l ++ b :: q) = true
  | [] => by
    have e : ¬ T.same a b = true := by
      intro e
      rw [(T.same_iff _ _).1 e, kb_irrefl] at h; cases h
    rw [List.nil_append, List.nil_append, kbL, if_neg e]; exact h
  | c :: l => by
    rw [List.cons_append, List.cons_append, kbL, if_pos (T.same_refl c)]; exact kbL_ctx h r q l

theorem kb_ctx {o : Od} {ar : List Int} {f : Int} {l r : List T} {a b : T} (h : o.kb a b = true) (hf : 0 ≤ f) (hb : T.ok ar (.mk f (l ++ b :: r)) = true) : o.kb (.mk f (l ++ a :: r)) (.mk f (l ++ b :: r)) = true := by
  have hbb := T.ok_args hb b (by simp)
  obtain ⟨c, h'⟩ := (kb_iff hbb).1 h
  refine (kb_iff hb).2 ⟨fun v hv => ?_, ?_⟩
  · have := c v hv
    rw [T.often, T.often, T.oftenL_append, T.oftenL_append, T.oftenL, T.oftenL]; omega
  · have e1 : o.wt (.mk f (l ++ a :: r)) = o.wsym f + (o.wtL l + (o.wt a + o.wtL r)) := by rw [wt, wtL_append, wtL]
    have e2 : o.wt (.mk f (l ++ b :: r)) = o.wsym f + (o.wtL l + (o.wt b + o.wtL r)) := by rw [wt, wtL_append, wtL]
    rcases h' with h' | ⟨h', _⟩
    · exact .inl (by omega)
    · refine .inr ⟨by omega, ?_⟩
      exact ⟨hf, .inr ⟨hf, .inr ⟨rfl, kbL_ctx h r r l⟩⟩⟩

/-- A place of a term. -/
def Within : T → List Nat → Prop
  | _, [] => True
  | .mk _ l, i :: p => ∃ h : i < l.length, Within l[i] p

theorem kb_into {o : Od} {ar : List Int} {s t : T} (h : o.kb s t = true) : ∀ (p : List Nat) (u : T), Within u p → T.ok ar u = true → T.ok ar (u.into p s) = true → T.ok ar (u.into p t) = true → o.kb (u.into p s) (u.into p t) = true
  | [], u, _, _, _, _ => by cases u; exact h
  | i :: p, .mk f l, hw, hu, h1, h2 => by
    obtain ⟨hi, hw⟩ := hw
    rw [T.into] at h1 h2
    rw [T.into, T.into]
    have e : l.getD i (.mk f l) = l[i] := by simp [hi]
    rw [e] at h1 h2 ⊢
    have hf : 0 ≤ f := by
      rcases T.ok_cases hu with ⟨_, rfl⟩ | ⟨h, _⟩
      · simp at hi
      · exact h
    have s1 : ∀ x : T, l.set i x = l.take i ++ x :: l.drop (i + 1) := fun x => List.set_eq_take_append_cons_drop.trans (by rw [if_pos hi])
    have m : ∀ x : T, x ∈ l.set i x := fun x => by rw [s1]; simp
    have := kb_into h p l[i] hw (T.ok_args hu _ (List.getElem_mem hi)) (T.ok_args h1 _ (m _)) (T.ok_args h2 _ (m _))
    rw [s1] at h1 h2
    rw [s1, s1]
    exact kb_ctx this hf h2

theorem kbL_total {o : Od} {ar : List Int} : ∀ l q : List T, l.length = q.length → T.okL ar l = true → T.okL ar q = true → T.varsL l = [] → T.varsL q = [] →
    (∀ a ∈ l, ∀ t, T.ok ar a = true → T.ok ar t = true → T.vars a = [] → T.vars t = [] → a ≠ t → o.kb a t = true ∨ o.kb t a = true) → l ≠ q → o.kbL l q = true ∨ o.kbL q l = true
  | [], [], _, _, _, _, _, _, h => absurd rfl h
  | [], b :: q, h, _, _, _, _, _, _ => by simp at h
  | a :: l, [], h, _, _, _, _, _, _ => by simp at h
  | a :: l, b :: q, h0, h1, h2, v1, v2, ih, h => by
    simp only [T.okL, Bool.and_eq_true] at h1 h2
    rw [T.varsL, List.append_eq_nil_iff] at v1 v2
    rw [kbL, kbL, T.same_symm b a]
    by_cases e : T.same a b = true
    · rw [if_pos e, if_pos e]
      obtain rfl := (T.same_iff _ _).1 e
      exact kbL_total l q (by simpa using h0) h1.2 h2.2 v1.2 v2.2 (fun x hx => ih x (by simp [hx])) (fun e => h (by rw [e]))
    · rw [if_neg e, if_neg e]
      exact ih a (by simp) b h1.1 h2.1 v1.1 v2.1 (fun e' => e ((T.same_iff _ _).2 e'))

/-- Ground terms are comparable. -/
theorem Good.kb_total {o : Od} {ar : List Int} (G : Good o ar) : ∀ s t : T, T.ok ar s = true → T.ok ar t = true → T.vars s = [] → T.vars t = [] → s ≠ t → o.kb s t = true ∨ o.kb t s = true := by
  intro s
  induction s using T.ind with
  | h f l ih =>
    intro t hs ht vs vt hne
    have cov : ∀ a b : T, T.ok ar b = true → T.vars b = [] → Cov a b := fun a b hb hv v h => by
      rw [T.often_vars h b hb, hv]; simp
    have c1 := cov (.mk f l) t ht vt
    have c2 := cov t (.mk f l) hs vs
    rcases Int.lt_trichotomy (o.wt (.mk f l)) (o.wt t) with h | h | h
    · exact .inr ((kb_iff hs).2 ⟨c2, .inl h⟩)
    · obtain ⟨g, q⟩ := t
      rcases T.ok_cases hs with ⟨hf, _⟩ | ⟨f0, f1, f2, f3⟩
      · rw [T.vars, if_pos hf] at vs; simp at vs
      rcases T.ok_cases ht with ⟨hf, _⟩ | ⟨g0, g1, g2, g3⟩
      · rw [T.vars, if_pos hf] at vt; simp at vt
      rw [T.vars, if_neg (by omega)] at vs vt
      by_cases e : f = g
      · subst e
        have hlen : l.length = q.length := by rw [f2] at g2; omega
        rcases kbL_total l q hlen f3 g3 vs vt (fun a ha t => ih a ha t) (fun e => hne (by rw [e])) with k | k
        · exact .inl ((kb_iff ht).2 ⟨c1, .inr ⟨h, f0, .inr ⟨g0, .inr ⟨rfl, k⟩⟩⟩⟩)
        · exact .inr ((kb_iff hs).2 ⟨c2, .inr ⟨h.symm, f0, .inr ⟨g0, .inr ⟨rfl, k⟩⟩⟩⟩)
      · rcases Int.lt_trichotomy (o.rank f) (o.rank g) with k | k | k
        · exact .inr ((kb_iff hs).2 ⟨c2, .inr ⟨h.symm, g0, .inr ⟨f0, .inl ⟨fun e' => e e'.symm, k⟩⟩⟩⟩)
        · exact absurd (G.inj f g f0 f1 g0 g1 k) e
        · exact .inl ((kb_iff ht).2 ⟨c1, .inr ⟨h, f0, .inr ⟨g0, .inl ⟨e, k⟩⟩⟩⟩)
    · exact .inl ((kb_iff ht).2 ⟨c1, .inl h⟩)

end Od
end Go.Proofs.Ytlkiabgpnboicaa

/- The lexicographic path order is stable, monotone, total on ground terms. -/
namespace Go.Proofs.Ytlkiabgpnboicaa

namespace T
theorem ok_known {o : Od} {ar : List Int} (h : ar.length = o.prec.length) (t : T) : ok ar t = true → o.lknows t = true := by
  induction t using T.ind with
  | h f l ih =>
    intro hk
    rw [ok] at hk
    rw [Od.lknows]
    split
    · rename_i hf; rw [if_pos hf] at hk; exact hk
    · rename_i hf
      rw [if_neg hf] at hk
      simp only [Bool.and_eq_true, decide_eq_true_eq] at hk ⊢
      refine ⟨by omega, ?_⟩
      rw [Od.lknowsL_all, List.all_eq_true]
      exact fun a ha => ih a ha (okL_mem hk.2 a ha)
theorem put_sym {s : List T} {t : T} (h : ¬ t.f < 0) : put s t = .mk t.f (t.args.map (put s)) := by
  obtain ⟨f, l⟩ := t
  have h : ¬ f < 0 := h
  rw [put, if_neg h, putL_map]; rfl
theorem sub_put {s : List T} {v : Int} (hv : v < 0) {o : Od} (t : T) : o.lknows t = true → has v t = true → Sub (put s (.mk v [])) (put s t) := by
  induction t using T.ind with
  | h f l ih =>
    intro hk h
    by_cases hf : f < 0
    · have hl := (lknows_top hk).2 hf
      have hl : l = [] := hl
      subst hl
      rcases has_cases h with e | ⟨b, hb, _⟩
      · have e : f = v := e
        subst e; exact .refl
      · simp at hb
    · rcases has_cases h with e | ⟨b, hb, h2⟩
      · have e : f = v := e
        omega
      · rw [put_sym (t := .mk f l) hf]
        exact .arg (List.mem_map_of_mem hb) (ih b hb (lknows_arg hk hb).1 h2)
end T

theorem lexR_map {R : T → T → Bool} (p : T → T) : ∀ (l q : List T), (∀ a ∈ l, ∀ b ∈ q, R a b = true → R (p a) (p b) = true) → (∀ a ∈ l, R (p a) (p a) = false) → lexR R l q = true → lexR R (l.map p) (q.map p) = true
  | [], _, _, _, h => by simp [lexR] at h
  | _ :: _, [], _, _, _ => rfl
  | a :: l, b :: q, hp, hi, h => by
    rw [lexR] at h
    rw [List.map_cons, List.map_cons, lexR]
    by_cases e : a = b
    · subst e
      rw [if_pos (T.same_refl _)] at h ⊢
      exact lexR_map p l q (fun x hx y hy => hp x (by simp [hx]) y (by simp [hy])) (fun x hx => hi x (by simp [hx])) h
    · rw [if_neg (fun z => e ((T.same_iff _ _).1 z))] at h
      have h2 := hp a (by simp) b (by simp) h
      by_cases e2 : p a = p b
      · rw [← e2, hi a (by simp)] at h2; cases h2
      · rw [if_neg (fun z => e2 ((T.same_iff _ _).1 z))]; exact h2
theorem lexR_ctx {R : T → T → Bool} {s t : T} (h : R s t = true) (hne : s ≠ t) : ∀ (p r q : List T), lexR R (p ++ s :: r) (p ++ t :: q) = true
  | [], r, q => by
    rw [List.nil_append, List.nil_append, lexR, if_neg (fun z => hne ((T.same_iff _ _).1 z))]; exact h
  | a :: p, r, q => by
    rw [List.cons_append, List.cons_append, lexR, if_pos (T.same_refl a)]; exact lexR_ctx h hne p r q
theorem lexR_total {R : T → T → Bool} : ∀ (l q : List T), l.length = q.length → (∀ a ∈ l, ∀ b ∈ q, a ≠ b → R a b = true ∨ R b a = true) → l ≠ q → lexR R l q = true ∨ lexR R q l = true
  | [], [], _, _, h => absurd rfl h
  | [], _ :: _, h, _, _ => by simp at h
  | _ :: _, [], h, _, _ => by simp at h
  | a :: l, b :: q, hl, ht, hne => by
    rw [lexR, lexR]
    by_cases e : a = b
    · subst e
      rw [if_pos (T.same_refl a), if_pos (T.same_refl a)]
      exact lexR_total l q (by simpa using hl) (fun x hx y hy => ht x (by simp [hx]) y (by simp [hy])) (fun z => hne (by rw [z]))
    · rw [if_neg (fun z => e ((T.same_iff _ _).1 z)), if_neg (fun z => e ((T.same_iff _ _).1 z).symm)]
      exact ht a (by simp) b (by simp) e

namespace Od
variable {o : Od}
theorem lg_put {g : List T} : ∀ (n : Nat) (s t : T), s.size + t.size ≤ n → o.lknows s = true → o.lknows t = true → o.lknows (T.put g s) = true → o.lknows (T.put g t) = true → o.lg s t = true → o.lg (T.put g s) (T.put g t) = true
  | 0, s, _, hn, _, _, _, _, _ => by have := T.size_eq s; omega
  | n + 1, s, t, hn, ks, kt, ks', kt', h => by
    obtain ⟨hs, h⟩ := lg_iff.1 h
    have es := T.put_sym (s := g) hs
    have hs' : ¬ (T.put g s).f < 0 := by rw [es]; exact hs
    have as' : (T.put g s).args = s.args.map (T.put g) := by rw [es]; rfl
    have ka : ∀ a ∈ s.args, o.lknows (T.put g a) = true := fun a ha => (lknows_arg ks' (by rw [as']; exact List.mem_map_of_mem ha)).1
    rcases h with ⟨ht, h⟩ | ⟨ht, h⟩
    · rcases T.has_cases h with e | ⟨b, hb, h2⟩
      · omega
      · have hsub := T.sub_put (s := g) ht b (lknows_arg ks hb).1 h2
        have et : t = .mk t.f [] := by rw [← (lknows_top kt).2 ht, T.eta]
        rw [et]
        refine lg_sub hs' (a := T.put g b) (by rw [as']; exact List.mem_map_of_mem hb) ?_
        by_cases e : T.put g (.mk t.f []) = T.put g b
        · exact .inl e.symm
        · exact .inr (lg_subterm (ka b hb) hsub e)
    · have et := T.put_sym (s := g) ht
      have at' : (T.put g t).args = t.args.map (T.put g) := by rw [et]; rfl
      have kb : ∀ b ∈ t.args, o.lknows (T.put g b) = true := fun b hb => (lknows_arg kt' (by rw [at']; exact List.mem_map_of_mem hb)).1
      have hall' : (∀ b ∈ t.args, o.lg s b = true) → ∀ b ∈ (T.put g t).args, o.lg (T.put g s) b = true := fun hall b hb => by
        rw [at'] at hb
        obtain ⟨c, hc, rfl⟩ := List.mem_map.1 hb
        have := T.size_arg hc
        exact lg_put n s c (by omega) ks (lknows_arg kt hc).1 ks' (kb c hc) (hall c hc)
      rcases h with ⟨a, ha, h⟩ | h
      · have := T.size_arg ha
        refine lg_sub hs' (a := T.put g a) (by rw [as']; exact List.mem_map_of_mem ha) ?_
        rcases h with rfl | h
        · exact .inl rfl
        · exact .inr (lg_put n a t (by omega) (lknows_arg ks ha).1 kt (ka a ha) kt' h)
      · refine lg_iff.2 ⟨hs', .inr ⟨by rw [et]; exact ht, .inr ?_⟩⟩
        have f1 : (T.put g s).f = s.f := by rw [es]; rfl
        have f2 : (T.put g t).f = t.f := by rw [et]; rfl
        rw [f1, f2]
        rcases h with ⟨n1, r1, hall⟩ | ⟨e1, hall, hlex⟩
        · exact .inl ⟨n1, r1, hall' hall⟩
        · refine .inr ⟨e1, hall' hall, ?_⟩
          rw [as', at']
          refine lexR_map (T.put g) _ _ (fun a ha b hb hab => ?_) (fun a ha => lg_irrefl (ka a ha)) hlex
          have := T.size_arg ha
          have := T.size_arg hb
          exact lg_put n a b (by omega) (lknows_arg ks ha).1 (lknows_arg kt hb).1 (ka a ha) (kb b hb) hab

theorem lg_ctx {f : Int} {p q : List T} {s t : T} (hf : 0 ≤ f) (kt : o.lknows t = true) (h : o.lg s t = true) : o.lg (.mk f (p ++ s :: q)) (.mk f (p ++ t :: q)) = true := by
  have hne : s ≠ t := by rintro rfl; rw [lg_irrefl kt] at h; cases h
  have hs : ¬ (T.mk f (p ++ s :: q)).f < 0 := by simp only [T.f_mk]; omega
  refine lg_iff.2 ⟨hs, .inr ⟨hs, .inr (.inr ⟨rfl, fun b hb => ?_, lexR_ctx h hne p q q⟩)⟩⟩
  simp only [T.args_mk, List.mem_append, List.mem_cons] at hb
  rcases hb with hb | rfl | hb
  · exact lg_arg hs (by simp [hb])
  · exact lg_sub hs (a := s) (by simp) (.inr h)
  · exact lg_arg hs (by simp [hb])
theorem lg_into {s t : T} (h : o.lg s t = true) (kt : o.lknows t = true) : ∀ (p : List Nat) (u : T), Within u p → o.lknows u = true → o.lknows (u.into p t) = true → o.lg (u.into p s) (u.into p t) = true
  | [], u, _, _, _ => by cases u; exact h
  | i :: p, .mk f l, hw, hu, h2 => by
    obtain ⟨hi, hw⟩ := hw
    rw [T.into] at h2
    rw [T.into, T.into]
    have e : l.getD i (.mk f l) = l[i] := by simp [hi]
    rw [e] at h2 ⊢
    have ha := lknows_arg hu (a := l[i]) (List.getElem_mem hi)
    have s1 : ∀ x : T, l.set i x = l.take i ++ x :: l.drop (i + 1) := fun x => List.set_eq_take_append_cons_drop.trans (by rw [if_pos hi])
    have m : ∀ x : T, x ∈ l.set i x := fun x => by rw [s1]; simp
    have k2 := (lknows_arg h2 (m _)).1
    have := lg_into h kt p l[i] hw ha.1 k2
    rw [s1, s1]
    exact lg_ctx ha.2.1 k2 this

theorem lg_total {ar : List Int} (hl : ar.length = o.prec.length) (hinj : ∀ f g : Int, 0 ≤ f → f < o.prec.length → 0 ≤ g → g < o.prec.length → o.rank f = o.rank g → f = g) : ∀ (n : Nat) (s t : T), s.size + t.size ≤ n → T.ok ar s = true → T.ok ar t = true → T.vars s = [] → T.vars t = [] → s ≠ t → o.lg s t = true ∨ o.lg t s = true
  | 0, s, _, hn, _, _, _, _, _ => by have := T.size_eq s; omega
  | n + 1, .mk f l, .mk g q, hn, h1, h2, v1, v2, hne => by
    rw [T.size, T.size] at hn
    have gr : ∀ {f : Int} {l : List T}, T.vars (.mk f l) = [] → ¬ f < 0 ∧ ∀ a ∈ l, T.vars a = [] := fun {f l} h => by
      rw [T.vars] at h
      split at h
      · cases h
      · rename_i hf
        refine ⟨hf, fun a ha => ?_⟩
        have : ∀ l : List T, T.varsL l = [] → ∀ a ∈ l, T.vars a = [] := fun l => by
          induction l with
          | nil => simp
          | cons b r ih =>
            intro h a ha
            rw [T.varsL, List.append_eq_nil_iff] at h
            rcases List.mem_cons.1 ha with rfl | ha
            · exact h.1
            · exact ih h.2 a ha
        exact this l h a ha
    obtain ⟨hf, gl⟩ := gr v1
    obtain ⟨hg, gq⟩ := gr v2
    have k1 := T.ok_args h1
    have k2 := T.ok_args h2
    by_cases c1 : ∃ a ∈ l, a = .mk g q ∨ o.lg a (.mk g q) = true
    · obtain ⟨a, ha, h⟩ := c1
      exact .inl (lg_sub (s := .mk f l) hf ha h)
    by_cases c2 : ∃ b ∈ q, b = .mk f l ∨ o.lg b (.mk f l) = true
    · obtain ⟨b, hb, h⟩ := c2
      exact .inr (lg_sub (s := .mk g q) hg hb h)
    have a1 : ∀ a ∈ l, o.lg (.mk g q) a = true := fun a ha => by
      have := T.size_le_sizeL ha
      have hna : ¬ (a = .mk g q ∨ o.lg a (.mk g q) = true) := fun z => c1 ⟨a, ha, z⟩
      rcases lg_total hl hinj n a (.mk g q) (by rw [T.size]; omega) (k1 a ha) h2 (gl a ha) v2 (fun z => hna (.inl z)) with z | z
      · exact absurd (.inr z) hna
      · exact z
    have a2 : ∀ b ∈ q, o.lg (.mk f l) b = true := fun b hb => by
      have := T.size_le_sizeL hb
      have hnb : ¬ (b = .mk f l ∨ o.lg b (.mk f l) = true) := fun z => c2 ⟨b, hb, z⟩
      rcases lg_total hl hinj n b (.mk f l) (by rw [T.size]; omega) (k2 b hb) h1 (gq b hb) v1 (fun z => hnb (.inl z)) with z | z
      · exact absurd (.inr z) hnb
      · exact z
    have f1 := (lknows_top (T.ok_known hl _ h1)).1
    have f2 := (lknows_top (T.ok_known hl _ h2)).1
    simp only [T.f_mk] at f1 f2
    by_cases e : f = g
    · subst e
      have e1 : ∀ {l : List T}, T.ok ar (.mk f l) = true → ar.getD f.toNat 0 = l.length := fun {l} h => by
        rw [T.ok, if_neg hf] at h
        simp only [Bool.and_eq_true, decide_eq_true_eq] at h
        exact h.1.2
      have hlen : l.length = q.length := by have := e1 h1; have := e1 h2; omega
      rcases lexR_total (R := o.lg) l q hlen (fun a ha b hb hab => by
        have := T.size_le_sizeL ha
        have := T.size_le_sizeL hb
        exact lg_total hl hinj n a b (by omega) (k1 a ha) (k2 b hb) (gl a ha) (gq b hb) hab) (fun z => hne (by rw [z])) with z | z
      · exact .inl (lg_iff.2 ⟨hf, .inr ⟨hf, .inr (.inr ⟨rfl, a2, z⟩)⟩⟩)
      · exact .inr (lg_iff.2 ⟨hf, .inr ⟨hf, .inr (.inr ⟨rfl, a1, z⟩)⟩⟩)
    · have hr : o.rank f ≠ o.rank g := fun z => e (hinj f g (by omega) f1 (by omega) f2 z)
      rcases Int.lt_or_gt_of_ne hr with z | z
      · exact .inr (lg_iff.2 ⟨hg, .inr ⟨hf, .inr (.inl ⟨fun z => e z.symm, z, a1⟩)⟩⟩)
      · exact .inl (lg_iff.2 ⟨hf, .inr ⟨hg, .inr (.inl ⟨e, z, a2⟩)⟩⟩)
end Od

end Go.Proofs.Ytlkiabgpnboicaa

/- What an order and terms that fit come to: the laws of the order, plainly. -/
namespace Go.Proofs.Ytlkiabgpnboicaa

namespace T
mutual
theorem ok_over {sg : List Sy} {m : Int} : ∀ (t : T) (top : Bool), low m t = true → over sg top t = true → ok (sg.map (·.ar)) t = true
  | .mk f l, top, h1, h2 => by
    rw [low] at h1
    rw [over] at h2
    rw [ok]
    by_cases hf : f < 0
    · rw [if_pos hf] at h1 ⊢
      simp only [Bool.and_eq_true] at h1
      exact h1.2
    · rw [if_neg hf] at h1 h2 ⊢
      cases hs : sg[f.toNat]? with
      | none => rw [hs] at h2; cases h2
      | some s =>
        rw [hs] at h2
        simp only at h2
        split at h2
        · cases h2
        · rename_i hc
          have hc1 : s.ar = l.length := Classical.not_not.1 fun h => hc (.inl h)
          have hlt := (List.getElem?_eq_some_iff.1 hs).1
          have e : (sg.map (·.ar)).getD f.toNat 0 = s.ar := by rw [List.getD_eq_getElem?_getD, List.getElem?_map, hs]; rfl
          simp only [Bool.and_eq_true, decide_eq_true_eq]
          exact ⟨⟨by simp; omega, e.trans hc1⟩, okL_over l h1 h2⟩
theorem okL_over {sg : List Sy} {m : Int} : ∀ (l : List T), lowL m l = true → overL sg l = true → okL (sg.map (·.ar)) l = true
  | [], _, _ => rfl
  | a :: r, h1, h2 => by
    simp only [lowL, overL, Bool.and_eq_true] at h1 h2
    simp only [okL, Bool.and_eq_true]
    exact ⟨ok_over a false h1.1 h2.1, okL_over r h1.2 h2.2⟩
end

/-- A term over a signature, of no more than 300 parts. -/
theorem check_ok {sg : List Sy} {t : T} (h : t.check sg = 0) : ok (sg.map (·.ar)) t = true ∧ t.size ≤ 300 := by
  unfold check at h
  by_cases hc : sigCheck sg = 0 ∧ small 48 t = true ∧ over sg true t = true
  · have h1 := hc.2.1
    simp only [small, Bool.and_eq_true, decide_eq_true_eq] at h1
    exact ⟨ok_over t true h1.2.2 hc.2.2, h1.1⟩
  · rw [if_neg hc] at h; cases h
end T

namespace Od

theorem good_of {sg : List Sy} {o : Od} (h : OrdOk sg o) (hl : o.lpo = false) : Good o (sg.map (·.ar)) := by
  obtain ⟨h1, h2, h3, h4, h5⟩ := h.kbo hl
  have hlen := h.len
  have wat : ∀ f : Int, 0 ≤ f → o.wsym f = o.weights.getD f.toNat 0 := fun f hf => by unfold wsym; rw [if_neg (by omega)]
  have aat : ∀ (f : Int) (_ : 0 ≤ f) (hf : f.toNat < sg.length), (sg.map (·.ar)).getD f.toNat 0 = sg[f.toNat].ar := fun f _ hf => by
    rw [List.getD_eq_getElem?_getD, List.getElem?_map, List.getElem?_eq_getElem hf]; rfl
  refine ⟨by simpa using hlen, by simpa using h1, fun f g f0 f1 g0 g1 e => ?_, ⟨h2, h3⟩, fun f f0 f1 => ?_, fun f f0 f1 ha => ?_, fun f f0 f1 ha hw g g0 g1 => ?_⟩
  · simp only [List.length_map] at f1 g1
    unfold rank at e
    rcases Nat.lt_trichotomy f.toNat g.toNat with h' | h' | h'
    · exact absurd e.symm ((h.ranks g.toNat (by omega)).2 _ h')
    · omega
    · exact absurd e ((h.ranks f.toNat (by omega)).2 _ h')
  · simp only [List.length_map] at f1
    rw [wat f f0]
    exact (h5 f.toNat (by omega)).1
  · simp only [List.length_map] at f1
    rw [aat f f0 (by omega)] at ha
    rw [wat f f0]
    exact (h5 f.toNat (by omega)).2.1 ha
  · simp only [List.length_map] at f1 g1
    rw [aat f f0 (by omega)] at ha
    rw [wat f f0] at hw
    exact (h5 f.toNat (by omega)).2.2 ha hw g.toNat (by omega)

mutual
theorem Good.knows {o : Od} {ar : List Int} (G : Good o ar) : ∀ t, T.ok ar t = true → o.knows t = true
  | .mk f l, h => by
    rcases T.ok_cases h with ⟨hf, rfl⟩ | ⟨h0, h1, _, hl⟩
    · rw [Od.knows, if_pos hf]; rfl
    · rw [Od.knows, if_neg (by omega)]
      simp only [Bool.and_eq_true, decide_eq_true_eq]
      exact ⟨⟨by rw [G.prec]; exact h1, by rw [G.weights]; exact h1⟩, Good.knowsL G l hl⟩
theorem Good.knowsL {o : Od} {ar : List Int} (G : Good o ar) : ∀ l, T.okL ar l = true → o.knowsL l = true
  | [], _ => rfl
  | a :: r, h => by
    simp only [T.okL, Bool.and_eq_true] at h
    simp only [Od.knowsL, Bool.and_eq_true]
    exact ⟨Good.knows G a h.1, Good.knowsL G r h.2⟩
end

/-- Terms that the order may be asked of. -/
structure Fit (o : Od) (ar : List Int) (t : T) : Prop where
  ok : T.ok ar t = true
  size : t.size ≤ 2000000

theorem fit_of {sg : List Sy} {o : Od} {l : List T} (h : FitsOk sg o l) : Good o (sg.map (·.ar)) ∧ ∀ t ∈ l, Fit o (sg.map (·.ar)) t :=
  ⟨good_of h.2.1 h.1, fun t ht => by have := T.check_ok (h.2.2 t ht); exact ⟨this.1, by omega⟩⟩

section
variable {o : Od} {ar : List Int} {s t u : T}

theorem Good.Cmp_eq (G : Good o ar) (hs : Fit o ar s) (ht : Fit o ar t) : o.Cmp s t = if T.same s t then 2 else if o.kb s t then 3 else if o.kb t s then 1 else 0 := by
  unfold Cmp cmp
  rw [G.knows s hs.ok, G.knows t ht.ok, G.above_kb s t hs.ok ht.ok hs.size ht.size, G.above_kb t s ht.ok hs.ok ht.size hs.size]
  rfl

theorem Good.Cmp_self (G : Good o ar) (hs : Fit o ar s) : o.Cmp s s = 2 := by rw [G.Cmp_eq hs hs, T.same_refl]; rfl

def turn (r : Int) : Int := if r = 1 then 3 else if r = 3 then 1 else r

theorem Good.Cmp_turn (G : Good o ar) (hs : Fit o ar s) (ht : Fit o ar t) : o.Cmp t s = turn (o.Cmp s t) := by
  rw [G.Cmp_eq hs ht, G.Cmp_eq ht hs, T.same_symm t s]
  cases T.same s t with
  | true => rfl
  | false =>
    cases h : o.kb s t with
    | true =>
      have : o.kb t s = false := by
        cases h2 : o.kb t s with
        | false => rfl
        | true =>
          have := G.kb_trans s t s hs.ok ht.ok hs.ok h h2
          rw [kb_irrefl] at this; cases this
      rw [this]; rfl
    | false => cases o.kb t s <;> rfl

theorem Good.Cmp_same (G : Good o ar) (hs : Fit o ar s) (ht : Fit o ar t) : (o.Cmp s t == 2) = T.same s t := by
  rw [G.Cmp_eq hs ht]
  cases T.same s t with
  | true => rfl
  | false => cases o.kb s t <;> cases o.kb t s <;> rfl

theorem Good.Cmp_above (G : Good o ar) (hs : Fit o ar s) (ht : Fit o ar t) : (o.Cmp s t == 3) = o.kb s t := by
  rw [G.Cmp_eq hs ht]
  cases h : T.same s t with
  | true =>
    obtain rfl := (T.same_iff _ _).1 h
    rw [kb_irrefl]; rfl
  | false => cases o.kb s t <;> cases o.kb t s <;> rfl

theorem Good.Cmp_trans (G : Good o ar) (hs : Fit o ar s) (ht : Fit o ar t) (hu : Fit o ar u) : (!(o.Cmp s t == 3) || (!(o.Cmp t u == 3) || (o.Cmp s u == 3))) = true := by
  rw [G.Cmp_above hs ht, G.Cmp_above ht hu, G.Cmp_above hs hu]
  cases h1 : o.kb s t with
  | false => rfl
  | true =>
    cases h2 : o.kb t u with
    | false => rfl
    | true => rw [G.kb_trans s t u hs.ok ht.ok hu.ok h1 h2]; rfl
end
end Od

end Go.Proofs.Ytlkiabgpnboicaa

/- The lexicographic path order over a signature, plainly: what the laws ask of it. -/
namespace Go.Proofs.Ytlkiabgpnboicaa
namespace Od
variable {o : Od} {sg : List Sy} {s t u : T}

theorem lranks (h : OrdOk sg o) : ∀ f g : Int, 0 ≤ f → f < o.prec.length → 0 ≤ g → g < o.prec.length → o.rank f = o.rank g → f = g := by
  intro f g f0 f1 g0 g1 e
  unfold rank at e
  rcases Nat.lt_trichotomy f.toNat g.toNat with h' | h' | h'
  · exact absurd e.symm ((h.ranks g.toNat (by omega)).2 _ h')
  · omega
  · exact absurd e ((h.ranks f.toNat (by omega)).2 _ h')
theorem lknown (h : OrdOk sg o) (ht : t.check sg = 0) : o.lknows t = true := T.ok_known (by simpa using h.len.symm) t (T.check_ok ht).1
theorem lcmp_eq (ks : o.lknows s = true) (kt : o.lknows t = true) : o.lcmp s t = if T.same s t then 2 else if o.lg s t then 3 else if o.lg t s then 1 else 0 := by
  unfold lcmp; rw [ks, kt]; rfl
theorem lcmp_self (ks : o.lknows s = true) : o.lcmp s s = 2 := by rw [lcmp_eq ks ks, T.same_refl]; rfl
theorem lcmp_same (ks : o.lknows s = true) (kt : o.lknows t = true) : (o.lcmp s t == 2) = T.same s t := by
  rw [lcmp_eq ks kt]
  cases T.same s t <;> cases o.lg s t <;> cases o.lg t s <;> rfl
theorem lcmp_above (ks : o.lknows s = true) (kt : o.lknows t = true) : (o.lcmp s t == 3) = o.lg s t := by
  rw [lcmp_eq ks kt]
  cases h : T.same s t with
  | true =>
    have e := (T.same_iff s t).1 h
    subst e
    rw [lg_irrefl ks]; rfl
  | false => cases o.lg s t <;> cases o.lg t s <;> rfl
theorem lcmp_turn (ks : o.lknows s = true) (kt : o.lknows t = true) : o.lcmp t s = if o.lcmp s t = 1 then 3 else if o.lcmp s t = 3 then 1 else o.lcmp s t := by
  rw [lcmp_eq ks kt, lcmp_eq kt ks]
  have e : T.same t s = T.same s t := by
    rw [Bool.eq_iff_iff, T.same_iff, T.same_iff]; exact ⟨Eq.symm, Eq.symm⟩
  rw [e]
  cases h : T.same s t with
  | true => rfl
  | false =>
    cases h1 : o.lg s t with
    | true => rw [lg_asymm ks kt h1]; rfl
    | false => cases o.lg t s <;> rfl
theorem lcmp_trans (ks : o.lknows s = true) (kt : o.lknows t = true) (ku : o.lknows u = true) : (!(o.lcmp s t == 3) || (!(o.lcmp t u == 3) || (o.lcmp s u == 3))) = true := by
  rw [lcmp_above ks kt, lcmp_above kt ku, lcmp_above ks ku]
  cases h1 : o.lg s t with
  | false => rfl
  | true =>
    cases h2 : o.lg t u with
    | false => rfl
    | true => rw [lg_trans _ s t u (Nat.le_refl _) kt ku h1 h2]; rfl
theorem lcmp_total (h : OrdOk sg o) (hs : s.check sg = 0) (ht : t.check sg = 0) (h1 : T.vars s = []) (h2 : T.vars t = []) : o.lcmp s t ≠ 0 := by
  rw [lcmp_eq (lknown h hs) (lknown h ht)]
  cases e : T.same s t with
  | true => simp
  | false =>
    have hne : s ≠ t := fun e' => by rw [e', T.same_refl] at e; cases e
    rcases lg_total (by simpa using h.len.symm) (lranks h) _ s t (Nat.le_refl _) (T.check_ok hs).1 (T.check_ok ht).1 h1 h2 hne with h' | h'
    · rw [h']; simp
    · rw [h']; cases o.lg s t <;> simp
end Od
end Go.Proofs.Ytlkiabgpnboicaa

/- Ranks, the check of a lexicographic order, Fits, Great: what they answer, to the letter. -/
namespace Go.Proofs.Ytlkiabgpnboicaa
open Go.RowKit Go

def RankAt (p : List Int) (i : Nat) : Prop := (0 < i → p.getD 0 0 < p.getD i 0) ∧ ∀ k, k < i → p.getD i 0 ≠ p.getD k 0
instance decRanks (p : List Int) : Decidable (Ranks p) := by unfold Ranks; infer_instance
def ranksB (p : List Int) (n : Int) : Bool := decide ((p.length : Int) = n ∧ Ranks p)
theorem ranks_at {p : List Int} : Ranks p ↔ ∀ i, i < p.length → RankAt p i := Iff.rfl
set_option maxRecDepth 100000 in
theorem ranks_x (p : List Int) (n : Int) (w : World) (a : Option Addr) (c : Nat) (hc : p.length ≤ c) (hm : c ≤ maxLen) (hl : IsInts w p a) :
    Calls Try.prog 39 #[.slice a p.length c, .int .i64 n] w (Ret fun v' w' => v' = .bool (ranksB p n) ∧ Below w.heap.size w w') := by
  unfold maxLen at hm
  refine Calls.walk (l := [.slice a p.length c, .int .i64 n]) Try.func39 rfl (by kernel_rfl) ?_
  refine WC.sub (K' := [(0, .slice a p.length c), (1, .int .i64 n)]) ⟨rfl, rfl, trivial⟩ ?_
  refine WC.seq ?_
  refine WC.region ?_
  refine WL.val (.bool false) rfl rfl rfl (fun za zC zh zk => wp_assign rfl (zh.ev rfl) zk) ?_
  refine WL.nil (WE.sub (K' := [(0, .slice a p.length c), (1, .int .i64 n), (4, .bool false)]) ⟨rfl, rfl, rfl, trivial⟩ ?_)
  refine WE.next ?_
  refine WC.seq ?_
  refine WC.seq ?_
  refine WC.region ?_
  refine WL.val (.slice a p.length c) rfl rfl rfl (fun za zC zh zk => wp_move rfl (zh.ev rfl) zk) ?_
  refine WL.val (.int .i64 (((p.length : Nat) : Int))) rfl rfl rfl (fun za zC zh zk => len_22 rfl (zh.ev rfl) zk) ?_
  refine WL.val (.int .i64 n) rfl rfl rfl (fun za zC zh zk => wp_move rfl (zh.ev rfl) zk) ?_
  refine WL.val (.bool (((((p.length : Nat) : Int) : Int) != (n : Int)))) rfl rfl rfl (fun za zC zh zk => neq_3 rfl (zh.ev rfl) (zh.ev rfl) zk) ?_
  refine WL.nil (WE.sub (K' := [(0, .slice a p.length c), (1, .int .i64 n), (4, .bool false), (10, .bool (((((p.length : Nat) : Int) : Int) != (n : Int))))]) ⟨rfl, rfl, rfl, rfl, trivial⟩ ?_)
  refine WE.next ?_
  refine WC.cond rfl (fun h1 => ?_) (fun h1 => ?_)
  · have h1 : (((p.length : Nat) : Int) : Int) ≠ (n : Int) := by simpa using h1
    refine WC.seq ?_
    refine WC.region ?_
    refine WL.val (.bool false) rfl rfl rfl (fun za zC zh zk => wp_assign rfl (zh.ev rfl) zk) ?_
    refine WL.nil (WE.sub (K' := [(0, .slice a p.length c), (1, .int .i64 n), (4, .bool false), (10, .bool (((((p.length : Nat) : Int) : Int) != (n : Int))))]) ⟨rfl, rfl, rfl, rfl, trivial⟩ ?_)
    refine WE.next ?_
    refine WC.ret ?_
    refine WE.thenRet ?_
    refine WE.ret1 rfl rfl ?_
    exact ⟨_, rfl, congrArg Value.bool (decide_eq_false (fun hh => by have z := h1; have := hh.1; simp at z; omega)).symm, (Below.refl _ _)⟩
  · have h1 : ¬ ((((p.length : Nat) : Int) : Int) ≠ (n : Int)) := by simpa using h1
    refine WC.skip ?_
    refine WE.next ?_
    refine WC.seq ?_
    refine WC.seq ?_
    refine WC.region ?_
    refine WL.val (.int .i64 0) rfl rfl rfl (fun za zC zh zk => wp_assign rfl (zh.ev rfl) zk) ?_
    refine WL.nil (WE.sub (K' := [(0, .slice a p.length c), (1, .int .i64 n), (4, .bool false), (5, .int .i64 0), (10, .bool (((((p.length : Nat) : Int) : Int) != (n : Int))))]) ⟨rfl, rfl, rfl, rfl, rfl, trivial⟩ ?_)
    refine WE.next ?_
    refine WC.block ?_
    refine WC.loop (X := Nat) (fun k => p.length - k) (fun k => [(0, .slice a p.length c), (1, .int .i64 n), (5, .int .i64 (((k : Nat) : Int))), (10, .bool (((((p.length : Nat) : Int) : Int) != (n : Int))))]) (fun k w2 => k ≤ p.length ∧ (∀ i, i < k → RankAt p i) ∧ Below w.heap.size w w2) 0 ⟨rfl, rfl, rfl, rfl, trivial⟩ ?_ ?_
    · exact ⟨Nat.zero_le _, (fun i h => by omega), (Below.refl _ _)⟩
    · rintro k w2 ⟨hk, hall, hb3⟩
      refine WC.seq ?_
      refine WC.seq ?_
      refine WC.region ?_
      refine WL.val (.int .i64 (((k : Nat) : Int))) rfl rfl rfl (fun za zC zh zk => wp_move rfl (zh.ev rfl) zk) ?_
      refine WL.val (.int .i64 n) rfl rfl rfl (fun za zC zh zk => wp_move rfl (zh.ev rfl) zk) ?_
      refine WL.val (.bool ((decide ((((k : Nat) : Int) : Int) < (n : Int))))) rfl rfl rfl (fun za zC zh zk => lss_3 rfl (zh.ev rfl) (zh.ev rfl) zk) ?_
      refine WL.nil (WE.sub (K' := [(0, .slice a p.length c), (1, .int .i64 n), (5, .int .i64 (((k : Nat) : Int))), (10, .bool (((((p.length : Nat) : Int) : Int) != (n : Int)))), (13, .bool ((decide ((((k : Nat) : Int) : Int) < (n : Int)))))]) ⟨rfl, rfl, rfl, rfl, rfl, trivial⟩ ?_)
      refine WE.next ?_
      refine WC.cond rfl (fun h4 => ?_) (fun h4 => ?_)
      · have h4 : (((k : Nat) : Int) : Int) < (n : Int) := by simpa using h4
        refine WC.skip ?_
        refine WE.next ?_
        refine WC.seq ?_
        refine WC.block ?_
        refine WC.seq ?_
        refine WC.seq ?_
        obtain ⟨b5, o6, ha7, hc8⟩ := IsInts.open hl
        refine WC.opt [(true, .val (.int .i64 (((k : Nat) : Int)))), (true, .val (.bool ((decide ((0 : Int) < (((k : Nat) : Int) : Int)))))), (true, .val (.bool ((decide ((0 : Int) < (((k : Nat) : Int) : Int)))))), ((true && (decide ((0 : Int) < (((k : Nat) : Int) : Int)))), .val (.slice a p.length c)), ((true && (decide ((0 : Int) < (((k : Nat) : Int) : Int)))), .val (.int .i64 (((k : Nat) : Int)))), ((true && (decide ((0 : Int) < (((k : Nat) : Int) : Int)))), .val (.pointer (some ⟨b5, o6 + k, none⟩))), ((true && (decide ((0 : Int) < (((k : Nat) : Int) : Int)))), .val (.int .i64 ((iget p k)))), ((true && (decide ((0 : Int) < (((k : Nat) : Int) : Int)))), .val (.slice a p.length c)), ((true && (decide ((0 : Int) < (((k : Nat) : Int) : Int)))), .val (.pointer (some ⟨b5, o6 + 0, none⟩))), ((true && (decide ((0 : Int) < (((k : Nat) : Int) : Int)))), .val (.int .i64 ((iget p 0)))), ((true && (decide ((0 : Int) < (((k : Nat) : Int) : Int)))), .val (.bool ((decide (((iget p k) : Int) ≤ ((iget p 0) : Int)))))), (true, .val (.bool (((decide ((0 : Int) < (((k : Nat) : Int) : Int))) && (decide (((iget p k) : Int) ≤ ((iget p 0) : Int)))))))] [(0, .slice a p.length c), (1, .int .i64 n), (5, .int .i64 (((k : Nat) : Int))), (10, .bool (((((p.length : Nat) : Int) : Int) != (n : Int)))), (13, .bool ((decide ((((k : Nat) : Int) : Int) < (n : Int)))))] ⟨rfl, rfl, rfl, rfl, rfl, trivial⟩ (by kernel_rfl) (by kernel_rfl) (by kernel_rfl) ?_ ?_
        · refine ⟨⟨true, .none rfl, fun h w => optUndef h, fun zβ za zw zc => ?_⟩, ?_⟩
          · exact wp_move rfl (zc.kn.ev rfl) ⟨_, rfl, Below.refl _ _, optDef zβ rfl⟩
          refine ⟨⟨true, .none rfl, fun h w => optUndef h, fun zβ za zw zc => ?_⟩, ?_⟩
          · exact gtr_3 rfl ((show za.eval (.tmp 16) = za.tmps.getD 16 undef from rfl).trans (optVal (zc.dep 0 16 (by kernel_rfl)) rfl rfl)) (zc.kn.ev rfl) ⟨_, rfl, Below.refl _ _, optDef zβ rfl⟩
          refine ⟨⟨true, .none rfl, fun h w => optUndef h, fun zβ za zw zc => ?_⟩, ?_⟩
          · exact wp_move rfl ((show za.eval (.tmp 17) = za.tmps.getD 17 undef from rfl).trans (optVal (zc.dep 1 17 (by kernel_rfl)) rfl rfl)) ⟨_, rfl, Below.refl _ _, optDef zβ rfl⟩
          refine ⟨⟨(true && (decide ((0 : Int) < (((k : Nat) : Int) : Int)))), .yes (c := (decide ((0 : Int) < (((k : Nat) : Int) : Int)))) (d := true) rfl (fun v w h => h), fun h w => optUndef h, fun zβ za zw zc => ?_⟩, ?_⟩
          · exact wp_move rfl (zc.kn.ev rfl) ⟨_, rfl, Below.refl _ _, optDef zβ rfl⟩
          refine ⟨⟨(true && (decide ((0 : Int) < (((k : Nat) : Int) : Int)))), .yes (c := (decide ((0 : Int) < (((k : Nat) : Int) : Int)))) (d := true) rfl (fun v w h => h), fun h w => optUndef h, fun zβ za zw zc => ?_⟩, ?_⟩
          · exact wp_move rfl (zc.kn.ev rfl) ⟨_, rfl, Below.refl _ _, optDef zβ rfl⟩
          refine ⟨⟨(true && (decide ((0 : Int) < (((k : Nat) : Int) : Int)))), .yes (c := (decide ((0 : Int) < (((k : Nat) : Int) : Int)))) (d := true) rfl (fun v w h => h), fun h w => optUndef h, fun zβ za zw zc => ?_⟩, ?_⟩
          · exact ix_22 (k := k) rfl ((show za.eval (.tmp 19) = za.tmps.getD 19 undef from rfl).trans (optVal (zc.dep 3 19 (by kernel_rfl)) rfl zβ)) (ha7 k (by have zz := zβ; simp only [Bool.and_eq_true, Bool.or_eq_true, Bool.true_and, Bool.not_eq_true', Bool.or_eq_false_iff, Bool.and_eq_false_iff, beq_eq_false_iff_ne, ne_eq, beq_iff_eq, decide_eq_true_eq, decide_eq_false_iff_not, bne_iff_ne] at zz; omega)) ((show za.eval (.tmp 20) = za.tmps.getD 20 undef from rfl).trans (optVal (zc.dep 4 20 (by kernel_rfl)) rfl zβ)) (by have zz := zβ; simp only [Bool.and_eq_true, Bool.or_eq_true, Bool.true_and, Bool.not_eq_true', Bool.or_eq_false_iff, Bool.and_eq_false_iff, beq_eq_false_iff_ne, ne_eq, beq_iff_eq, decide_eq_true_eq, decide_eq_false_iff_not, bne_iff_ne] at zz; omega) ⟨_, rfl, Below.refl _ _, optDef zβ rfl⟩
          refine ⟨⟨(true && (decide ((0 : Int) < (((k : Nat) : Int) : Int)))), .yes (c := (decide ((0 : Int) < (((k : Nat) : Int) : Int)))) (d := true) rfl (fun v w h => h), fun h w => optUndef h, fun zβ za zw zc => ?_⟩, ?_⟩
          · exact ld_3 rfl ((show za.eval (.tmp 21) = za.tmps.getD 21 undef from rfl).trans (optVal (zc.dep 5 21 (by kernel_rfl)) rfl zβ)) (bkeeps (bstep hb3 zc.below) _ _ (hc8 k (by have zz := zβ; simp only [Bool.and_eq_true, Bool.or_eq_true, Bool.true_and, Bool.not_eq_true', Bool.or_eq_false_iff, Bool.and_eq_false_iff, beq_eq_false_iff_ne, ne_eq, beq_iff_eq, decide_eq_true_eq, decide_eq_false_iff_not, bne_iff_ne] at zz; omega))) ⟨_, rfl, Below.refl _ _, optDef zβ rfl⟩
          refine ⟨⟨(true && (decide ((0 : Int) < (((k : Nat) : Int) : Int)))), .yes (c := (decide ((0 : Int) < (((k : Nat) : Int) : Int)))) (d := true) rfl (fun v w h => h), fun h w => optUndef h, fun zβ za zw zc => ?_⟩, ?_⟩
          · exact wp_move rfl (zc.kn.ev rfl) ⟨_, rfl, Below.refl _ _, optDef zβ rfl⟩
          refine ⟨⟨(true && (decide ((0 : Int) < (((k : Nat) : Int) : Int)))), .yes (c := (decide ((0 : Int) < (((k : Nat) : Int) : Int)))) (d := true) rfl (fun v w h => h), fun h w => optUndef h, fun zβ za zw zc => ?_⟩, ?_⟩
          · exact ix_22 (k := 0) rfl ((show za.eval (.tmp 23) = za.tmps.getD 23 undef from rfl).trans (optVal (zc.dep 7 23 (by kernel_rfl)) rfl zβ)) (ha7 0 (by have zz := zβ; simp only [Bool.and_eq_true, Bool.or_eq_true, Bool.true_and, Bool.not_eq_true', Bool.or_eq_false_iff, Bool.and_eq_false_iff, beq_eq_false_iff_ne, ne_eq, beq_iff_eq, decide_eq_true_eq, decide_eq_false_iff_not, bne_iff_ne] at zz; omega)) (zc.kn.ev rfl) (by have zz := zβ; simp only [Bool.and_eq_true, Bool.or_eq_true, Bool.true_and, Bool.not_eq_true', Bool.or_eq_false_iff, Bool.and_eq_false_iff, beq_eq_false_iff_ne, ne_eq, beq_iff_eq, decide_eq_true_eq, decide_eq_false_iff_not, bne_iff_ne] at zz; omega) ⟨_, rfl, Below.refl _ _, optDef zβ rfl⟩
          refine ⟨⟨(true && (decide ((0 : Int) < (((k : Nat) : Int) : Int)))), .yes (c := (decide ((0 : Int) < (((k : Nat) : Int) : Int)))) (d := true) rfl (fun v w h => h), fun h w => optUndef h, fun zβ za zw zc => ?_⟩, ?_⟩
          · exact ld_3 rfl ((show za.eval (.tmp 24) = za.tmps.getD 24 undef from rfl).trans (optVal (zc.dep 8 24 (by kernel_rfl)) rfl zβ)) (bkeeps (bstep hb3 zc.below) _ _ (hc8 0 (by have zz := zβ; simp only [Bool.and_eq_true, Bool.or_eq_true, Bool.true_and, Bool.not_eq_true', Bool.or_eq_false_iff, Bool.and_eq_false_iff, beq_eq_false_iff_ne, ne_eq, beq_iff_eq, decide_eq_true_eq, decide_eq_false_iff_not, bne_iff_ne] at zz; omega))) ⟨_, rfl, Below.refl _ _, optDef zβ rfl⟩
          refine ⟨⟨(true && (decide ((0 : Int) < (((k : Nat) : Int) : Int)))), .yes (c := (decide ((0 : Int) < (((k : Nat) : Int) : Int)))) (d := true) rfl (fun v w h => h), fun h w => optUndef h, fun zβ za zw zc => ?_⟩, ?_⟩
          · exact leq_3 rfl ((show za.eval (.tmp 22) = za.tmps.getD 22 undef from rfl).trans (optVal (zc.dep 6 22 (by kernel_rfl)) rfl zβ)) ((show za.eval (.tmp 25) = za.tmps.getD 25 undef from rfl).trans (optVal (zc.dep 9 25 (by kernel_rfl)) rfl zβ)) ⟨_, rfl, Below.refl _ _, optDef zβ rfl⟩
          refine ⟨⟨true, .none rfl, fun h w => optUndef h, fun zβ za zw zc => ?_⟩, ?_⟩
          · exact wp_and rfl ((show za.eval (.tmp 18) = za.tmps.getD 18 undef from rfl).trans (optVal (zc.dep 2 18 (by kernel_rfl)) rfl rfl)) (fun hp => ((show za.eval (.tmp 26) = za.tmps.getD 26 undef from rfl).trans (optVal (zc.dep 10 26 (by kernel_rfl)) rfl (bMk zβ hp)))) ⟨_, rfl, Below.refl _ _, optDef zβ rfl⟩
          exact trivial
        · intro za w9 zh hb10 zu
          have zh := zh.cons (d := 27) (v := .bool (((decide ((0 : Int) < (((k : Nat) : Int) : Int))) && (decide (((iget p k) : Int) ≤ ((iget p 0) : Int)))))) (optVal (zu 11 27 (by kernel_rfl)) rfl rfl)
          clear zu
          refine (show WE _ [(0, .slice a p.length c), (1, .int .i64 n), (5, .int .i64 (((k : Nat) : Int))), (10, .bool (((((p.length : Nat) : Int) : Int) != (n : Int)))), (13, .bool ((decide ((((k : Nat) : Int) : Int) < (n : Int))))), (27, .bool (((decide ((0 : Int) < (((k : Nat) : Int) : Int))) && (decide (((iget p k) : Int) ≤ ((iget p 0) : Int))))))] w9 _ .normal from ?_) za (zh.sub ⟨rfl, rfl, rfl, rfl, rfl, rfl, trivial⟩)
          refine WE.next ?_
          refine WC.cond rfl (fun h11 => ?_) (fun h11 => ?_)
          · have h11 : ((0 : Int) < (((k : Nat) : Int) : Int)) ∧ (((iget p k) : Int) ≤ ((iget p 0) : Int)) := by simpa using h11
            refine WC.seq ?_
            refine WC.region ?_
            refine WL.val (.bool false) rfl rfl rfl (fun za zC zh zk => wp_assign rfl (zh.ev rfl) zk) ?_
            refine WL.nil (WE.sub (K' := [(0, .slice a p.length c), (1, .int .i64 n), (4, .bool false), (5, .int .i64 (((k : Nat) : Int))), (10, .bool (((((p.length : Nat) : Int) : Int) != (n : Int)))), (13, .bool ((decide ((((k : Nat) : Int) : Int) < (n : Int))))), (27, .bool (((decide ((0 : Int) < (((k : Nat) : Int) : Int))) && (decide (((iget p k) : Int) ≤ ((iget p 0) : Int))))))]) ⟨rfl, rfl, rfl, rfl, rfl, rfl, rfl, trivial⟩ ?_)
            refine WE.next ?_
            refine WC.ret ?_
            refine WE.thenRet ?_
            refine WE.blockRet ?_
            refine WE.thenRet ?_
            refine WE.thenRet ?_
            refine WE.blockRet ?_
            refine WE.thenRet ?_
            refine WE.ret1 rfl rfl ?_
            have hb12 : Below w.heap.size w w9 := (bstep hb3 hb10)
            exact ⟨_, rfl, congrArg Value.bool (decide_eq_false (fun hh => by have z := h11; have z2 := (hh.2 k (by omega)).1; unfold iget at z; omega)).symm, hb12⟩
          · have h11 : ¬ (((0 : Int) < (((k : Nat) : Int) : Int)) ∧ (((iget p k) : Int) ≤ ((iget p 0) : Int))) := by simpa using h11
            refine WC.skip ?_
            refine WE.next ?_
            refine WC.seq ?_
            refine WC.region ?_
            refine WL.val (.int .i64 0) rfl rfl rfl (fun za zC zh zk => wp_assign rfl (zh.ev rfl) zk) ?_
            refine WL.nil (WE.sub (K' := [(0, .slice a p.length c), (1, .int .i64 n), (5, .int .i64 (((k : Nat) : Int))), (6, .int .i64 0), (10, .bool (((((p.length : Nat) : Int) : Int) != (n : Int)))), (13, .bool ((decide ((((k : Nat) : Int) : Int) < (n : Int))))), (27, .bool (((decide ((0 : Int) < (((k : Nat) : Int) : Int))) && (decide (((iget p k) : Int) ≤ ((iget p 0) : Int))))))]) ⟨rfl, rfl, rfl, rfl, rfl, rfl, rfl, trivial⟩ ?_)
            refine WE.next ?_
            refine WC.block ?_
            have hn27 : ¬ (0 < (k : Int) ∧ iget p k ≤ iget p 0) := by have z := h11; simpa using z
            refine WC.loop (X := Nat) (fun j => k - j) (fun j => [(0, .slice a p.length c), (1, .int .i64 n), (5, .int .i64 (((k : Nat) : Int))), (6, .int .i64 (((j : Nat) : Int))), (10, .bool (((((p.length : Nat) : Int) : Int) != (n : Int)))), (13, .bool ((decide ((((k : Nat) : Int) : Int) < (n : Int))))), (27, .bool (((decide ((0 : Int) < (((k : Nat) : Int) : Int))) && (decide (((iget p k) : Int) ≤ ((iget p 0) : Int))))))]) (fun j w13 => j ≤ k ∧ (∀ m, m < j → p.getD k 0 ≠ p.getD m 0) ∧ Below w.heap.size w w13) 0 ⟨rfl, rfl, rfl, rfl, rfl, rfl, rfl, trivial⟩ ?_ ?_
            · have hb14 : Below w.heap.size w w9 := (bstep hb3 hb10)
              exact ⟨Nat.zero_le _, (fun m h => by omega), hb14⟩
            · rintro j w13 ⟨hj, hin, hb15⟩
              refine WC.seq ?_
              refine WC.seq ?_
              refine WC.region ?_
              refine WL.val (.int .i64 (((j : Nat) : Int))) rfl rfl rfl (fun za zC zh zk => wp_move rfl (zh.ev rfl) zk) ?_
              refine WL.val (.int .i64 (((k : Nat) : Int))) rfl rfl rfl (fun za zC zh zk => wp_move rfl (zh.ev rfl) zk) ?_
              refine WL.val (.bool ((decide ((((j : Nat) : Int) : Int) < (((k : Nat) : Int) : Int))))) rfl rfl rfl (fun za zC zh zk => lss_3 rfl (zh.ev rfl) (zh.ev rfl) zk) ?_
              refine WL.nil (WE.sub (K' := [(0, .slice a p.length c), (1, .int .i64 n), (5, .int .i64 (((k : Nat) : Int))), (6, .int .i64 (((j : Nat) : Int))), (10, .bool (((((p.length : Nat) : Int) : Int) != (n : Int)))), (13, .bool ((decide ((((k : Nat) : Int) : Int) < (n : Int))))), (27, .bool (((decide ((0 : Int) < (((k : Nat) : Int) : Int))) && (decide (((iget p k) : Int) ≤ ((iget p 0) : Int)))))), (30, .bool ((decide ((((j : Nat) : Int) : Int) < (((k : Nat) : Int) : Int)))))]) ⟨rfl, rfl, rfl, rfl, rfl, rfl, rfl, rfl, trivial⟩ ?_)
              refine WE.next ?_
              refine WC.cond rfl (fun h16 => ?_) (fun h16 => ?_)
              · have h16 : (((j : Nat) : Int) : Int) < (((k : Nat) : Int) : Int) := by simpa using h16
                refine WC.skip ?_
                refine WE.next ?_
                refine WC.seq ?_
                refine WC.block ?_
                refine WC.seq ?_
                refine WC.opt [(true, .val (.slice a p.length c)), (true, .val (.int .i64 (((k : Nat) : Int)))), (true, .val (.pointer (some ⟨b5, o6 + k, none⟩))), (true, .val (.int .i64 ((iget p k)))), (true, .val (.slice a p.length c)), (true, .val (.int .i64 (((j : Nat) : Int)))), (true, .val (.pointer (some ⟨b5, o6 + j, none⟩))), (true, .val (.int .i64 ((iget p j)))), (true, .val (.bool ((((iget p k) : Int) == ((iget p j) : Int)))))] [(0, .slice a p.length c), (1, .int .i64 n), (5, .int .i64 (((k : Nat) : Int))), (6, .int .i64 (((j : Nat) : Int))), (10, .bool (((((p.length : Nat) : Int) : Int) != (n : Int)))), (13, .bool ((decide ((((k : Nat) : Int) : Int) < (n : Int))))), (27, .bool (((decide ((0 : Int) < (((k : Nat) : Int) : Int))) && (decide (((iget p k) : Int) ≤ ((iget p 0) : Int)))))), (30, .bool ((decide ((((j : Nat) : Int) : Int) < (((k : Nat) : Int) : Int)))))] ⟨rfl, rfl, rfl, rfl, rfl, rfl, rfl, rfl, trivial⟩ (by kernel_rfl) (by kernel_rfl) (by kernel_rfl) ?_ ?_
                · refine ⟨⟨true, .none rfl, fun h w => optUndef h, fun zβ za zw zc => ?_⟩, ?_⟩
                  · exact wp_move rfl (zc.kn.ev rfl) ⟨_, rfl, Below.refl _ _, optDef zβ rfl⟩
                  refine ⟨⟨true, .none rfl, fun h w => optUndef h, fun zβ za zw zc => ?_⟩, ?_⟩
                  · exact wp_move rfl (zc.kn.ev rfl) ⟨_, rfl, Below.refl _ _, optDef zβ rfl⟩
                  refine ⟨⟨true, .none rfl, fun h w => optUndef h, fun zβ za zw zc => ?_⟩, ?_⟩
                  · exact ix_22 (k := k) rfl ((show za.eval (.tmp 33) = za.tmps.getD 33 undef from rfl).trans (optVal (zc.dep 0 33 (by kernel_rfl)) rfl rfl)) (ha7 k (by first | omega | (simp; omega))) ((show za.eval (.tmp 34) = za.tmps.getD 34 undef from rfl).trans (optVal (zc.dep 1 34 (by kernel_rfl)) rfl rfl)) (by first | omega | (simp; omega)) ⟨_, rfl, Below.refl _ _, optDef zβ rfl⟩
                  refine ⟨⟨true, .none rfl, fun h w => optUndef h, fun zβ za zw zc => ?_⟩, ?_⟩
                  · exact ld_3 rfl ((show za.eval (.tmp 35) = za.tmps.getD 35 undef from rfl).trans (optVal (zc.dep 2 35 (by kernel_rfl)) rfl rfl)) (bkeeps (bstep hb15 zc.below) _ _ (hc8 k (by first | omega | (simp; omega)))) ⟨_, rfl, Below.refl _ _, optDef zβ rfl⟩
                  refine ⟨⟨true, .none rfl, fun h w => optUndef h, fun zβ za zw zc => ?_⟩, ?_⟩
                  · exact wp_move rfl (zc.kn.ev rfl) ⟨_, rfl, Below.refl _ _, optDef zβ rfl⟩
                  refine ⟨⟨true, .none rfl, fun h w => optUndef h, fun zβ za zw zc => ?_⟩, ?_⟩
                  · exact wp_move rfl (zc.kn.ev rfl) ⟨_, rfl, Below.refl _ _, optDef zβ rfl⟩
                  refine ⟨⟨true, .none rfl, fun h w => optUndef h, fun zβ za zw zc => ?_⟩, ?_⟩
                  · exact ix_22 (k := j) rfl ((show za.eval (.tmp 37) = za.tmps.getD 37 undef from rfl).trans (optVal (zc.dep 4 37 (by kernel_rfl)) rfl rfl)) (ha7 j (by first | omega | (simp; omega))) ((show za.eval (.tmp 38) = za.tmps.getD 38 undef from rfl).trans (optVal (zc.dep 5 38 (by kernel_rfl)) rfl rfl)) (by first | omega | (simp; omega)) ⟨_, rfl, Below.refl _ _, optDef zβ rfl⟩
                  refine ⟨⟨true, .none rfl, fun h w => optUndef h, fun zβ za zw zc => ?_⟩, ?_⟩
                  · exact ld_3 rfl ((show za.eval (.tmp 39) = za.tmps.getD 39 undef from rfl).trans (optVal (zc.dep 6 39 (by kernel_rfl)) rfl rfl)) (bkeeps (bstep hb15 zc.below) _ _ (hc8 j (by first | omega | (simp; omega)))) ⟨_, rfl, Below.refl _ _, optDef zβ rfl⟩
                  refine ⟨⟨true, .none rfl, fun h w => optUndef h, fun zβ za zw zc => ?_⟩, ?_⟩
                  · exact eql_3 rfl ((show za.eval (.tmp 36) = za.tmps.getD 36 undef from rfl).trans (optVal (zc.dep 3 36 (by kernel_rfl)) rfl rfl)) ((show za.eval (.tmp 40) = za.tmps.getD 40 undef from rfl).trans (optVal (zc.dep 7 40 (by kernel_rfl)) rfl rfl)) ⟨_, rfl, Below.refl _ _, optDef zβ rfl⟩
                  exact trivial
                · intro za w17 zh hb18 zu
                  have zh := zh.cons (d := 41) (v := .bool ((((iget p k) : Int) == ((iget p j) : Int)))) (optVal (zu 8 41 (by kernel_rfl)) rfl rfl)
                  clear zu
                  refine (show WE _ [(0, .slice a p.length c), (1, .int .i64 n), (5, .int .i64 (((k : Nat) : Int))), (6, .int .i64 (((j : Nat) : Int))), (10, .bool (((((p.length : Nat) : Int) : Int) != (n : Int)))), (13, .bool ((decide ((((k : Nat) : Int) : Int) < (n : Int))))), (27, .bool (((decide ((0 : Int) < (((k : Nat) : Int) : Int))) && (decide (((iget p k) : Int) ≤ ((iget p 0) : Int)))))), (30, .bool ((decide ((((j : Nat) : Int) : Int) < (((k : Nat) : Int) : Int))))), (41, .bool ((((iget p k) : Int) == ((iget p j) : Int))))] w17 _ .normal from ?_) za (zh.sub ⟨rfl, rfl, rfl, rfl, rfl, rfl, rfl, rfl, rfl, trivial⟩)
                  refine WE.next ?_
                  refine WC.cond rfl (fun h19 => ?_) (fun h19 => ?_)
                  · have h19 : ((iget p k) : Int) = ((iget p j) : Int) := by simpa using h19
                    refine WC.seq ?_
                    refine WC.region ?_
                    refine WL.val (.bool false) rfl rfl rfl (fun za zC zh zk => wp_assign rfl (zh.ev rfl) zk) ?_
                    refine WL.nil (WE.sub (K' := [(0, .slice a p.length c), (1, .int .i64 n), (4, .bool false), (5, .int .i64 (((k : Nat) : Int))), (6, .int .i64 (((j : Nat) : Int))), (10, .bool (((((p.length : Nat) : Int) : Int) != (n : Int)))), (13, .bool ((decide ((((k : Nat) : Int) : Int) < (n : Int))))), (27, .bool (((decide ((0 : Int) < (((k : Nat) : Int) : Int))) && (decide (((iget p k) : Int) ≤ ((iget p 0) : Int)))))), (30, .bool ((decide ((((j : Nat) : Int) : Int) < (((k : Nat) : Int) : Int))))), (41, .bool ((((iget p k) : Int) == ((iget p j) : Int))))]) ⟨rfl, rfl, rfl, rfl, rfl, rfl, rfl, rfl, rfl, rfl, trivial⟩ ?_)
                    refine WE.next ?_
                    refine WC.ret ?_
                    refine WE.blockRet ?_
                    refine WE.thenRet ?_
                    refine WE.thenRet ?_
                    refine WE.blockRet ?_
                    refine WE.blockRet ?_
                    refine WE.thenRet ?_
                    refine WE.thenRet ?_
                    refine WE.blockRet ?_
                    refine WE.thenRet ?_
                    refine WE.ret1 rfl rfl ?_
                    have hb20 : Below w.heap.size w w17 := (bstep hb15 hb18)
                    exact ⟨_, rfl, congrArg Value.bool (decide_eq_false (fun hh => by have z := h19; exact ((hh.2 k (by omega)).2 j (by omega)) (by simpa [iget] using z))).symm, hb20⟩
                  · have h19 : ¬ (((iget p k) : Int) = ((iget p j) : Int)) := by simpa using h19
                    refine WC.skip ?_
                    refine WE.blockNormal ?_
                    refine WE.next ?_
                    refine WC.region ?_
                    refine WL.val (.int .i64 (((j : Nat) : Int))) rfl rfl rfl (fun za zC zh zk => wp_move rfl (zh.ev rfl) zk) ?_
                    refine WL.val (.int .i64 ((((j + 1) : Nat) : Int))) rfl rfl rfl (fun za zC zh zk => addb_3 rfl (zh.ev rfl) (zh.ev rfl) (wrap_eq (by omega) (by omega) (by omega)) zk) ?_
                    refine WL.val (.int .i64 ((((j + 1) : Nat) : Int))) rfl rfl rfl (fun za zC zh zk => wp_assign rfl (zh.ev rfl) zk) ?_
                    refine WL.nil (WE.sub (K' := [(0, .slice a p.length c), (1, .int .i64 n), (5, .int .i64 (((k : Nat) : Int))), (6, .int .i64 ((((j + 1) : Nat) : Int))), (10, .bool (((((p.length : Nat) : Int) : Int) != (n : Int)))), (13, .bool ((decide ((((k : Nat) : Int) : Int) < (n : Int))))), (27, .bool (((decide ((0 : Int) < (((k : Nat) : Int) : Int))) && (decide (((iget p k) : Int) ≤ ((iget p 0) : Int)))))), (30, .bool ((decide ((((j : Nat) : Int) : Int) < (((k : Nat) : Int) : Int))))), (41, .bool ((((iget p k) : Int) == ((iget p j) : Int))))]) ⟨rfl, rfl, rfl, rfl, rfl, rfl, rfl, rfl, rfl, trivial⟩ ?_)
                    refine WE.round (j + 1) ⟨rfl, rfl, rfl, rfl, rfl, rfl, rfl, trivial⟩ ?_ ?_
                    · have hb21 : Below w.heap.size w w17 := (bstep hb15 hb18)
                      exact ⟨by omega, (fun m hm2 => by
                          rcases Nat.lt_or_ge m j with h | h
                          · exact hin m h
                          · obtain rfl : m = j := by omega
                            have z := h19
                            simpa [iget] using z), hb21⟩
                    · omega
              · have h16 : ¬ ((((j : Nat) : Int) : Int) < (((k : Nat) : Int) : Int)) := by simpa using h16
                refine WC.exit ?_
                refine WE.thenExit ?_
                refine WE.thenExit ?_
                refine WE.blockIs rfl ?_
                refine WE.blockNormal ?_
                refine WE.next ?_
                refine WC.region ?_
                refine WL.val (.int .i64 (((k : Nat) : Int))) rfl rfl rfl (fun za zC zh zk => wp_move rfl (zh.ev rfl) zk) ?_
                refine WL.val (.int .i64 ((((k + 1) : Nat) : Int))) rfl rfl rfl (fun za zC zh zk => addb_3 rfl (zh.ev rfl) (zh.ev rfl) (wrap_eq (by omega) (by omega) (by omega)) zk) ?_
                refine WL.val (.int .i64 ((((k + 1) : Nat) : Int))) rfl rfl rfl (fun za zC zh zk => wp_assign rfl (zh.ev rfl) zk) ?_
                refine WL.nil (WE.sub (K' := [(0, .slice a p.length c), (1, .int .i64 n), (5, .int .i64 ((((k + 1) : Nat) : Int))), (6, .int .i64 (((j : Nat) : Int))), (10, .bool (((((p.length : Nat) : Int) : Int) != (n : Int)))), (13, .bool ((decide ((((k : Nat) : Int) : Int) < (n : Int))))), (27, .bool (((decide ((0 : Int) < (((k : Nat) : Int) : Int))) && (decide (((iget p k) : Int) ≤ ((iget p 0) : Int)))))), (30, .bool ((decide ((((j : Nat) : Int) : Int) < (((k : Nat) : Int) : Int)))))]) ⟨rfl, rfl, rfl, rfl, rfl, rfl, rfl, rfl, trivial⟩ ?_)
                refine WE.round (k + 1) ⟨rfl, rfl, rfl, rfl, trivial⟩ ?_ ?_
                · exact ⟨by omega, (fun i hi => by
                      rcases Nat.lt_or_ge i k with h | h
                      · exact hall i h
                      · obtain rfl : i = k := by omega
                        exact ⟨fun h0 => by have z := hn27; simp only [iget] at z; omega, fun m hm => hin m (by omega)⟩), hb15⟩
                · omega
      · have h4 : ¬ ((((k : Nat) : Int) : Int) < (n : Int)) := by simpa using h4
        refine WC.exit ?_
        refine WE.thenExit ?_
        refine WE.thenExit ?_
        refine WE.blockIs rfl ?_
        refine WE.next ?_
        refine WC.seq ?_
        refine WC.region ?_
        refine WL.val (.bool true) rfl rfl rfl (fun za zC zh zk => wp_assign rfl (zh.ev rfl) zk) ?_
        refine WL.nil (WE.sub (K' := [(0, .slice a p.length c), (1, .int .i64 n), (4, .bool true), (5, .int .i64 (((k : Nat) : Int))), (10, .bool (((((p.length : Nat) : Int) : Int) != (n : Int)))), (13, .bool ((decide ((((k : Nat) : Int) : Int) < (n : Int)))))]) ⟨rfl, rfl, rfl, rfl, rfl, rfl, trivial⟩ ?_)
        refine WE.next ?_
        refine WC.ret ?_
        refine WE.ret1 rfl rfl ?_
        exact ⟨_, rfl, congrArg Value.bool (decide_eq_true ⟨by omega, fun i hi => hall i (by omega)⟩).symm, hb3⟩

def lordCheck (sg : List Sy) (o : Od) : Int := if sigCheck sg = 0 ∧ ranksB o.prec sg.length = true then 0 else 2
set_option maxRecDepth 100000 in
theorem lordCheck_any (sg : List Sy) (o : Od) (w : World) (vs vo : Value) (hl : o.lpo = true) (hs : IsSig w sg vs) (ho : IsOd w o vo) :
    Calls Try.prog 28 #[vs, vo] w (Ret fun v' w' => v' = .int .i64 (lordCheck sg o) ∧ Below w.heap.size w w') := by
  have hst := hs
  obtain ⟨p1, p2, k1, k2, rfl, hk1, hk2, _, _, hp, _, _⟩ := ho
  obtain ⟨a, c, rfl, _, _, _⟩ := hs
  rw [hl]
  refine Calls.walk (l := [.agg #[.slice a sg.length c], .agg #[.bool true, .slice p1 o.prec.length k1, .slice p2 o.weights.length k2, .int .i64 o.var]]) Try.func28 rfl (by kernel_rfl) ?_
  refine WC.sub (K' := [(0, .agg #[.slice a sg.length c]), (1, .agg #[.bool true, .slice p1 o.prec.length k1, .slice p2 o.weights.length k2, .int .i64 o.var])]) ⟨rfl, rfl, trivial⟩ ?_
  refine WC.seq ?_
  refine WC.region ?_
  refine WL.step (post := NewBlk w 35 #[.slice a sg.length c]) rfl rfl rfl (fun za zC zh zk => box_35 rfl (zh.ev rfl) (zk _ _ (newBlk _ _ _))) ?_
  rintro _ w1 ⟨g2, rfl, hg3, hB4, hb5, hz6⟩
  have hl7 : w.heap.size ≤ g2 := by omega
  refine WL.step (post := NewBlk w1 24 #[.bool true, .slice p1 o.prec.length k1, .slice p2 o.weights.length k2, .int .i64 o.var]) rfl rfl rfl (fun za zC zh zk => box_24 rfl (zh.ev rfl) (zk _ _ (newBlk _ _ _))) ?_
  rintro _ w8 ⟨g9, rfl, hg10, hB11, hb12, hz13⟩
  have hl14 : g2 < g9 := by have z1 := hB4.lt; omega
  have hl15 : w.heap.size ≤ g9 := by have z2 := (hb5).size; omega
  refine WL.val (.int .i64 0) rfl rfl rfl (fun za zC zh zk => wp_assign rfl (zh.ev rfl) zk) ?_
  refine WL.nil (WE.sub (K' := [(0, .agg #[.slice a sg.length c]), (1, .agg #[.bool true, .slice p1 o.prec.length k1, .slice p2 o.weights.length k2, .int .i64 o.var]), (2, .pointer (some ⟨g2, 0, none⟩)), (3, .pointer (some ⟨g9, 0, none⟩)), (4, .int .i64 0)]) ⟨rfl, rfl, rfl, rfl, rfl, trivial⟩ ?_)
  refine WE.next ?_
  refine WC.seq ?_
  refine WC.seq ?_
  have hB16 := hB4.below hb12
  have hb17 : Below w.heap.size w w8 := (bstep hb5 hb12)
  refine WC.opt [(true, .val (.agg #[.slice a sg.length c])), (true, .val (.int .i64 ((sigCheck sg)))), (true, .val (.bool ((((sigCheck sg) : Int) != (0 : Int))))), (true, .val (.bool ((((sigCheck sg) : Int) != (0 : Int))))), ((true && !(((sigCheck sg) : Int) != (0 : Int))), .val (.pointer (some ⟨g9, 1, none⟩))), ((true && !(((sigCheck sg) : Int) != (0 : Int))), .val (.slice p1 o.prec.length k1)), ((true && !(((sigCheck sg) : Int) != (0 : Int))), .val (.pointer (some ⟨g2, 0, none⟩))), ((true && !(((sigCheck sg) : Int) != (0 : Int))), .val (.slice a sg.length c)), ((true && !(((sigCheck sg) : Int) != (0 : Int))), .val (.int .i64 (((sg.length : Nat) : Int)))), ((true && !(((sigCheck sg) : Int) != (0 : Int))), .val (.bool ((ranksB o.prec (sg.length : Int))))), ((true && !(((sigCheck sg) : Int) != (0 : Int))), .val (.bool ((!(ranksB o.prec (sg.length : Int)))))), (true, .val (.bool (((((sigCheck sg) : Int) != (0 : Int)) || (!(ranksB o.prec (sg.length : Int)))))))] [(0, .agg #[.slice a sg.length c]), (1, .agg #[.bool true, .slice p1 o.prec.length k1, .slice p2 o.weights.length k2, .int .i64 o.var]), (2, .pointer (some ⟨g2, 0, none⟩)), (3, .pointer (some ⟨g9, 0, none⟩)), (4, .int .i64 0)] ⟨rfl, rfl, rfl, rfl, rfl, trivial⟩ (by kernel_rfl) (by kernel_rfl) (by kernel_rfl) ?_ ?_
  · refine ⟨⟨true, .none rfl, fun h w => optUndef h, fun zβ za zw zc => ?_⟩, ?_⟩
    · exact ld_35 rfl (zc.kn.ev rfl) (bkeeps zc.below _ _ ((hB16.cell 0).trans rfl)) ⟨_, rfl, Below.refl _ _, optDef zβ rfl⟩
    refine ⟨⟨true, .none rfl, fun h w => optUndef h, fun zβ za zw zc => ?_⟩, ?_⟩
    · exact wp_call (by kernel_rfl) rfl (hv1 ((show za.eval (.tmp 7) = za.tmps.getD 7 undef from rfl).trans (optVal (zc.dep 0 7 (by kernel_rfl)) rfl rfl))) (ret_of (sigCheck_any sg _ _ (IsSig.below (bstep hb17 zc.below) hst))) (fun v w' h => ⟨v, rfl, h.2, optDef zβ h.1⟩)
    refine ⟨⟨true, .none rfl, fun h w => optUndef h, fun zβ za zw zc => ?_⟩, ?_⟩
    · exact neq_3 rfl ((show za.eval (.tmp 8) = za.tmps.getD 8 undef from rfl).trans (optVal (zc.dep 1 8 (by kernel_rfl)) rfl rfl)) (zc.kn.ev rfl) ⟨_, rfl, Below.refl _ _, optDef zβ rfl⟩
    refine ⟨⟨true, .none rfl, fun h w => optUndef h, fun zβ za zw zc => ?_⟩, ?_⟩
    · exact wp_move rfl ((show za.eval (.tmp 9) = za.tmps.getD 9 undef from rfl).trans (optVal (zc.dep 2 9 (by kernel_rfl)) rfl rfl)) ⟨_, rfl, Below.refl _ _, optDef zβ rfl⟩
    refine ⟨⟨(true && !(((sigCheck sg) : Int) != (0 : Int))), .no (c := (((sigCheck sg) : Int) != (0 : Int))) (d := true) rfl (fun v w h => h), fun h w => optUndef h, fun zβ za zw zc => ?_⟩, ?_⟩
    · exact fld_24_1 rfl (zc.kn.ev rfl) ⟨_, rfl, Below.refl _ _, optDef zβ rfl⟩
    refine ⟨⟨(true && !(((sigCheck sg) : Int) != (0 : Int))), .no (c := (((sigCheck sg) : Int) != (0 : Int))) (d := true) rfl (fun v w h => h), fun h w => optUndef h, fun zβ za zw zc => ?_⟩, ?_⟩
    · exact ld_22 rfl ((show za.eval (.tmp 11) = za.tmps.getD 11 undef from rfl).trans (optVal (zc.dep 4 11 (by kernel_rfl)) rfl zβ)) (bkeeps zc.below _ _ ((hB11.cell 1).trans rfl)) ⟨_, rfl, Below.refl _ _, optDef zβ rfl⟩
    refine ⟨⟨(true && !(((sigCheck sg) : Int) != (0 : Int))), .no (c := (((sigCheck sg) : Int) != (0 : Int))) (d := true) rfl (fun v w h => h), fun h w => optUndef h, fun zβ za zw zc => ?_⟩, ?_⟩
    · exact fld_35_0 rfl (zc.kn.ev rfl) ⟨_, rfl, Below.refl _ _, optDef zβ rfl⟩
    refine ⟨⟨(true && !(((sigCheck sg) : Int) != (0 : Int))), .no (c := (((sigCheck sg) : Int) != (0 : Int))) (d := true) rfl (fun v w h => h), fun h w => optUndef h, fun zβ za zw zc => ?_⟩, ?_⟩
    · exact ld_33 rfl ((show za.eval (.tmp 13) = za.tmps.getD 13 undef from rfl).trans (optVal (zc.dep 6 13 (by kernel_rfl)) rfl zβ)) (bkeeps zc.below _ _ ((hB16.cell 0).trans rfl)) ⟨_, rfl, Below.refl _ _, optDef zβ rfl⟩
    refine ⟨⟨(true && !(((sigCheck sg) : Int) != (0 : Int))), .no (c := (((sigCheck sg) : Int) != (0 : Int))) (d := true) rfl (fun v w h => h), fun h w => optUndef h, fun zβ za zw zc => ?_⟩, ?_⟩
    · exact len_33 rfl ((show za.eval (.tmp 14) = za.tmps.getD 14 undef from rfl).trans (optVal (zc.dep 7 14 (by kernel_rfl)) rfl zβ)) ⟨_, rfl, Below.refl _ _, optDef zβ rfl⟩
    refine ⟨⟨(true && !(((sigCheck sg) : Int) != (0 : Int))), .no (c := (((sigCheck sg) : Int) != (0 : Int))) (d := true) rfl (fun v w h => h), fun h w => optUndef h, fun zβ za zw zc => ?_⟩, ?_⟩
    · exact wp_call (by kernel_rfl) rfl (hv2 ((show za.eval (.tmp 12) = za.tmps.getD 12 undef from rfl).trans (optVal (zc.dep 5 12 (by kernel_rfl)) rfl zβ)) ((show za.eval (.tmp 15) = za.tmps.getD 15 undef from rfl).trans (optVal (zc.dep 8 15 (by kernel_rfl)) rfl zβ))) (ranks_x o.prec (sg.length : Int) _ _ _ hk1 hk2 (IsInts.below (bstep hb17 zc.below) hp)) (fun v w' h => ⟨v, rfl, h.2, optDef zβ h.1⟩)
    refine ⟨⟨(true && !(((sigCheck sg) : Int) != (0 : Int))), .no (c := (((sigCheck sg) : Int) != (0 : Int))) (d := true) rfl (fun v w h => h), fun h w => optUndef h, fun zβ za zw zc => ?_⟩, ?_⟩
    · exact wp_not rfl ((show za.eval (.tmp 16) = za.tmps.getD 16 undef from rfl).trans (optVal (zc.dep 9 16 (by kernel_rfl)) rfl zβ)) ⟨_, rfl, Below.refl _ _, optDef zβ rfl⟩
    refine ⟨⟨true, .none rfl, fun h w => optUndef h, fun zβ za zw zc => ?_⟩, ?_⟩
    · exact wp_or rfl ((show za.eval (.tmp 10) = za.tmps.getD 10 undef from rfl).trans (optVal (zc.dep 3 10 (by kernel_rfl)) rfl rfl)) (fun hp => ((show za.eval (.tmp 17) = za.tmps.getD 17 undef from rfl).trans (optVal (zc.dep 10 17 (by kernel_rfl)) rfl (bMkN zβ hp)))) ⟨_, rfl, Below.refl _ _, optDef zβ rfl⟩
    exact trivial
  · intro za w18 zh hb19 zu
    have zh := zh.cons (d := 18) (v := .bool (((((sigCheck sg) : Int) != (0 : Int)) || (!(ranksB o.prec (sg.length : Int)))))) (optVal (zu 11 18 (by kernel_rfl)) rfl rfl)
    clear zu
    refine (show WE _ [(0, .agg #[.slice a sg.length c]), (1, .agg #[.bool true, .slice p1 o.prec.length k1, .slice p2 o.weights.length k2, .int .i64 o.var]), (2, .pointer (some ⟨g2, 0, none⟩)), (3, .pointer (some ⟨g9, 0, none⟩)), (4, .int .i64 0), (18, .bool (((((sigCheck sg) : Int) != (0 : Int)) || (!(ranksB o.prec (sg.length : Int))))))] w18 _ .normal from ?_) za (zh.sub ⟨rfl, rfl, rfl, rfl, rfl, rfl, trivial⟩)
    refine WE.next ?_
    refine WC.cond rfl (fun h20 => ?_) (fun h20 => ?_)
    · have h20 : (((sigCheck sg) : Int) ≠ (0 : Int)) ∨ (¬ ((ranksB o.prec (sg.length : Int)) = true)) := by simpa using h20
      refine WC.seq ?_
      refine WC.region ?_
      refine WL.val (.int .i64 2) rfl rfl rfl (fun za zC zh zk => wp_assign rfl (zh.ev rfl) zk) ?_
      refine WL.nil (WE.sub (K' := [(0, .agg #[.slice a sg.length c]), (1, .agg #[.bool true, .slice p1 o.prec.length k1, .slice p2 o.weights.length k2, .int .i64 o.var]), (2, .pointer (some ⟨g2, 0, none⟩)), (3, .pointer (some ⟨g9, 0, none⟩)), (4, .int .i64 2), (18, .bool (((((sigCheck sg) : Int) != (0 : Int)) || (!(ranksB o.prec (sg.length : Int))))))]) ⟨rfl, rfl, rfl, rfl, rfl, rfl, trivial⟩ ?_)
      refine WE.next ?_
      refine WC.ret ?_
      refine WE.thenRet ?_
      refine WE.ret1 rfl rfl ?_
      have hb21 : Below w.heap.size w w18 := (bstep hb17 hb19)
      exact ⟨_, rfl, congrArg (Value.int .i64) (by unfold lordCheck; rw [if_neg (fun hh => by have z := h20; simp [hh.1, hh.2] at z)]), hb21⟩
    · have h20 : ¬ ((((sigCheck sg) : Int) ≠ (0 : Int)) ∨ (¬ ((ranksB o.prec (sg.length : Int)) = true))) := by simpa using h20
      refine WC.skip ?_
      refine WE.next ?_
      refine WC.seq ?_
      refine WC.seq ?_
      refine WC.region ?_
      refine WL.val (.pointer (some ⟨g9, 0, none⟩)) rfl rfl rfl (fun za zC zh zk => fld_24_0 rfl (zh.ev rfl) zk) ?_
      have hB22 := hB11.below hb19
      refine WL.val (.bool true) rfl rfl rfl (fun za zC zh zk => ld_4 rfl (zh.ev rfl) ((hB22.cell 0).trans rfl) zk) ?_
      refine WL.nil (WE.sub (K' := [(0, .agg #[.slice a sg.length c]), (1, .agg #[.bool true, .slice p1 o.prec.length k1, .slice p2 o.weights.length k2, .int .i64 o.var]), (2, .pointer (some ⟨g2, 0, none⟩)), (3, .pointer (some ⟨g9, 0, none⟩)), (4, .int .i64 0), (18, .bool (((((sigCheck sg) : Int) != (0 : Int)) || (!(ranksB o.prec (sg.length : Int)))))), (20, .bool true)]) ⟨rfl, rfl, rfl, rfl, rfl, rfl, rfl, trivial⟩ ?_)
      refine WE.next ?_
      refine WC.condT rfl rfl ?_
      refine WC.seq ?_
      refine WC.region ?_
      refine WL.val (.int .i64 0) rfl rfl rfl (fun za zC zh zk => wp_assign rfl (zh.ev rfl) zk) ?_
      refine WL.nil (WE.sub (K' := [(0, .agg #[.slice a sg.length c]), (1, .agg #[.bool true, .slice p1 o.prec.length k1, .slice p2 o.weights.length k2, .int .i64 o.var]), (2, .pointer (some ⟨g2, 0, none⟩)), (3, .pointer (some ⟨g9, 0, none⟩)), (4, .int .i64 0), (18, .bool (((((sigCheck sg) : Int) != (0 : Int)) || (!(ranksB o.prec (sg.length : Int)))))), (20, .bool true)]) ⟨rfl, rfl, rfl, rfl, rfl, rfl, rfl, trivial⟩ ?_)
      refine WE.next ?_
      refine WC.ret ?_
      refine WE.thenRet ?_
      refine WE.ret1 rfl rfl ?_
      have hb23 : Below w.heap.size w w18 := (bstep hb17 hb19)
      exact ⟨_, rfl, congrArg (Value.int .i64) (by unfold lordCheck; rw [if_pos (by have z := h20; simpa using z)]), hb23⟩

def fitsB (sg : List Sy) (o : Od) (l : List T) : Bool := o.lpo && (decide (lordCheck sg o = 0) && l.all (fun t => decide (t.check sg = 0)))
theorem fitsB_of {sg : List Sy} {o : Od} {l : List T} (h : fitsB sg o l = true) : LFits sg o l := by
  simp only [fitsB, Bool.and_eq_true, decide_eq_true_eq, List.all_eq_true] at h
  obtain ⟨h1, h2, h3⟩ := h
  unfold lordCheck at h2
  by_cases hc : sigCheck sg = 0 ∧ ranksB o.prec sg.length = true
  · have hr := of_decide_eq_true hc.2
    exact ⟨h1, ⟨hc.1, by omega, hr.2, fun h => by rw [h1] at h; cases h⟩, h3⟩
  · rw [if_neg hc] at h2; cases h2
theorem fitsB_no1 {sg : List Sy} {o : Od} {l : List T} (h : o.lpo = false ∨ lordCheck sg o ≠ 0) : fitsB sg o l = false := by
  rcases h with h | h <;> simp [fitsB, h]
theorem fitsB_no2 {sg : List Sy} {o : Od} {l : List T} {k : Nat} (hk : k < l.length) (h : (tget l k).check sg ≠ 0) : fitsB sg o l = false := by
  cases hf : fitsB sg o l with
  | false => rfl
  | true => exact absurd ((fitsB_of hf).2.2 _ (tget_mem hk)) h
theorem fitsB_yes {sg : List Sy} {o : Od} {l : List T} (h1 : o.lpo = true) (h2 : lordCheck sg o = 0) (h3 : ∀ t ∈ l, t.check sg = 0) : fitsB sg o l = true := by
  simp only [fitsB, Bool.and_eq_true, decide_eq_true_eq, List.all_eq_true]; exact ⟨h1, h2, h3⟩
set_option maxRecDepth 100000 in
theorem fits_x (sg : List Sy) (o : Od) (l : List T) (w : World) (vs vo : Value) (al : Option Addr) (cl : Nat) (hz : ∀ t ∈ l, t.size ≤ 4294967296) (hs : IsSig w sg vs) (ho : IsOd w o vo) (hc : l.length ≤ cl) (hm : cl ≤ maxLen) (hl : IsTs w l al 0) :
    Calls Try.prog 13 #[vs, vo, .slice al l.length cl] w (Ret fun v' w' => v' = .bool (fitsB sg o l) ∧ Below w.heap.size w w') := by
  have hst := hs
  have hot := ho
  obtain ⟨p1, p2, k1, k2, rfl, _, _, _, _, hp, _, _⟩ := ho
  obtain ⟨a, c, rfl, _, _, _⟩ := hs
  unfold maxLen at hm
  refine Calls.walk (l := [.agg #[.slice a sg.length c], .agg #[.bool o.lpo, .slice p1 o.prec.length k1, .slice p2 o.weights.length k2, .int .i64 o.var], .slice al l.length cl]) Try.func13 rfl (by kernel_rfl) ?_
  refine WC.sub (K' := [(0, .agg #[.slice a sg.length c]), (1, .agg #[.bool o.lpo, .slice p1 o.prec.length k1, .slice p2 o.weights.length k2, .int .i64 o.var]), (2, .slice al l.length cl)]) ⟨rfl, rfl, rfl, trivial⟩ ?_
  refine WC.seq ?_
  refine WC.region ?_
  refine WL.step (post := NewBlk w 35 #[.slice a sg.length c]) rfl rfl rfl (fun za zC zh zk => box_35 rfl (zh.ev rfl) (zk _ _ (newBlk _ _ _))) ?_
  rintro _ w1 ⟨g2, rfl, hg3, hB4, hb5, hz6⟩
  have hl7 : w.heap.size ≤ g2 := by omega
  refine WL.step (post := NewBlk w1 24 #[.bool o.lpo, .slice p1 o.prec.length k1, .slice p2 o.weights.length k2, .int .i64 o.var]) rfl rfl rfl (fun za zC zh zk => box_24 rfl (zh.ev rfl) (zk _ _ (newBlk _ _ _))) ?_
  rintro _ w8 ⟨g9, rfl, hg10, hB11, hb12, hz13⟩
  have hl14 : g2 < g9 := by have z1 := hB4.lt; omega
  have hl15 : w.heap.size ≤ g9 := by have z2 := (hb5).size; omega
  refine WL.val (.bool false) rfl rfl rfl (fun za zC zh zk => wp_assign rfl (zh.ev rfl) zk) ?_
  refine WL.nil (WE.sub (K' := [(0, .agg #[.slice a sg.length c]), (1, .agg #[.bool o.lpo, .slice p1 o.prec.length k1, .slice p2 o.weights.length k2, .int .i64 o.var]), (2, .slice al l.length cl), (3, .pointer (some ⟨g2, 0, none⟩)), (4, .pointer (some ⟨g9, 0, none⟩)), (6, .bool false)]) ⟨rfl, rfl, rfl, rfl, rfl, rfl, trivial⟩ ?_)
  refine WE.next ?_
  refine WC.seq ?_
  refine WC.seq ?_
  have hB16 := hB4.below hb12
  have hb17 : Below w.heap.size w w8 := (bstep hb5 hb12)
  refine WC.opt [(true, .val (.pointer (some ⟨g9, 0, none⟩))), (true, .val (.bool o.lpo)), (true, .val (.bool ((!o.lpo)))), (true, .val (.bool ((!o.lpo)))), ((true && !(!o.lpo)), .val (.agg #[.slice a sg.length c])), ((true && !(!o.lpo)), .val (.agg #[.bool o.lpo, .slice p1 o.prec.length k1, .slice p2 o.weights.length k2, .int .i64 o.var])), ((true && !(!o.lpo)), .val (.int .i64 ((lordCheck sg o)))), ((true && !(!o.lpo)), .val (.bool ((((lordCheck sg o) : Int) != (0 : Int))))), (true, .val (.bool (((!o.lpo) || (((lordCheck sg o) : Int) != (0 : Int))))))] [(0, .agg #[.slice a sg.length c]), (1, .agg #[.bool o.lpo, .slice p1 o.prec.length k1, .slice p2 o.weights.length k2, .int .i64 o.var]), (2, .slice al l.length cl), (3, .pointer (some ⟨g2, 0, none⟩)), (4, .pointer (some ⟨g9, 0, none⟩)), (6, .bool false)] ⟨rfl, rfl, rfl, rfl, rfl, rfl, trivial⟩ (by kernel_rfl) (by kernel_rfl) (by kernel_rfl) ?_ ?_
  · refine ⟨⟨true, .none rfl, fun h w => optUndef h, fun zβ za zw zc => ?_⟩, ?_⟩
    · exact fld_24_0 rfl (zc.kn.ev rfl) ⟨_, rfl, Below.refl _ _, optDef zβ rfl⟩
    refine ⟨⟨true, .none rfl, fun h w => optUndef h, fun zβ za zw zc => ?_⟩, ?_⟩
    · exact ld_4 rfl ((show za.eval (.tmp 8) = za.tmps.getD 8 undef from rfl).trans (optVal (zc.dep 0 8 (by kernel_rfl)) rfl rfl)) (bkeeps zc.below _ _ ((hB11.cell 0).trans rfl)) ⟨_, rfl, Below.refl _ _, optDef zβ rfl⟩
    refine ⟨⟨true, .none rfl, fun h w => optUndef h, fun zβ za zw zc => ?_⟩, ?_⟩
    · exact wp_not rfl ((show za.eval (.tmp 9) = za.tmps.getD 9 undef from rfl).trans (optVal (zc.dep 1 9 (by kernel_rfl)) rfl rfl)) ⟨_, rfl, Below.refl _ _, optDef zβ rfl⟩
    refine ⟨⟨true, .none rfl, fun h w => optUndef h, fun zβ za zw zc => ?_⟩, ?_⟩
    · exact wp_move rfl ((show za.eval (.tmp 10) = za.tmps.getD 10 undef from rfl).trans (optVal (zc.dep 2 10 (by kernel_rfl)) rfl rfl)) ⟨_, rfl, Below.refl _ _, optDef zβ rfl⟩
    refine ⟨⟨(true && !(!o.lpo)), .no (c := (!o.lpo)) (d := true) rfl (fun v w h => h), fun h w => optUndef h, fun zβ za zw zc => ?_⟩, ?_⟩
    · exact ld_35 rfl (zc.kn.ev rfl) (bkeeps zc.below _ _ ((hB16.cell 0).trans rfl)) ⟨_, rfl, Below.refl _ _, optDef zβ rfl⟩
    refine ⟨⟨(true && !(!o.lpo)), .no (c := (!o.lpo)) (d := true) rfl (fun v w h => h), fun h w => optUndef h, fun zβ za zw zc => ?_⟩, ?_⟩
    · exact ld_24 rfl (zc.kn.ev rfl) (bkeeps zc.below _ _ ((hB11.cell 0).trans rfl)) (bkeeps zc.below _ _ ((hB11.cell 1).trans rfl)) (bkeeps zc.below _ _ ((hB11.cell 2).trans rfl)) (bkeeps zc.below _ _ ((hB11.cell 3).trans rfl)) ⟨_, rfl, Below.refl _ _, optDef zβ rfl⟩
    refine ⟨⟨(true && !(!o.lpo)), .no (c := (!o.lpo)) (d := true) rfl (fun v w h => h), fun h w => optUndef h, fun zβ za zw zc => ?_⟩, ?_⟩
    · exact wp_call (by kernel_rfl) rfl (hv2 ((show za.eval (.tmp 12) = za.tmps.getD 12 undef from rfl).trans (optVal (zc.dep 4 12 (by kernel_rfl)) rfl zβ)) ((show za.eval (.tmp 13) = za.tmps.getD 13 undef from rfl).trans (optVal (zc.dep 5 13 (by kernel_rfl)) rfl zβ))) (lordCheck_any sg o _ _ _ (by have zz := zβ; simpa using zz) (IsSig.below (bstep hb17 zc.below) hst) (hot.below (bstep hb17 zc.below))) (fun v w' h => ⟨v, rfl, h.2, optDef zβ h.1⟩)
    refine ⟨⟨(true && !(!o.lpo)), .no (c := (!o.lpo)) (d := true) rfl (fun v w h => h), fun h w => optUndef h, fun zβ za zw zc => ?_⟩, ?_⟩
    · exact neq_56 rfl ((show za.eval (.tmp 14) = za.tmps.getD 14 undef from rfl).trans (optVal (zc.dep 6 14 (by kernel_rfl)) rfl zβ)) (zc.kn.ev rfl) ⟨_, rfl, Below.refl _ _, optDef zβ rfl⟩
    refine ⟨⟨true, .none rfl, fun h w => optUndef h, fun zβ za zw zc => ?_⟩, ?_⟩
    · exact wp_or rfl ((show za.eval (.tmp 11) = za.tmps.getD 11 undef from rfl).trans (optVal (zc.dep 3 11 (by kernel_rfl)) rfl rfl)) (fun hp => ((show za.eval (.tmp 15) = za.tmps.getD 15 undef from rfl).trans (optVal (zc.dep 7 15 (by kernel_rfl)) rfl (bMkN zβ hp)))) ⟨_, rfl, Below.refl _ _, optDef zβ rfl⟩
    exact trivial
  · intro za w18 zh hb19 zu
    have zh := zh.cons (d := 16) (v := .bool (((!o.lpo) || (((lordCheck sg o) : Int) != (0 : Int))))) (optVal (zu 8 16 (by kernel_rfl)) rfl rfl)
    clear zu
    refine (show WE _ [(0, .agg #[.slice a sg.length c]), (1, .agg #[.bool o.lpo, .slice p1 o.prec.length k1, .slice p2 o.weights.length k2, .int .i64 o.var]), (2, .slice al l.length cl), (3, .pointer (some ⟨g2, 0, none⟩)), (4, .pointer (some ⟨g9, 0, none⟩)), (6, .bool false), (16, .bool (((!o.lpo) || (((lordCheck sg o) : Int) != (0 : Int)))))] w18 _ .normal from ?_) za (zh.sub ⟨rfl, rfl, rfl, rfl, rfl, rfl, rfl, trivial⟩)
    refine WE.next ?_
    refine WC.cond rfl (fun h20 => ?_) (fun h20 => ?_)
    · have h20 : (¬ (o.lpo = true)) ∨ (((lordCheck sg o) : Int) ≠ (0 : Int)) := by simpa using h20
      refine WC.seq ?_
      refine WC.region ?_
      refine WL.val (.bool false) rfl rfl rfl (fun za zC zh zk => wp_assign rfl (zh.ev rfl) zk) ?_
      refine WL.nil (WE.sub (K' := [(0, .agg #[.slice a sg.length c]), (1, .agg #[.bool o.lpo, .slice p1 o.prec.length k1, .slice p2 o.weights.length k2, .int .i64 o.var]), (2, .slice al l.length cl), (3, .pointer (some ⟨g2, 0, none⟩)), (4, .pointer (some ⟨g9, 0, none⟩)), (6, .bool false), (16, .bool (((!o.lpo) || (((lordCheck sg o) : Int) != (0 : Int)))))]) ⟨rfl, rfl, rfl, rfl, rfl, rfl, rfl, trivial⟩ ?_)
      refine WE.next ?_
      refine WC.ret ?_
      refine WE.thenRet ?_
      refine WE.ret1 rfl rfl ?_
      have hb21 : Below w.heap.size w w18 := (bstep hb17 hb19)
      exact ⟨_, rfl, congrArg Value.bool (fitsB_no1 (by have z := h20; simpa using z)).symm, hb21⟩
    · have h20 : ¬ ((¬ (o.lpo = true)) ∨ (((lordCheck sg o) : Int) ≠ (0 : Int))) := by simpa using h20
      refine WC.skip ?_
      refine WE.next ?_
      refine WC.seq ?_
      refine WC.seq ?_
      refine WC.region ?_
      refine WL.val (.int .i64 0) rfl rfl rfl (fun za zC zh zk => wp_assign rfl (zh.ev rfl) zk) ?_
      refine WL.nil (WE.sub (K' := [(0, .agg #[.slice a sg.length c]), (1, .agg #[.bool o.lpo, .slice p1 o.prec.length k1, .slice p2 o.weights.length k2, .int .i64 o.var]), (2, .slice al l.length cl), (3, .pointer (some ⟨g2, 0, none⟩)), (4, .pointer (some ⟨g9, 0, none⟩)), (6, .bool false), (7, .int .i64 0), (16, .bool (((!o.lpo) || (((lordCheck sg o) : Int) != (0 : Int)))))]) ⟨rfl, rfl, rfl, rfl, rfl, rfl, rfl, rfl, trivial⟩ ?_)
      refine WE.next ?_
      refine WC.block ?_
      refine WC.loop (X := Nat) (fun k => l.length - k) (fun k => [(0, .agg #[.slice a sg.length c]), (1, .agg #[.bool o.lpo, .slice p1 o.prec.length k1, .slice p2 o.weights.length k2, .int .i64 o.var]), (2, .slice al l.length cl), (3, .pointer (some ⟨g2, 0, none⟩)), (4, .pointer (some ⟨g9, 0, none⟩)), (7, .int .i64 (((k : Nat) : Int))), (16, .bool (((!o.lpo) || (((lordCheck sg o) : Int) != (0 : Int)))))]) (fun k w22 => k ≤ l.length ∧ (∀ t ∈ l.take k, t.check sg = 0) ∧ Below w.heap.size w w22 ∧ Blk w22 g2 35 #[.slice a sg.length c] ∧ Blk w22 g9 24 #[.bool o.lpo, .slice p1 o.prec.length k1, .slice p2 o.weights.length k2, .int .i64 o.var]) 0 ⟨rfl, rfl, rfl, rfl, rfl, rfl, rfl, trivial⟩ ?_ ?_
      · have hb23 : Below w.heap.size w w18 := (bstep hb17 hb19)
        have hB24 := hB16.below hb19
        have hB25 := hB11.below hb19
        exact ⟨Nat.zero_le _, (fun t h => by simp at h), hb23, hB24, hB25⟩
      · rintro k w22 ⟨hk, hall, hb26, hB27, hB28⟩
        refine WC.seq ?_
        refine WC.seq ?_
        refine WC.region ?_
        refine WL.val (.int .i64 (((k : Nat) : Int))) rfl rfl rfl (fun za zC zh zk => wp_move rfl (zh.ev rfl) zk) ?_
        refine WL.val (.slice al l.length cl) rfl rfl rfl (fun za zC zh zk => wp_move rfl (zh.ev rfl) zk) ?_
        refine WL.val (.int .i64 (((l.length : Nat) : Int))) rfl rfl rfl (fun za zC zh zk => len_25 rfl (zh.ev rfl) zk) ?_
        refine WL.val (.bool ((decide ((((k : Nat) : Int) : Int) < (((l.length : Nat) : Int) : Int))))) rfl rfl rfl (fun za zC zh zk => lss_3 rfl (zh.ev rfl) (zh.ev rfl) zk) ?_
        refine WL.nil (WE.sub (K' := [(0, .agg #[.slice a sg.length c]), (1, .agg #[.bool o.lpo, .slice p1 o.prec.length k1, .slice p2 o.weights.length k2, .int .i64 o.var]), (2, .slice al l.length cl), (3, .pointer (some ⟨g2, 0, none⟩)), (4, .pointer (some ⟨g9, 0, none⟩)), (7, .int .i64 (((k : Nat) : Int))), (16, .bool (((!o.lpo) || (((lordCheck sg o) : Int) != (0 : Int))))), (20, .bool ((decide ((((k : Nat) : Int) : Int) < (((l.length : Nat) : Int) : Int)))))]) ⟨rfl, rfl, rfl, rfl, rfl, rfl, rfl, rfl, trivial⟩ ?_)
        refine WE.next ?_
        refine WC.cond rfl (fun h29 => ?_) (fun h29 => ?_)
        · have h29 : (((k : Nat) : Int) : Int) < (((l.length : Nat) : Int) : Int) := by simpa using h29
          refine WC.skip ?_
          refine WE.next ?_
          refine WC.seq ?_
          refine WC.block ?_
          refine WC.seq ?_
          obtain ⟨b30, o31, A32, C33, ha34, hc35⟩ := IsTs.open hl
          refine WC.opt [(true, .val (.agg #[.slice a sg.length c])), (true, .val (.slice al l.length cl)), (true, .val (.int .i64 (((k : Nat) : Int)))), (true, .val (.pointer (some ⟨b30, o31 + k * 2, none⟩))), (true, .val (.agg #[.int .i64 ((tget l k).f), .slice ((A32 k)) ((tget l k).args.length) ((C33 k))])), (true, .val (.int .i64 (((tget l k).check sg)))), (true, .val (.bool (((((tget l k).check sg) : Int) != (0 : Int)))))] [(0, .agg #[.slice a sg.length c]), (1, .agg #[.bool o.lpo, .slice p1 o.prec.length k1, .slice p2 o.weights.length k2, .int .i64 o.var]), (2, .slice al l.length cl), (3, .pointer (some ⟨g2, 0, none⟩)), (4, .pointer (some ⟨g9, 0, none⟩)), (7, .int .i64 (((k : Nat) : Int))), (16, .bool (((!o.lpo) || (((lordCheck sg o) : Int) != (0 : Int))))), (20, .bool ((decide ((((k : Nat) : Int) : Int) < (((l.length : Nat) : Int) : Int)))))] ⟨rfl, rfl, rfl, rfl, rfl, rfl, rfl, rfl, trivial⟩ (by kernel_rfl) (by kernel_rfl) (by kernel_rfl) ?_ ?_
          · refine ⟨⟨true, .none rfl, fun h w => optUndef h, fun zβ za zw zc => ?_⟩, ?_⟩
            · exact ld_35 rfl (zc.kn.ev rfl) (bkeeps zc.below _ _ ((hB27.cell 0).trans rfl)) ⟨_, rfl, Below.refl _ _, optDef zβ rfl⟩
            refine ⟨⟨true, .none rfl, fun h w => optUndef h, fun zβ za zw zc => ?_⟩, ?_⟩
            · exact wp_move rfl (zc.kn.ev rfl) ⟨_, rfl, Below.refl _ _, optDef zβ rfl⟩
            refine ⟨⟨true, .none rfl, fun h w => optUndef h, fun zβ za zw zc => ?_⟩, ?_⟩
            · exact wp_move rfl (zc.kn.ev rfl) ⟨_, rfl, Below.refl _ _, optDef zβ rfl⟩
            refine ⟨⟨true, .none rfl, fun h w => optUndef h, fun zβ za zw zc => ?_⟩, ?_⟩
            · exact ix_25 (k := k) rfl ((show za.eval (.tmp 24) = za.tmps.getD 24 undef from rfl).trans (optVal (zc.dep 1 24 (by kernel_rfl)) rfl rfl)) (ha34 k (by first | omega | (simp; omega))) ((show za.eval (.tmp 25) = za.tmps.getD 25 undef from rfl).trans (optVal (zc.dep 2 25 (by kernel_rfl)) rfl rfl)) (by first | omega | (simp; omega)) ⟨_, rfl, Below.refl _ _, optDef zβ rfl⟩
            refine ⟨⟨true, .none rfl, fun h w => optUndef h, fun zβ za zw zc => ?_⟩, ?_⟩
            · exact ld_27 rfl ((show za.eval (.tmp 26) = za.tmps.getD 26 undef from rfl).trans (optVal (zc.dep 3 26 (by kernel_rfl)) rfl rfl)) (bkeeps (bstep hb26 zc.below) _ _ (hc35 k (by first | omega | (simp; omega))).1) (bkeeps (bstep hb26 zc.below) _ _ (hc35 k (by first | omega | (simp; omega))).2.1) ⟨_, rfl, Below.refl _ _, optDef zβ rfl⟩
            refine ⟨⟨true, .none rfl, fun h w => optUndef h, fun zβ za zw zc => ?_⟩, ?_⟩
            · exact wp_call (by kernel_rfl) rfl (hv2 ((show za.eval (.tmp 23) = za.tmps.getD 23 undef from rfl).trans (optVal (zc.dep 0 23 (by kernel_rfl)) rfl rfl)) ((show za.eval (.tmp 27) = za.tmps.getD 27 undef from rfl).trans (optVal (zc.dep 4 27 (by kernel_rfl)) rfl rfl))) (ret_of (tcheck_any sg (tget l k) _ _ _ (hz _ (tget_mem (by omega))) (IsSig.below (bstep hb26 zc.below) hst) (IsT.below (bstep hb26 zc.below) (hc35 k (by first | omega | (simp; omega))).2.2))) (fun v w' h => ⟨v, rfl, h.2, optDef zβ h.1⟩)
            refine ⟨⟨true, .none rfl, fun h w => optUndef h, fun zβ za zw zc => ?_⟩, ?_⟩
            · exact neq_56 rfl ((show za.eval (.tmp 28) = za.tmps.getD 28 undef from rfl).trans (optVal (zc.dep 5 28 (by kernel_rfl)) rfl rfl)) (zc.kn.ev rfl) ⟨_, rfl, Below.refl _ _, optDef zβ rfl⟩
            exact trivial
          · intro za w36 zh hb37 zu
            have zh := zh.cons (d := 29) (v := .bool (((((tget l k).check sg) : Int) != (0 : Int)))) (optVal (zu 6 29 (by kernel_rfl)) rfl rfl)
            clear zu
            refine (show WE _ [(0, .agg #[.slice a sg.length c]), (1, .agg #[.bool o.lpo, .slice p1 o.prec.length k1, .slice p2 o.weights.length k2, .int .i64 o.var]), (2, .slice al l.length cl), (3, .pointer (some ⟨g2, 0, none⟩)), (4, .pointer (some ⟨g9, 0, none⟩)), (7, .int .i64 (((k : Nat) : Int))), (16, .bool (((!o.lpo) || (((lordCheck sg o) : Int) != (0 : Int))))), (20, .bool ((decide ((((k : Nat) : Int) : Int) < (((l.length : Nat) : Int) : Int))))), (29, .bool (((((tget l k).check sg) : Int) != (0 : Int))))] w36 _ .normal from ?_) za (zh.sub ⟨rfl, rfl, rfl, rfl, rfl, rfl, rfl, rfl, rfl, trivial⟩)
            refine WE.next ?_
            refine WC.cond rfl (fun h38 => ?_) (fun h38 => ?_)
            · have h38 : (((tget l k).check sg) : Int) ≠ (0 : Int) := by simpa using h38
              refine WC.seq ?_
              refine WC.region ?_
              refine WL.val (.bool false) rfl rfl rfl (fun za zC zh zk => wp_assign rfl (zh.ev rfl) zk) ?_
              refine WL.nil (WE.sub (K' := [(0, .agg #[.slice a sg.length c]), (1, .agg #[.bool o.lpo, .slice p1 o.prec.length k1, .slice p2 o.weights.length k2, .int .i64 o.var]), (2, .slice al l.length cl), (3, .pointer (some ⟨g2, 0, none⟩)), (4, .pointer (some ⟨g9, 0, none⟩)), (6, .bool false), (7, .int .i64 (((k : Nat) : Int))), (16, .bool (((!o.lpo) || (((lordCheck sg o) : Int) != (0 : Int))))), (20, .bool ((decide ((((k : Nat) : Int) : Int) < (((l.length : Nat) : Int) : Int))))), (29, .bool (((((tget l k).check sg) : Int) != (0 : Int))))]) ⟨rfl, rfl, rfl, rfl, rfl, rfl, rfl, rfl, rfl, rfl, trivial⟩ ?_)
              refine WE.next ?_
              refine WC.ret ?_
              refine WE.blockRet ?_
              refine WE.thenRet ?_
              refine WE.thenRet ?_
              refine WE.blockRet ?_
              refine WE.thenRet ?_
              refine WE.ret1 rfl rfl ?_
              have hb39 : Below w.heap.size w w36 := (bstep hb26 hb37)
              exact ⟨_, rfl, congrArg Value.bool (fitsB_no2 (k := k) (by omega) (by have z := h38; simpa using z)).symm, hb39⟩
            · have h38 : ¬ ((((tget l k).check sg) : Int) ≠ (0 : Int)) := by simpa using h38
              refine WC.skip ?_
              refine WE.blockNormal ?_
              refine WE.next ?_
              refine WC.region ?_
              refine WL.val (.int .i64 (((k : Nat) : Int))) rfl rfl rfl (fun za zC zh zk => wp_move rfl (zh.ev rfl) zk) ?_
              refine WL.val (.int .i64 ((((k + 1) : Nat) : Int))) rfl rfl rfl (fun za zC zh zk => addb_3 rfl (zh.ev rfl) (zh.ev rfl) (wrap_eq (by omega) (by omega) (by omega)) zk) ?_
              refine WL.val (.int .i64 ((((k + 1) : Nat) : Int))) rfl rfl rfl (fun za zC zh zk => wp_assign rfl (zh.ev rfl) zk) ?_
              refine WL.nil (WE.sub (K' := [(0, .agg #[.slice a sg.length c]), (1, .agg #[.bool o.lpo, .slice p1 o.prec.length k1, .slice p2 o.weights.length k2, .int .i64 o.var]), (2, .slice al l.length cl), (3, .pointer (some ⟨g2, 0, none⟩)), (4, .pointer (some ⟨g9, 0, none⟩)), (7, .int .i64 ((((k + 1) : Nat) : Int))), (16, .bool (((!o.lpo) || (((lordCheck sg o) : Int) != (0 : Int))))), (20, .bool ((decide ((((k : Nat) : Int) : Int) < (((l.length : Nat) : Int) : Int))))), (29, .bool (((((tget l k).check sg) : Int) != (0 : Int))))]) ⟨rfl, rfl, rfl, rfl, rfl, rfl, rfl, rfl, rfl, trivial⟩ ?_)
              refine WE.round (k + 1) ⟨rfl, rfl, rfl, rfl, rfl, rfl, rfl, trivial⟩ ?_ ?_
              · have hb40 : Below w.heap.size w w36 := (bstep hb26 hb37)
                have hB41 := hB27.below hb37
                have hB42 := hB28.below hb37
                exact ⟨by omega, check_take (by omega) hall (by have z := h38; simpa using z), hb40, hB41, hB42⟩
              · omega
        · have h29 : ¬ ((((k : Nat) : Int) : Int) < (((l.length : Nat) : Int) : Int)) := by simpa using h29
          refine WC.exit ?_
          refine WE.thenExit ?_
          refine WE.thenExit ?_
          refine WE.blockIs rfl ?_
          refine WE.next ?_
          refine WC.seq ?_
          refine WC.region ?_
          refine WL.val (.bool true) rfl rfl rfl (fun za zC zh zk => wp_assign rfl (zh.ev rfl) zk) ?_
          refine WL.nil (WE.sub (K' := [(0, .agg #[.slice a sg.length c]), (1, .agg #[.bool o.lpo, .slice p1 o.prec.length k1, .slice p2 o.weights.length k2, .int .i64 o.var]), (2, .slice al l.length cl), (3, .pointer (some ⟨g2, 0, none⟩)), (4, .pointer (some ⟨g9, 0, none⟩)), (6, .bool true), (7, .int .i64 (((k : Nat) : Int))), (16, .bool (((!o.lpo) || (((lordCheck sg o) : Int) != (0 : Int))))), (20, .bool ((decide ((((k : Nat) : Int) : Int) < (((l.length : Nat) : Int) : Int)))))]) ⟨rfl, rfl, rfl, rfl, rfl, rfl, rfl, rfl, rfl, trivial⟩ ?_)
          refine WE.next ?_
          refine WC.ret ?_
          refine WE.ret1 rfl rfl ?_
          exact ⟨_, rfl, congrArg Value.bool (fitsB_yes (by have z := h20; simp at z; exact z.1) (by have z := h20; simp at z; exact z.2) (fun t ht => hall t (by rw [List.take_of_length_le (by omega)]; exact ht))).symm, hb26⟩

def greatF : List T → Int → Bool
  | [], _ => false
  | t :: r, n => decide (2000 < IntKind.i64.wrap (n + wrap64 (t.size : Int))) || greatF r (IntKind.i64.wrap (n + wrap64 (t.size : Int)))
def greatB (l : List T) : Bool := greatF l 0
theorem greatF_drop {l : List T} {k : Nat} (h : k < l.length) (n : Int) : greatF (l.drop k) n = (decide (2000 < IntKind.i64.wrap (n + wrap64 ((tget l k).size : Int))) || greatF (l.drop (k + 1)) (IntKind.i64.wrap (n + wrap64 ((tget l k).size : Int)))) := by
  rw [List.drop_eq_getElem_cons h, greatF, tget_lt h]
set_option maxRecDepth 100000 in
theorem great_x (l : List T) (w : World) (a : Option Addr) (c : Nat) (hc : l.length ≤ c) (hm : c ≤ maxLen) (hl : IsTs w l a 0) : Calls Try.prog 8 #[.slice a l.length c] w (Ret fun v' w' => v' = .bool (greatB l) ∧ Below w.heap.size w w') := by
  unfold maxLen at hm
  refine Calls.walk (l := [.slice a l.length c]) Try.func8 rfl (by kernel_rfl) ?_
  refine WC.sub (K' := [(0, .slice a l.length c)]) ⟨rfl, trivial⟩ ?_
  refine WC.seq ?_
  refine WC.region ?_
  refine WL.val (.bool false) rfl rfl rfl (fun za zC zh zk => wp_assign rfl (zh.ev rfl) zk) ?_
  refine WL.nil (WE.sub (K' := [(0, .slice a l.length c), (2, .bool false)]) ⟨rfl, rfl, trivial⟩ ?_)
  refine WE.next ?_
  refine WC.seq ?_
  refine WC.region ?_
  refine WL.val (.int .i64 0) rfl rfl rfl (fun za zC zh zk => wp_assign rfl (zh.ev rfl) zk) ?_
  refine WL.nil (WE.sub (K' := [(0, .slice a l.length c), (2, .bool false), (3, .int .i64 0)]) ⟨rfl, rfl, rfl, trivial⟩ ?_)
  refine WE.next ?_
  refine WC.seq ?_
  refine WC.seq ?_
  refine WC.region ?_
  refine WL.val (.int .i64 0) rfl rfl rfl (fun za zC zh zk => wp_assign rfl (zh.ev rfl) zk) ?_
  refine WL.nil (WE.sub (K' := [(0, .slice a l.length c), (2, .bool false), (3, .int .i64 0), (4, .int .i64 0)]) ⟨rfl, rfl, rfl, rfl, trivial⟩ ?_)
  refine WE.next ?_
  refine WC.block ?_
  refine WC.loop (X := Nat × Int) (fun x => l.length - x.1) (fun x => [(0, .slice a l.length c), (3, .int .i64 x.2), (4, .int .i64 (((x.1 : Nat) : Int)))]) (fun x w1 => x.1 ≤ l.length ∧ greatF (l.drop x.1) x.2 = greatB l ∧ Below w.heap.size w w1) ((0, 0)) ⟨rfl, rfl, rfl, trivial⟩ ?_ ?_
  · exact ⟨Nat.zero_le _, rfl, (Below.refl _ _)⟩
  · rintro x w1 ⟨hk, hF, hb2⟩
    refine WC.seq ?_
    refine WC.seq ?_
    refine WC.region ?_
    refine WL.val (.int .i64 (((x.1 : Nat) : Int))) rfl rfl rfl (fun za zC zh zk => wp_move rfl (zh.ev rfl) zk) ?_
    refine WL.val (.slice a l.length c) rfl rfl rfl (fun za zC zh zk => wp_move rfl (zh.ev rfl) zk) ?_
    refine WL.val (.int .i64 (((l.length : Nat) : Int))) rfl rfl rfl (fun za zC zh zk => len_25 rfl (zh.ev rfl) zk) ?_
    refine WL.val (.bool ((decide ((((x.1 : Nat) : Int) : Int) < (((l.length : Nat) : Int) : Int))))) rfl rfl rfl (fun za zC zh zk => lss_3 rfl (zh.ev rfl) (zh.ev rfl) zk) ?_
    refine WL.nil (WE.sub (K' := [(0, .slice a l.length c), (3, .int .i64 x.2), (4, .int .i64 (((x.1 : Nat) : Int))), (8, .bool ((decide ((((x.1 : Nat) : Int) : Int) < (((l.length : Nat) : Int) : Int)))))]) ⟨rfl, rfl, rfl, rfl, trivial⟩ ?_)
    refine WE.next ?_
    refine WC.cond rfl (fun h3 => ?_) (fun h3 => ?_)
    · have h3 : (((x.1 : Nat) : Int) : Int) < (((l.length : Nat) : Int) : Int) := by simpa using h3
      refine WC.skip ?_
      refine WE.next ?_
      refine WC.seq ?_
      refine WC.block ?_
      refine WC.seq ?_
      refine WC.region ?_
      refine WL.val (.int .i64 x.2) rfl rfl rfl (fun za zC zh zk => wp_move rfl (zh.ev rfl) zk) ?_
      refine WL.val (.slice a l.length c) rfl rfl rfl (fun za zC zh zk => wp_move rfl (zh.ev rfl) zk) ?_
      refine WL.val (.int .i64 (((x.1 : Nat) : Int))) rfl rfl rfl (fun za zC zh zk => wp_move rfl (zh.ev rfl) zk) ?_
      obtain ⟨b4, o5, A6, C7, ha8, hc9⟩ := IsTs.open hl
      refine WL.val (.pointer (some ⟨b4, o5 + x.1 * 2, none⟩)) rfl rfl rfl (fun za zC zh zk => ix_25 (k := x.1) rfl (zh.ev rfl) (ha8 x.1 (by first | omega | (simp; omega))) (zh.ev rfl) (by first | omega | (simp; omega)) zk) ?_
      refine WL.val (.agg #[.int .i64 ((tget l x.1).f), .slice ((A6 x.1)) ((tget l x.1).args.length) ((C7 x.1))]) rfl rfl rfl (fun za zC zh zk => ld_27 rfl (zh.ev rfl) (bkeeps hb2 _ _ (hc9 x.1 (by first | omega | (simp; omega))).1) (bkeeps hb2 _ _ (hc9 x.1 (by first | omega | (simp; omega))).2.1) zk) ?_
      refine WL.call rfl rfl rfl (fun za zh zC => wp_call (by kernel_rfl) rfl (hv1 (zh.ev rfl))) (ret_of (size_any (tget l x.1) _ _ (IsT.below hb2 (hc9 x.1 (by first | omega | (simp; omega))).2.2))) ?_
      rintro _ w10 ⟨rfl, hbz⟩
      refine WL.val (.int .i64 ((IntKind.i64.wrap (x.2 + (wrap64 ((tget l x.1).size : Int)))))) rfl rfl rfl (fun za zC zh zk => add_3 rfl (zh.ev rfl) (zh.ev rfl) zk) ?_
      refine WL.val (.int .i64 ((IntKind.i64.wrap (x.2 + (wrap64 ((tget l x.1).size : Int)))))) rfl rfl rfl (fun za zC zh zk => wp_assign rfl (zh.ev rfl) zk) ?_
      refine WL.nil (WE.sub (K' := [(0, .slice a l.length c), (3, .int .i64 ((IntKind.i64.wrap (x.2 + (wrap64 ((tget l x.1).size : Int)))))), (4, .int .i64 (((x.1 : Nat) : Int))), (8, .bool ((decide ((((x.1 : Nat) : Int) : Int) < (((l.length : Nat) : Int) : Int)))))]) ⟨rfl, rfl, rfl, rfl, trivial⟩ ?_)
      refine WE.next ?_
      refine WC.seq ?_
      refine WC.region ?_
      refine WL.val (.int .i64 ((IntKind.i64.wrap (x.2 + (wrap64 ((tget l x.1).size : Int)))))) rfl rfl rfl (fun za zC zh zk => wp_move rfl (zh.ev rfl) zk) ?_
      refine WL.val (.bool ((decide ((2000 : Int) < ((IntKind.i64.wrap (x.2 + (wrap64 ((tget l x.1).size : Int)))) : Int))))) rfl rfl rfl (fun za zC zh zk => gtr_3 rfl (zh.ev rfl) (zh.ev rfl) zk) ?_
      refine WL.nil (WE.sub (K' := [(0, .slice a l.length c), (3, .int .i64 ((IntKind.i64.wrap (x.2 + (wrap64 ((tget l x.1).size : Int)))))), (4, .int .i64 (((x.1 : Nat) : Int))), (8, .bool ((decide ((((x.1 : Nat) : Int) : Int) < (((l.length : Nat) : Int) : Int))))), (19, .bool ((decide ((2000 : Int) < ((IntKind.i64.wrap (x.2 + (wrap64 ((tget l x.1).size : Int)))) : Int)))))]) ⟨rfl, rfl, rfl, rfl, rfl, trivial⟩ ?_)
      refine WE.next ?_
      refine WC.cond rfl (fun h11 => ?_) (fun h11 => ?_)
      · have h11 : (2000 : Int) < ((IntKind.i64.wrap (x.2 + (wrap64 ((tget l x.1).size : Int)))) : Int) := by simpa using h11
        refine WC.seq ?_
        refine WC.region ?_
        refine WL.val (.bool true) rfl rfl rfl (fun za zC zh zk => wp_assign rfl (zh.ev rfl) zk) ?_
        refine WL.nil (WE.sub (K' := [(0, .slice a l.length c), (2, .bool true), (3, .int .i64 ((IntKind.i64.wrap (x.2 + (wrap64 ((tget l x.1).size : Int)))))), (4, .int .i64 (((x.1 : Nat) : Int))), (8, .bool ((decide ((((x.1 : Nat) : Int) : Int) < (((l.length : Nat) : Int) : Int))))), (19, .bool ((decide ((2000 : Int) < ((IntKind.i64.wrap (x.2 + (wrap64 ((tget l x.1).size : Int)))) : Int)))))]) ⟨rfl, rfl, rfl, rfl, rfl, rfl, trivial⟩ ?_)
        refine WE.next ?_
        refine WC.ret ?_
        refine WE.blockRet ?_
        refine WE.thenRet ?_
        refine WE.thenRet ?_
        refine WE.blockRet ?_
        refine WE.thenRet ?_
        refine WE.ret1 rfl rfl ?_
        have hb12 : Below w.heap.size w w10 := (bstep hb2 hbz)
        exact ⟨_, rfl, congrArg Value.bool (by have z := h11; rw [greatF_drop (by omega)] at hF; rw [← hF, decide_eq_true (by omega), Bool.true_or]), hb12⟩
      · have h11 : ¬ ((2000 : Int) < ((IntKind.i64.wrap (x.2 + (wrap64 ((tget l x.1).size : Int)))) : Int)) := by simpa using h11
        refine WC.skip ?_
        refine WE.blockNormal ?_
        refine WE.next ?_
        refine WC.region ?_
        refine WL.val (.int .i64 (((x.1 : Nat) : Int))) rfl rfl rfl (fun za zC zh zk => wp_move rfl (zh.ev rfl) zk) ?_
        refine WL.val (.int .i64 ((((x.1 + 1) : Nat) : Int))) rfl rfl rfl (fun za zC zh zk => addb_3 rfl (zh.ev rfl) (zh.ev rfl) (wrap_eq (by omega) (by omega) (by omega)) zk) ?_
        refine WL.val (.int .i64 ((((x.1 + 1) : Nat) : Int))) rfl rfl rfl (fun za zC zh zk => wp_assign rfl (zh.ev rfl) zk) ?_
        refine WL.nil (WE.sub (K' := [(0, .slice a l.length c), (3, .int .i64 ((IntKind.i64.wrap (x.2 + (wrap64 ((tget l x.1).size : Int)))))), (4, .int .i64 ((((x.1 + 1) : Nat) : Int))), (8, .bool ((decide ((((x.1 : Nat) : Int) : Int) < (((l.length : Nat) : Int) : Int))))), (19, .bool ((decide ((2000 : Int) < ((IntKind.i64.wrap (x.2 + (wrap64 ((tget l x.1).size : Int)))) : Int)))))]) ⟨rfl, rfl, rfl, rfl, rfl, trivial⟩ ?_)
        refine WE.round ((x.1 + 1, (IntKind.i64.wrap (x.2 + (wrap64 ((tget l x.1).size : Int)))))) ⟨rfl, rfl, rfl, trivial⟩ ?_ ?_
        · have hb13 : Below w.heap.size w w10 := (bstep hb2 hbz)
          exact ⟨by dsimp only; omega, (by rw [greatF_drop (by omega)] at hF; rw [← hF, decide_eq_false (by have z := h11; omega), Bool.false_or]), hb13⟩
        · dsimp only; omega
    · have h3 : ¬ ((((x.1 : Nat) : Int) : Int) < (((l.length : Nat) : Int) : Int)) := by simpa using h3
      refine WC.exit ?_
      refine WE.thenExit ?_
      refine WE.thenExit ?_
      refine WE.blockIs rfl ?_
      refine WE.next ?_
      refine WC.seq ?_
      refine WC.region ?_
      refine WL.val (.bool false) rfl rfl rfl (fun za zC zh zk => wp_assign rfl (zh.ev rfl) zk) ?_
      refine WL.nil (WE.sub (K' := [(0, .slice a l.length c), (2, .bool false), (3, .int .i64 x.2), (4, .int .i64 (((x.1 : Nat) : Int))), (8, .bool ((decide ((((x.1 : Nat) : Int) : Int) < (((l.length : Nat) : Int) : Int)))))]) ⟨rfl, rfl, rfl, rfl, rfl, trivial⟩ ?_)
      refine WE.next ?_
      refine WC.ret ?_
      refine WE.ret1 rfl rfl ?_
      exact ⟨_, rfl, congrArg Value.bool (by rw [List.drop_eq_nil_of_le (by omega)] at hF; exact hF), hb2⟩

theorem ts3 {w : World} {t s r : T} {u v x y p q : Value} {ty : Nat} (h : IsT w t (.agg #[u, v])) (h' : IsT w s (.agg #[x, y])) (h2 : IsT w r (.agg #[p, q])) : TsOf [t, s, r] (.slice (some ⟨w.heap.size, 0, none⟩) 3 3) (w.alloc (.cells #[u, v, x, y, p, q] ty)) := by
  have hb := balloc w (.cells #[u, v, x, y, p, q] ty)
  exact ⟨_, _, rfl, Nat.le_refl _, by unfold maxLen; simp, ⟨_, 0, _, _, rfl, by simp, by simp, h.below hb⟩, ⟨_, 0, _, _, rfl, by simp, by simp, h'.below hb⟩, ⟨_, 0, _, _, rfl, by simp, by simp, h2.below hb⟩, trivial⟩
theorem great_ts {l : List T} {v : Value} {w : World} (h : TsOf l v w) : Calls Try.prog 8 #[v] w (Ret fun v' w' => v' = .bool (greatB l) ∧ Below w.heap.size w w') := by
  obtain ⟨a, c, rfl, h1, h2, h3⟩ := h
  exact great_x l w a c h1 h2 h3
theorem fits_ts {sg : List Sy} {o : Od} {l : List T} {vs vo v : Value} {w : World} (hz : ∀ t ∈ l, t.size ≤ 4294967296) (hs : IsSig w sg vs) (ho : IsOd w o vo) (h : TsOf l v w) : Calls Try.prog 13 #[vs, vo, v] w (Ret fun v' w' => v' = .bool (fitsB sg o l) ∧ Below w.heap.size w w') := by
  obtain ⟨a, c, rfl, h1, h2, h3⟩ := h
  exact fits_x sg o l w vs vo a c hz hs ho h1 h2 h3
end Go.Proofs.Ytlkiabgpnboicaa

/- What a law's statement asks behind its call, where the call answers true and leaves all that was there as it was. -/
namespace Go.Proofs.Ytlkiabgpnboicaa
open Go.ChangeShapes Go.WideShapes Go.ChangeAt Go.RowKit

section
variable {H : Type} {enc : TypeId × Value → H} {P : Program}

theorem trodAll_below (hl : laidOutB P = true) {W W' : World} (hb : Below W.heap.size W W') : ∀ {ts : List TypeId} {vs : List Value} {ds : List (DataW H)} {ps : List MemPlace},
    (∀ t ∈ ts, P.readableRec t = true ∧ t < P.types.size) → (∀ x ∈ ps, x.block < W.heap.size) → DataW.TrodAll enc P W 0 (fun _ => true) true ts vs ds ps →
    DataW.TrodAll enc P W' 0 (fun b => decide (b < W.heap.size)) true ts vs ds ps
  | [], [], [], _, _, _, h => h
  | t :: ts, v :: vs, d :: ds, ps, hr, hlt, ⟨p, q, h1, h2, e⟩ => by
    subst e
    exact ⟨p, q, Below.trod hl (hr t (by simp)).1 (hr t (by simp)).2 h1 hb (fun x hx => hlt x (by simp [hx])), trodAll_below hl hb (fun t ht => hr t (by simp [ht])) (fun x hx => hlt x (by simp [hx])) h2, rfl⟩
  | [], _ :: _, _, _, _, _, h => h.elim
  | [], [], _ :: _, _, _, _, h => h.elim
  | _ :: _, [], _, _, _, _, h => h.elim
  | _ :: _, _ :: _, [], _, _, _, h => h.elim

theorem law_post {f : Func} {s : ChangeSpec} {W W' : World} {args : Array Value} {ds gs : List (DataW H)} {before : List MemPlace} {tb : TypeId} (hl : laidOutB P = true) (hr : ∀ t ∈ f.params.toList, P.readableRec t = true ∧ t < P.types.size)
    (htb : P.underlying tb = some .bool) (hrt : f.resultTypes = #[tb]) (hv : s.vars = []) (hs : s.fn H ds = { results := [.lit (.bool true)], args := ds })
    (hW : DataW.Whole enc P f.params.toList s.vars false W args.toList ds gs before) (hb : Below W.heap.size W W') : s.post enc P f false true false false W args (.bool true) W' := by
  have hlt : ∀ p ∈ before, p.block < W.heap.size := fun p hp => hW.lt p hp
  have hW0 := hW
  obtain ⟨p, q, hA, hV, hpq, _, _⟩ := hW
  rw [hv] at hV
  obtain ⟨rfl, rfl⟩ := trodVars_none hV
  refine ⟨ds, [], before, [], p, [], hW0, ?_, ?_, ?_, hb.frame _, fun h => by cases h⟩
  · rw [List.append_nil, hs, hrt]
    exact trodAll_cons_mk (shut_bool htb _) trodAll_mk0
  · rw [List.append_nil, hs]
    refine trodAll_below hl hb hr (fun x hx => hlt x ?_) hA
    rw [hpq]; simp [hx]
  · rw [List.append_nil, hv]
    have : (s.fn H ds).vars = [] := by rw [hs]
    rw [this]
    rfl
end

end Go.Proofs.Ytlkiabgpnboicaa

namespace Go.Proofs.Ytlkiabgpnboicaa
open Go.ChangeShapes Go.WideShapes Go.ChangeAt Go.RowKit

theorem own : ownKnob Try.prog.godebug = none := by kernel_rfl

section
variable {H : Type} {enc : TypeId × Value → H} {w : World} {base : Nat} {spare : Nat → Bool} {held : Bool}

set_option maxRecDepth 100000 in
theorem arg_T {r : Reach} {b : Nat} {v : Value} {d : DataW H} {p : List MemPlace} (h : Value.okWide Try.prog w r b 27 v) (ht : DataW.Trod enc Try.prog w base spare held 27 v d p) :
    ∃ t : T, IsT w t v ∧ t.size ≤ Rows.uptoBulk d := by
  obtain ⟨cs, rfl, _⟩ := okWide_struct Try.underlying27 h
  obtain ⟨fuel, hf⟩ := ht
  obtain ⟨t, u, v, e, h1, h2⟩ := open_T _ _ _ hf
  have e' : cs = #[u, v] := by
    apply Array.toList_inj.1
    exact e
  subst e'
  exact ⟨t, h1, h2⟩

set_option maxRecDepth 100000 in
theorem arg_Od {r : Reach} {b : Nat} {v : Value} {d : DataW H} {p : List MemPlace} (h : Value.okWide Try.prog w r b 24 v) (ht : DataW.Trod enc Try.prog w base spare held 24 v d p) :
    ∃ o : Od, IsOd w o v := by
  obtain ⟨cs, rfl, _⟩ := okWide_struct Try.underlying24 h
  obtain ⟨fuel, hf⟩ := ht
  obtain ⟨t, v0, v1, v2, v3, e, h1⟩ := open_Od _ _ _ hf
  have e' : cs = #[v0, v1, v2, v3] := by
    apply Array.toList_inj.1
    exact e
  subst e'
  exact ⟨t, h1⟩
end

theorem readable_all {P : Program} {ts : List TypeId} (h : (ts.all fun t => P.readableRec t && Nat.blt t P.types.size) = true) : ∀ t ∈ ts, P.readableRec t = true ∧ t < P.types.size := by
  intro t ht
  have := List.all_eq_true.1 h t ht
  simp only [Bool.and_eq_true, Nat.blt_eq] at this
  exact this

theorem bulk_mem {H : Type} {l : List (DataW H)} (hk : Rows.uptoSmall H l = true) {d : DataW H} (h : d ∈ l) : Rows.uptoBulk d ≤ 1048576 :=
  Nat.le_trans (bulkAll_le h) (of_decide_eq_true hk)

end Go.Proofs.Ytlkiabgpnboicaa
