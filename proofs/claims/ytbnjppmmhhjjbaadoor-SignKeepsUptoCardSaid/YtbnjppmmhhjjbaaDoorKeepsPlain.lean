/- Symbols added are found, and keep their numbers: plain. -/
import Derived.Test.YtbnjppmmhhjjbaaDoorFreshPlain
namespace Go.Proofs.YtbnjppmmhhjjbaaDoor
open Go.RowKit Go
set_option linter.unusedVariables false
set_option linter.unusedSimpArgs false

/-- What a signature that may be is. -/
def Good (out : List Sy) : Prop := ∃ t, out = truth :: t ∧ (∀ x ∈ t, x.one = 0) ∧ t.Nodup
theorem metErr_iff : ∀ (t seen : List Sy), metErr seen t = 0 ↔ (∀ x ∈ t, x.one = 0 ∧ x ∉ seen) ∧ t.Nodup
  | [], seen => by simp [metErr]
  | x :: r, seen => by
    rw [metErr]
    split
    · rename_i h
      refine ⟨fun e => absurd e h, fun h2 => absurd (h2.1 x (by simp)).1 h⟩
    · rename_i h
      split
      · rename_i h2
        refine ⟨fun e => (by cases e), fun h3 => absurd h2 (h3.1 x (by simp)).2⟩
      · rename_i h2
        rw [metErr_iff r (seen ++ [x])]
        have h0 : x.one = 0 := Classical.byContradiction h
        constructor
        · rintro ⟨k1, k2⟩
          refine ⟨fun y hy => ?_, List.nodup_cons.2 ⟨fun hx => ?_, k2⟩⟩
          · rcases List.mem_cons.1 hy with rfl | hy
            · exact ⟨h0, h2⟩
            · have := k1 y hy
              exact ⟨this.1, fun q => this.2 (List.mem_append_left _ q)⟩
          · exact (k1 x hx).2 (by simp)
        · rintro ⟨k1, k2⟩
          obtain ⟨k3, k4⟩ := List.nodup_cons.1 k2
          refine ⟨fun y hy => ⟨(k1 y (by simp [hy])).1, fun q => ?_⟩, k4⟩
          rcases List.mem_append.1 q with q | q
          · exact (k1 y (by simp [hy])).2 q
          · rw [List.mem_singleton] at q; subst q; exact k3 hy
theorem good_check {out : List Sy} (h : Good out) (hl : out.length ≤ 96) : sigCheck out = 0 := by
  obtain ⟨t, rfl, h1, h2⟩ := h
  rw [sigCheck_met t (by simp at hl; omega)]
  exact (metErr_iff t []).2 ⟨fun x hx => ⟨h1 x hx, by simp⟩, h2⟩
theorem check_good {out : List Sy} (h : sigCheck out = 0) : Good out ∧ out.length ≤ 96 := by
  have hl := sigCheck_len h
  refine ⟨?_, hl⟩
  cases out with
  | nil => unfold sigCheck at h; simp at h
  | cons x t =>
    by_cases hx : x = truth
    · subst hx
      rw [sigCheck_met t (by simp at hl; omega)] at h
      obtain ⟨h1, h2⟩ := (metErr_iff t []).1 h
      exact ⟨t, rfl, fun y hy => (h1 y hy).1, h2⟩
    · unfold sigCheck at h
      rw [if_neg (by omega)] at h
      simp [hx] at h
theorem addErr_iff : ∀ l : List Sy, addErr l = 0 ↔ ∀ x ∈ l, x.one = 0 ∨ x = truth
  | [] => by simp [addErr]
  | x :: r => by
    rw [addErr]
    split
    · rename_i h
      exact ⟨fun e => absurd e h.1, fun h2 => absurd (h2 x (by simp)) (fun q => q.elim h.1 h.2)⟩
    · rename_i h
      rw [addErr_iff r]
      constructor
      · intro k y hy
        rcases List.mem_cons.1 hy with rfl | hy
        · by_cases h1 : y.one = 0
          · exact .inl h1
          · exact .inr (Classical.byContradiction fun h2 => h ⟨h1, h2⟩)
        · exact k y hy
      · exact fun k y hy => k y (List.mem_cons_of_mem _ hy)
theorem addL_good : ∀ (l out : List Sy), Good out → (∀ x ∈ l, x.one = 0 ∨ x = truth) → Good (addL out l)
  | [], out, h, _ => h
  | x :: r, out, h, hl => by
    rw [addL]
    refine addL_good r _ ?_ (fun y hy => hl y (List.mem_cons_of_mem _ hy))
    split
    · exact h
    · rename_i hx
      obtain ⟨t, rfl, h1, h2⟩ := h
      have hne : x ≠ truth := fun e => hx (by rw [e]; simp)
      have h0 : x.one = 0 := (hl x (by simp)).resolve_right hne
      refine ⟨t ++ [x], rfl, fun y hy => ?_, ?_⟩
      · rcases List.mem_append.1 hy with hy | hy
        · exact h1 y hy
        · rw [List.mem_singleton] at hy; rw [hy]; exact h0
      · rw [List.nodup_append]
        refine ⟨h2, by simp, fun a ha b hb e => hx ?_⟩
        rw [List.mem_singleton] at hb
        rw [← hb, ← e]; exact List.mem_cons_of_mem _ ha
theorem addL_pre : ∀ (l out : List Sy), out <+: addL out l
  | [], out => List.prefix_refl _
  | x :: r, out => by
    rw [addL]
    refine List.IsPrefix.trans ?_ (addL_pre r _)
    split
    · exact List.prefix_refl _
    · exact List.prefix_append _ _
theorem addL_has : ∀ (l out : List Sy), ∀ x ∈ l, x ∈ addL out l
  | y :: r, out, x, hx => by
    rw [addL]
    rcases List.mem_cons.1 hx with rfl | hx
    · refine (addL_pre r _).subset ?_
      split
      · assumption
      · simp
    · exact addL_has r _ x hx
theorem addL_id : ∀ (l out : List Sy), (∀ x ∈ l, x ∈ out) → addL out l = out
  | [], out, _ => rfl
  | x :: r, out, h => by
    rw [addL, if_pos (h x (by simp))]
    exact addL_id r out (fun y hy => h y (List.mem_cons_of_mem _ hy))
theorem addRes_no {s l : List Sy} (h : (addRes s l).2 ≠ 0) : (addRes s l).1 = [] := by
  unfold addRes at h ⊢
  split
  · rfl
  · split
    · rfl
    · split
      · rfl
      · rename_i h1 h2 h3
        rw [if_neg h1, if_neg h2, if_neg h3] at h; exact absurd rfl h
theorem addRes_ok {s l : List Sy} (h : (addRes s l).2 = 0) : (addRes s l).1 = addL s l ∧ sigCheck s = 0 ∧ addErr l = 0 ∧ (addL s l).length ≤ 96 := by
  unfold addRes at h ⊢
  by_cases h1 : sigCheck s ≠ 0
  · rw [if_pos h1] at h; exact absurd h h1
  · rw [if_neg h1] at h ⊢
    by_cases h2 : addErr l ≠ 0
    · rw [if_pos h2] at h; exact absurd h h2
    · rw [if_neg h2] at h ⊢
      by_cases h3 : 96 < (addL s l).length
      · rw [if_pos h3] at h; cases h
      · rw [if_neg h3]
        exact ⟨rfl, Classical.byContradiction h1, Classical.byContradiction h2, by omega⟩
/-- What was added once is there: adding it again changes nothing. -/
theorem keeps_again {s l : List Sy} (h : (addRes s l).2 = 0) : sigCheck (addRes s l).1 = 0 ∧ addRes (addRes s l).1 l = ((addRes s l).1, 0) := by
  obtain ⟨e, h1, h2, h3⟩ := addRes_ok h
  have hg := addL_good l s (check_good h1).1 ((addErr_iff l).1 h2)
  have hc := good_check hg h3
  rw [e]
  refine ⟨hc, ?_⟩
  have hi := addL_id l (addL s l) (addL_has l s)
  unfold addRes
  rw [if_neg (by rw [hc]; decide), if_neg (by rw [h2]; decide), hi, if_neg (by omega)]
theorem syAt_get (x : Sy) : ∀ (l : List Sy) (k : Int) (i : Nat), l[i]? = some x → (∀ j, j < i → l[j]? ≠ some x) → syAt x l k = k + i
  | y :: r, k, 0, h, _ => by
    simp at h
    rw [syAt, if_pos h]; simp
  | y :: r, k, i + 1, h, hn => by
    have h0 : y ≠ x := fun e => hn 0 (by omega) (by simp [e])
    rw [syAt, if_neg h0, syAt_get x r (k + 1) i (by simpa using h) (fun j hj => by have := hn (j + 1) (by omega); simpa using this)]
    omega
theorem good_nodup {out : List Sy} (h : Good out) : out.Nodup := by
  obtain ⟨t, rfl, h1, h2⟩ := h
  exact List.nodup_cons.2 ⟨fun q => truth_one (h1 _ q), h2⟩
theorem keeps_at {s l : List Sy} {i : Nat} (h : (addRes s l).2 = 0) (hi : i < s.length) : syAt (sget s i) (addRes s l).1 0 = i := by
  obtain ⟨e, h1, h2, h3⟩ := addRes_ok h
  have hg := good_nodup (addL_good l s (check_good h1).1 ((addErr_iff l).1 h2))
  rw [e]
  obtain ⟨r, hr⟩ := addL_pre l s
  rw [← hr] at hg ⊢
  have hx : (s ++ r)[i]? = some (sget s i) := by rw [List.getElem?_append_left hi, List.getElem?_eq_getElem hi, sget_lt hi]
  have := syAt_get (sget s i) (s ++ r) 0 i hx (fun j hj q => by
    obtain ⟨q1, e1⟩ := List.getElem?_eq_some_iff.1 q
    obtain ⟨q2, e2⟩ := List.getElem?_eq_some_iff.1 hx
    have hp := List.pairwise_iff_getElem.1 hg j i q1 q2 hj
    exact hp (e1.trans e2.symm))
  rw [this]; omega
theorem keeps_has {s l : List Sy} {x : Sy} (h : (addRes s l).2 = 0) (hx : x ∈ l) : (0 : Int) ≤ syAt x (addRes s l).1 0 := by
  obtain ⟨e, _⟩ := addRes_ok h
  rw [e, syAt_nonneg]
  exact addL_has l s x hx
theorem firstN_free {l : List Sy} {s : ByteArray} (hl : l.length ≤ 96) : ∀ (m k : Nat), k + m = l.length + 1 → (∀ j, 1 ≤ j → j < k → borne l (numd s j) = true) → 1 ≤ k → borne l (numd s (firstN l s m k)) = false
  | 0, k, hk, h, h1 => by
    rw [firstN, Bool.eq_false_iff]
    intro hb
    have := borne_len (l := l) (s := s) (k := k + 1) (by omega) (fun j a b => by rcases Nat.lt_or_ge j k with q | q; exact h j a q; (obtain rfl : j = k := by omega); exact hb)
    omega
  | m + 1, k, hk, h, h1 => by
    rw [firstN]
    split
    · rename_i hb
      exact firstN_free hl m (k + 1) (by omega) (fun j a b => by rcases Nat.lt_or_ge j k with q | q; exact h j a q; (obtain rfl : j = k := by omega); exact hb) (by omega)
    · rename_i hb
      exact Bool.eq_false_iff.2 hb
theorem fresh_kind {a : List Sy} {x : Sy} (ha : sigCheck a = 0) (hx : x.one = 0 ∨ x = truth) : (freshRes a x).2 = 0 ∨ (freshRes a x).2 = 111 := by
  unfold freshRes
  rw [if_neg (by rw [ha]; decide)]
  rcases hx with hx | rfl
  · rw [if_neg (by rw [hx]; decide)]
    split
    · exact .inl rfl
    · exact .inr rfl
  · rw [if_pos truth_one]
    exact .inr (by decide +kernel)
theorem fresh_new {a : List Sy} {x : Sy} (h : (freshRes a x).2 = 0) : (freshRes a x).1.one = 0 ∧ (freshRes a x).1 ∉ a := by
  unfold freshRes at h ⊢
  by_cases h1 : sigCheck a ≠ 0
  · rw [if_pos h1] at h; exact absurd h h1
  · rw [if_neg h1] at h ⊢
    by_cases h2 : x.one ≠ 0
    · rw [if_pos h2] at h; exact absurd h h2
    · rw [if_neg h2] at h ⊢
      have hl := sigCheck_len (Classical.byContradiction h1 : sigCheck a = 0)
      have hf := firstN_free (l := a) (s := x.name) hl a.length 1 (by omega) (fun j a b => by omega) (Nat.le_refl _)
      by_cases h3 : named (numd x.name (firstN a x.name a.length 1)) = true
      · rw [if_pos h3]
        refine ⟨?_, fun q => ?_⟩
        · have h4 : x.one = 0 := Classical.byContradiction h2
          unfold Sy.one at h4 ⊢
          simp only
          rw [if_pos h3]
          split at h4
          · exact h4
          · cases h4
        · have := borne_iff.2 ⟨_, q, rfl⟩
          rw [hf] at this; cases this
      · rw [if_neg h3] at h; cases h
theorem keeps_fresh {a : List Sy} {x : Sy} (ha : sigCheck a = 0) (h : (freshRes a x).2 = 0) (hl : a.length < 96) : addRes a [(freshRes a x).1] = (a ++ [(freshRes a x).1], 0) := by
  obtain ⟨h1, h2⟩ := fresh_new h
  have e : addL a [(freshRes a x).1] = a ++ [(freshRes a x).1] := by rw [addL, if_neg h2, addL]
  have h3 : addErr [(freshRes a x).1] = 0 := (addErr_iff _).2 (fun y hy => by rw [List.mem_singleton] at hy; rw [hy]; exact .inl h1)
  unfold addRes
  rw [if_neg (by rw [ha]; decide), if_neg (by rw [h3]; decide), e, if_neg (by simp; omega)]
end Go.Proofs.YtbnjppmmhhjjbaaDoor
