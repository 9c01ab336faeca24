/- What an order and terms that fit come to: the laws of the order, plainly. -/
import Derived.Test.YtjkpecjlpgcalaaKboMath2
import Derived.Test.YtjkpecjlpgcalaaFitsPlain
namespace Go.Proofs.Ytjkpecjlpgcalaa

namespace T
mutual
theorem ok_over {sg : List Sy} {m : Int} : ∀ (t : T) (top : Bool), low m t = true → over sg top t = true → ok (sg.map (·.ar)) t = true
  | .mk f l, top, h1, h2 => by
    rw [low] at h1
    rw [over] at h2
    rw [ok]
    by_cases hf : f < 0
    · rw [if_pos hf] at h1 ⊢
      simp only [Bool.and_eq_true] at h1
      exact h1.2
    · rw [if_neg hf] at h1 h2 ⊢
      cases hs : sg[f.toNat]? with
      | none => rw [hs] at h2; cases h2
      | some s =>
        rw [hs] at h2
        simp only at h2
        split at h2
        · cases h2
        · rename_i hc
          have hc1 : s.ar = l.length := Classical.not_not.1 fun h => hc (.inl h)
          have hlt := (List.getElem?_eq_some_iff.1 hs).1
          have e : (sg.map (·.ar)).getD f.toNat 0 = s.ar := by rw [List.getD_eq_getElem?_getD, List.getElem?_map, hs]; rfl
          simp only [Bool.and_eq_true, decide_eq_true_eq]
          exact ⟨⟨by simp; omega, e.trans hc1⟩, okL_over l h1 h2⟩
theorem okL_over {sg : List Sy} {m : Int} : ∀ (l : List T), lowL m l = true → overL sg l = true → okL (sg.map (·.ar)) l = true
  | [], _, _ => rfl
  | a :: r, h1, h2 => by
    simp only [lowL, overL, Bool.and_eq_true] at h1 h2
    simp only [okL, Bool.and_eq_true]
    exact ⟨ok_over a false h1.1 h2.1, okL_over r h1.2 h2.2⟩
end

/-- A term over a signature, of no more than 300 parts. -/
theorem check_ok {sg : List Sy} {t : T} (h : t.check sg = 0) : ok (sg.map (·.ar)) t = true ∧ t.size ≤ 300 := by
  unfold check at h
  by_cases hc : sigCheck sg = 0 ∧ small 48 t = true ∧ over sg true t = true
  · have h1 := hc.2.1
    simp only [small, Bool.and_eq_true, decide_eq_true_eq] at h1
    exact ⟨ok_over t true h1.2.2 hc.2.2, h1.1⟩
  · rw [if_neg hc] at h; cases h
end T

namespace Od

theorem good_of {sg : List Sy} {o : Od} (h : OrdOk sg o) (hl : o.lpo = false) : Good o (sg.map (·.ar)) := by
  obtain ⟨h1, h2, h3, h4, h5⟩ := h.kbo hl
  have hlen := h.len
  have wat : ∀ f : Int, 0 ≤ f → o.wsym f = o.weights.getD f.toNat 0 := fun f hf => by unfold wsym; rw [if_neg (by omega)]
  have aat : ∀ (f : Int) (_ : 0 ≤ f) (hf : f.toNat < sg.length), (sg.map (·.ar)).getD f.toNat 0 = sg[f.toNat].ar := fun f _ hf => by
    rw [List.getD_eq_getElem?_getD, List.getElem?_map, List.getElem?_eq_getElem hf]; rfl
  refine ⟨by simpa using hlen, by simpa using h1, fun f g f0 f1 g0 g1 e => ?_, ⟨h2, h3⟩, fun f f0 f1 => ?_, fun f f0 f1 ha => ?_, fun f f0 f1 ha hw g g0 g1 => ?_⟩
  · simp only [List.length_map] at f1 g1
    unfold rank at e
    rcases Nat.lt_trichotomy f.toNat g.toNat with h' | h' | h'
    · exact absurd e.symm ((h.ranks g.toNat (by omega)).2 _ h')
    · omega
    · exact absurd e ((h.ranks f.toNat (by omega)).2 _ h')
  · simp only [List.length_map] at f1
    rw [wat f f0]
    exact (h5 f.toNat (by omega)).1
  · simp only [List.length_map] at f1
    rw [aat f f0 (by omega)] at ha
    rw [wat f f0]
    exact (h5 f.toNat (by omega)).2.1 ha
  · simp only [List.length_map] at f1 g1
    rw [aat f f0 (by omega)] at ha
    rw [wat f f0] at hw
    exact (h5 f.toNat (by omega)).2.2 ha hw g.toNat (by omega)

mutual
theorem Good.knows {o : Od} {ar : List Int} (G : Good o ar) : ∀ t, T.ok ar t = true → o.knows t = true
  | .mk f l, h => by
    rcases T.ok_cases h with ⟨hf, rfl⟩ | ⟨h0, h1, _, hl⟩
    · rw [Od.knows, if_pos hf]; rfl
    · rw [Od.knows, if_neg (by omega)]
      simp only [Bool.and_eq_true, decide_eq_true_eq]
      exact ⟨⟨by rw [G.prec]; exact h1, by rw [G.weights]; exact h1⟩, Good.knowsL G l hl⟩
theorem Good.knowsL {o : Od} {ar : List Int} (G : Good o ar) : ∀ l, T.okL ar l = true → o.knowsL l = true
  | [], _ => rfl
  | a :: r, h => by
    simp only [T.okL, Bool.and_eq_true] at h
    simp only [Od.knowsL, Bool.and_eq_true]
    exact ⟨Good.knows G a h.1, Good.knowsL G r h.2⟩
end

/-- Terms that the order may be asked of. -/
structure Fit (o : Od) (ar : List Int) (t : T) : Prop where
  ok : T.ok ar t = true
  size : t.size ≤ 2000000

theorem fit_of {sg : List Sy} {o : Od} {l : List T} (h : FitsOk sg o l) : Good o (sg.map (·.ar)) ∧ ∀ t ∈ l, Fit o (sg.map (·.ar)) t :=
  ⟨good_of h.2.1 h.1, fun t ht => by have := T.check_ok (h.2.2 t ht); exact ⟨this.1, by omega⟩⟩

section
variable {o : Od} {ar : List Int} {s t u : T}

theorem Good.Cmp_eq (G : Good o ar) (hs : Fit o ar s) (ht : Fit o ar t) : o.Cmp s t = if T.same s t then 2 else if o.kb s t then 3 else if o.kb t s then 1 else 0 := by
  unfold Cmp cmp
  rw [G.knows s hs.ok, G.knows t ht.ok, G.above_kb s t hs.ok ht.ok hs.size ht.size, G.above_kb t s ht.ok hs.ok ht.size hs.size]
  rfl

theorem Good.Cmp_self (G : Good o ar) (hs : Fit o ar s) : o.Cmp s s = 2 := by rw [G.Cmp_eq hs hs, T.same_refl]; rfl

def turn (r : Int) : Int := if r = 1 then 3 else if r = 3 then 1 else r

theorem Good.Cmp_turn (G : Good o ar) (hs : Fit o ar s) (ht : Fit o ar t) : o.Cmp t s = turn (o.Cmp s t) := by
  rw [G.Cmp_eq hs ht, G.Cmp_eq ht hs, T.same_symm t s]
  cases T.same s t with
  | true => rfl
  | false =>
    cases h : o.kb s t with
    | true =>
      have : o.kb t s = false := by
        cases h2 : o.kb t s with
        | false => rfl
        | true =>
          have := G.kb_trans s t s hs.ok ht.ok hs.ok h h2
          rw [kb_irrefl] at this; cases this
      rw [this]; rfl
    | false => cases o.kb t s <;> rfl

theorem Good.Cmp_same (G : Good o ar) (hs : Fit o ar s) (ht : Fit o ar t) : (o.Cmp s t == 2) = T.same s t := by
  rw [G.Cmp_eq hs ht]
  cases T.same s t with
  | true => rfl
  | false => cases o.kb s t <;> cases o.kb t s <;> rfl

theorem Good.Cmp_above (G : Good o ar) (hs : Fit o ar s) (ht : Fit o ar t) : (o.Cmp s t == 3) = o.kb s t := by
  rw [G.Cmp_eq hs ht]
  cases h : T.same s t with
  | true =>
    obtain rfl := (T.same_iff _ _).1 h
    rw [kb_irrefl]; rfl
  | false => cases o.kb s t <;> cases o.kb t s <;> rfl

theorem Good.Cmp_trans (G : Good o ar) (hs : Fit o ar s) (ht : Fit o ar t) (hu : Fit o ar u) : (!(o.Cmp s t == 3) || (!(o.Cmp t u == 3) || (o.Cmp s u == 3))) = true := by
  rw [G.Cmp_above hs ht, G.Cmp_above ht hu, G.Cmp_above hs hu]
  cases h1 : o.kb s t with
  | false => rfl
  | true =>
    cases h2 : o.kb t u with
    | false => rfl
    | true => rw [G.kb_trans s t u hs.ok ht.ok hu.ok h1 h2]; rfl
end
end Od

end Go.Proofs.Ytjkpecjlpgcalaa
