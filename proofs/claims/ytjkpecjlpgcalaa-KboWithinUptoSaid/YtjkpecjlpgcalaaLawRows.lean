/- Rows of terms that a law hands on; boxes of a law's arguments. -/
import Derived.Test.YtjkpecjlpgcalaaLawKit
import Derived.Test.YtjkpecjlpgcalaaFits
namespace Go.Proofs.Ytjkpecjlpgcalaa
open Go.RowKit Go

section
variable {w : World}

theorem terms3 {t s r : T} {u v x y p q : Value} (hu : IsT w t (.agg #[u, v])) (hx : IsT w s (.agg #[x, y])) (hp : IsT w r (.agg #[p, q])) : Below w.heap.size w (w.alloc (.cells #[u, v, x, y, p, q] 27)) ∧ (Spec.terms [t, s, r]).holds (.slice (some ⟨w.heap.size, 0, none⟩) 3 3) (w.alloc (.cells #[u, v, x, y, p, q] 27)) := by
  have hb := balloc w (.cells #[u, v, x, y, p, q] 27)
  exact ⟨hb, _, _, rfl, Nat.le_refl _, by unfold maxLen; simp, ⟨⟨_, 0, _, _, rfl, by simp, by simp, hu.below hb⟩, ⟨_, 0, _, _, rfl, by simp, by simp, hx.below hb⟩, ⟨_, 0, _, _, rfl, by simp, by simp, hp.below hb⟩, trivial⟩⟩

theorem great_row {l : List T} {n b : Nat} {cs : Array Value} (hbw : w.heap.size = b) (h : Below w.heap.size w (w.alloc (.cells cs 27)) ∧ (Spec.terms l).holds (.slice (some ⟨w.heap.size, 0, none⟩) n n) (w.alloc (.cells cs 27))) :
    Calls Try.prog 8 #[.slice (some ⟨b, 0, none⟩) n n] (w.alloc (.cells cs 27)) fun e w' => (∃ b, e = .returned (.bool b)) ∧ Below w.heap.size w w' := by
  subst hbw
  obtain ⟨hb, a, c, e, h1, h2, h3⟩ := h
  simp only [Value.slice.injEq] at e
  obtain ⟨rfl, rfl, rfl⟩ := e
  refine (great_any l _ _ _ h1 h2 h3).mono ?_
  rintro e w' ⟨he, hb'⟩
  exact ⟨he, bstep hb hb'⟩

theorem fits_row {sg : List Sy} {o : Od} {l : List T} {n b : Nat} {cs : Array Value} {vs vo : Value} (hz : ∀ t ∈ l, t.size ≤ 4294967296) (hbw : w.heap.size = b) (hs : IsSig w sg vs) (ho : IsOd w o vo) (h : Below w.heap.size w (w.alloc (.cells cs 27)) ∧ (Spec.terms l).holds (.slice (some ⟨w.heap.size, 0, none⟩) n n) (w.alloc (.cells cs 27))) :
    Calls Try.prog 15 #[vs, vo, .slice (some ⟨b, 0, none⟩) n n] (w.alloc (.cells cs 27)) fun e w' => (∃ b, e = .returned (.bool b) ∧ (b = true → FitsOk sg o l)) ∧ Below w.heap.size w w' := by
  subst hbw
  obtain ⟨hb, a, c, e, h1, h2, h3⟩ := h
  simp only [Value.slice.injEq] at e
  obtain ⟨rfl, rfl, rfl⟩ := e
  refine (fits_any sg o l _ vs vo _ _ hz (hs.below hb) (ho.below hb) h1 h2 h3).mono ?_
  rintro e w' ⟨he, hb'⟩
  exact ⟨he, bstep hb hb'⟩

theorem box4 {w1 : World} {xs ys zs us : List Value} {t1 t2 t3 t4 : TypeId} (h : Below ((((w.alloc (.cells xs.toArray t1)).alloc (.cells ys.toArray t2)).alloc (.cells zs.toArray t3)).alloc (.cells us.toArray t4)).heap.size ((((w.alloc (.cells xs.toArray t1)).alloc (.cells ys.toArray t2)).alloc (.cells zs.toArray t3)).alloc (.cells us.toArray t4)) w1) :
    Box w1 w.heap.size xs ∧ Box w1 (w.heap.size + 1) ys ∧ Box w1 (w.heap.size + 2) zs ∧ Box w1 (w.heap.size + 3) us ∧ Below w.heap.size w w1 := by
  obtain ⟨h2, h3⟩ := box1 h
  obtain ⟨h4, h5, h6, h7⟩ := box3 h3
  exact ⟨h4, h5, h6, by rwa [World.size_alloc, World.size_alloc, World.size_alloc] at h2, h7⟩
theorem box5 {w1 : World} {xs ys zs us vs : List Value} {t1 t2 t3 t4 t5 : TypeId} (h : Below (((((w.alloc (.cells xs.toArray t1)).alloc (.cells ys.toArray t2)).alloc (.cells zs.toArray t3)).alloc (.cells us.toArray t4)).alloc (.cells vs.toArray t5)).heap.size (((((w.alloc (.cells xs.toArray t1)).alloc (.cells ys.toArray t2)).alloc (.cells zs.toArray t3)).alloc (.cells us.toArray t4)).alloc (.cells vs.toArray t5)) w1) :
    Box w1 w.heap.size xs ∧ Box w1 (w.heap.size + 1) ys ∧ Box w1 (w.heap.size + 2) zs ∧ Box w1 (w.heap.size + 3) us ∧ Box w1 (w.heap.size + 4) vs ∧ Below w.heap.size w w1 := by
  obtain ⟨h2, h3⟩ := box1 h
  obtain ⟨h4, h5, h6, h7, h8⟩ := box4 h3
  exact ⟨h4, h5, h6, h7, by rwa [World.size_alloc, World.size_alloc, World.size_alloc, World.size_alloc] at h2, h8⟩
end
end Go.Proofs.Ytjkpecjlpgcalaa
