/- Four clauses in two queues: what comes when. -/
import Derived.Test.YtjhkoiggeepajaaRoomM
import Derived.Test.YtjhkoiggeepajaaLit
namespace Go.Proofs.Ytjhkoiggeepajaa
open Go.RowKit Go
set_option linter.unusedVariables false
set_option linter.unusedSimpArgs false

/-- A tower of symbols. -/
def tw : Nat → T
  | 0 => .mk 1 []
  | k + 1 => .mk 2 [tw k]
def szC (k : Nat) : Li := ⟨false, tw k, .mk 0 []⟩
theorem tw_size : ∀ k, (tw k).size = k + 1
  | 0 => rfl
  | k + 1 => by simp [tw, T.size, T.sizeL, tw_size k]; omega
theorem inT_one {S : Nat → Prop} {w : World} {f : Int} {t : T} {g ty : Nat} {u v : Value} (hf : -9223372036854775808 ≤ f ∧ f ≤ 9223372036854775807) (hB : Blk w g ty #[u, v]) (hS : S g) (h : InT S w t (.agg #[u, v])) : InT S w (.mk f [t]) (.agg #[.int .i64 f, .slice (some ⟨g, 0, none⟩) 1 1]) :=
  ⟨hf, _, _, rfl, Nat.le_refl _, by unfold maxLen; omega, ⟨g, 0, u, v, rfl, hS, (hB.cell 0).trans rfl, (hB.cell 1).trans rfl, h⟩, trivial⟩
theorem inT_lf {S : Nat → Prop} {w : World} {f : Int} (hf : -9223372036854775808 ≤ f ∧ f ≤ 9223372036854775807) : InT S w (.mk f []) (.agg #[.int .i64 f, .slice none 0 0]) :=
  ⟨hf, _, _, rfl, Nat.le_refl _, by unfold maxLen; omega, trivial⟩
theorem row_one {S : Nat → Prop} {w : World} {g ty : Nat} {x : Li} {v1 v2 v3 v4 : Value} (hB : Blk w g ty #[.bool x.neg, v1, v2, v3, v4]) (hS : S g) (h1 : InT S w x.l (.agg #[v1, v2])) (h2 : InT S w x.r (.agg #[v3, v4])) : InRow eltL S w [x] (some ⟨g, 0, none⟩) := fun i hi => by
  obtain rfl : i = 0 := by simp at hi; exact hi
  refine ⟨g, 0, [.bool x.neg, v1, v2, v3, v4], rfl, hS, ⟨v1, v2, v3, v4, rfl, h1, h2⟩, fun j hj => ?_⟩
  rw [hB.cell, show 0 + 0 * eltL.k + j = j by omega, List.getElem?_toArray]
/-- A clause of that size stays as it is, whatever becomes of a room's blocks. -/
theorem sized_cl {Z : Nat → Prop} {w1 w2 : World} {k : Nat} {a : Option Addr} (hk : k < 4294967296) (h : InRow eltL (fun b => w1.heap.size ≤ b) w2 [szC k] a) : ∀ w', Chg (fun b => (Z b ∧ b < w1.heap.size) ∨ w2.heap.size ≤ b) w2 w' → IsCl w' [szC k] a 1 := fun w' hc => by
  have h1 : InRow eltL (fun b => w1.heap.size ≤ b ∧ b < w2.heap.size) w2 [szC k] a := h.mono (by decide) (fun b u v => ⟨u, v⟩)
  have h2 : InRow eltL (fun b => w1.heap.size ≤ b ∧ b < w2.heap.size) w' [szC k] a := h1.keep (fun p v hp hv => by
    have e := hc.block p.block hp.2 (by rintro (q | q) <;> omega)
    unfold World.cell? at hv ⊢
    rw [e]; exact hv)
  have hz := tw_size k
  refine ⟨h2.mono (by decide) (fun _ _ _ => trivial), Nat.le_refl _, by unfold maxLen; omega, by simp, fun b hb => ?_, fun b hb => ?_⟩
  · obtain rfl : b = szC k := by simpa using hb
    show (tw k).size ≤ _
    omega
  · obtain rfl : b = szC k := by simpa using hb
    show (T.mk 0 []).size ≤ _
    decide
/-- The two queues. -/
def wq : List Qu := [⟨1, 2⟩, ⟨0, 1⟩]
def ww5 : Wt := ⟨5, 1, [szC 8], false⟩
def ww6 : Wt := ⟨6, 2, [szC 2], false⟩
def ww7 : Wt := ⟨7, 3, [szC 2], false⟩
def ww8 : Wt := ⟨8, 4, [szC 0], false⟩
/-- Who waits, whose turn it is, how often it has been. -/
def wst : Nat → List Wt × Nat × Nat
  | 0 => ([ww5, ww6, ww7, ww8], 0, 0)
  | 1 => ([ww5, ww6, ww7], 0, 1)
  | 2 => ([ww5, ww7], 1, 0)
  | 3 => ([ww7], 0, 0)
  | _ => ([], 0, 1)
def wnt : Nat → Int
  | 0 => 8
  | 1 => 6
  | 2 => 5
  | _ => 7
theorem it1_5 : itemOf 1 ww5 = ⟨9, 0, 5, 1⟩ := by decide
theorem it1_6 : itemOf 1 ww6 = ⟨3, 0, 6, 2⟩ := by decide
theorem it1_7 : itemOf 1 ww7 = ⟨3, 0, 7, 3⟩ := by decide
theorem it1_8 : itemOf 1 ww8 = ⟨1, 0, 8, 4⟩ := by decide
theorem it0_5 : itemOf 0 ww5 = ⟨0, 0, 5, 1⟩ := by decide
theorem it0_7 : itemOf 0 ww7 = ⟨0, 0, 7, 3⟩ := by decide
theorem next0 {x : Wt} (hx : x ∈ (wst 0).1) (h : ∀ x' ∈ (wst 0).1, (itemOf (qget wq (wst 0).2.1).by_ x).le (itemOf (qget wq (wst 0).2.1).by_ x')) : x = ww8 := by
  have h0 := h ww8 (by simp [wst])
  change (itemOf 1 x).le (itemOf 1 ww8) at h0
  simp only [wst, List.mem_cons, List.not_mem_nil, or_false] at hx
  rcases hx with rfl | rfl | rfl | rfl
  · rw [it1_5, it1_8] at h0; unfold It.le at h0; simp at h0
  · rw [it1_6, it1_8] at h0; unfold It.le at h0; simp at h0
  · rw [it1_7, it1_8] at h0; unfold It.le at h0; simp at h0
  · rfl
theorem next1 {x : Wt} (hx : x ∈ (wst 1).1) (h : ∀ x' ∈ (wst 1).1, (itemOf (qget wq (wst 1).2.1).by_ x).le (itemOf (qget wq (wst 1).2.1).by_ x')) : x = ww6 := by
  have h0 := h ww6 (by simp [wst])
  change (itemOf 1 x).le (itemOf 1 ww6) at h0
  simp only [wst, List.mem_cons, List.not_mem_nil, or_false] at hx
  rcases hx with rfl | rfl | rfl
  · rw [it1_5, it1_6] at h0; unfold It.le at h0; simp at h0
  · rfl
  · rw [it1_7, it1_6] at h0; unfold It.le at h0; simp at h0
theorem next2 {x : Wt} (hx : x ∈ (wst 2).1) (h : ∀ x' ∈ (wst 2).1, (itemOf (qget wq (wst 2).2.1).by_ x).le (itemOf (qget wq (wst 2).2.1).by_ x')) : x = ww5 := by
  have h0 := h ww5 (by simp [wst])
  change (itemOf 0 x).le (itemOf 0 ww5) at h0
  simp only [wst, List.mem_cons, List.not_mem_nil, or_false] at hx
  rcases hx with rfl | rfl
  · rfl
  · rw [it0_7, it0_5] at h0; unfold It.le at h0; simp at h0
theorem next3 {x : Wt} (hx : x ∈ (wst 3).1) : x = ww7 := by simpa [wst] using hx
/-- What comes next. -/
theorem nextW {k : Nat} (hk : k < 4) {x : Wt} (hx : x ∈ (wst k).1) (h : ∀ x' ∈ (wst k).1, (itemOf (qget wq (wst k).2.1).by_ x).le (itemOf (qget wq (wst k).2.1).by_ x')) : x.id = wnt k ∧ dropW (wst k).1 x.id = (wst (k + 1)).1 ∧ tick wq (wst k).2.1 (wst k).2.2 = (wst (k + 1)).2 := by
  rcases (show k = 0 ∨ k = 1 ∨ k = 2 ∨ k = 3 by omega) with rfl | rfl | rfl | rfl
  · obtain rfl := next0 hx h; exact ⟨rfl, by simp [dropW, wst, ww5, ww6, ww7, ww8], by decide⟩
  · obtain rfl := next1 hx h; exact ⟨rfl, by simp [dropW, wst, ww5, ww6, ww7, ww8], by decide⟩
  · obtain rfl := next2 hx h; exact ⟨rfl, by simp [dropW, wst, ww5, ww6, ww7, ww8], by decide⟩
  · obtain rfl := next3 hx; exact ⟨rfl, by simp [dropW, wst, ww5, ww6, ww7, ww8], by decide⟩
end Go.Proofs.Ytjhkoiggeepajaa
