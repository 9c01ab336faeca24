/- The document's matcher tells its bindings: insertion, plain. -/
import Derived.Test.YtcmfjnadjddboaaMatSub
namespace Go.Proofs.Ytcmfjnadjddboaa
open Go.RowKit Go

def insAt (L : List Bd) (j : Nat) (x : Bd) : List Bd := L.take j ++ x :: L.drop j
section
variable {L st : List Bd} {j i k : Nat} {x : Bd}
theorem insAt_len (h : j ≤ L.length) : (insAt L j x).length = L.length + 1 := by unfold insAt; simp; omega
theorem insAt_end : insAt L L.length x = L ++ [x] := by unfold insAt; rw [List.take_length, List.drop_length]
theorem dget_ins_at (h : j ≤ L.length) : dget (insAt L j x) j = x := by
  have e : (L.take j).length = j := by simp; omega
  unfold insAt dget
  rw [List.getD_eq_getElem?_getD, List.getElem?_append_right (by omega), e, Nat.sub_self]; rfl
theorem dget_ins_lt (hk : k < j) (h : j ≤ L.length) : dget (insAt L j x) k = dget L k := by
  have e : (L.take j).length = j := by simp; omega
  unfold insAt dget
  rw [List.getD_eq_getElem?_getD, List.getElem?_append_left (by omega), List.getElem?_take_of_lt hk, List.getD_eq_getElem?_getD]
theorem ins_swap (h0 : 0 < j) (h : j ≤ L.length) : ((insAt L j x).set j (dget (insAt L j x) (j - 1))).set (j - 1) (dget (insAt L j x) j) = insAt L (j - 1) x := by
  rw [dget_ins_at h, dget_ins_lt (by omega) h]
  obtain ⟨m, rfl⟩ : ∃ m, j = m + 1 := ⟨j - 1, by omega⟩
  rw [Nat.add_sub_cancel]
  have hm : m < L.length := by omega
  have e1 : (L.take (m + 1)).length = m + 1 := by simp; omega
  have e0 : (L.take m).length = m := by simp; omega
  unfold insAt
  rw [List.set_append_right _ _ (by omega), e1, Nat.sub_self, List.set_cons_zero, List.take_succ_eq_append_getElem hm, List.append_assoc, List.set_append_right _ _ (by omega), e0, Nat.sub_self, List.singleton_append, List.set_cons_zero, List.drop_eq_getElem_cons hm, dget_lt hm]
theorem mem_ins {y : Bd} : y ∈ insAt L j x ↔ y ∈ L ∨ y = x := by
  have : y ∈ L ↔ y ∈ L.take j ∨ y ∈ L.drop j := by rw [← List.mem_append, List.take_append_drop]
  unfold insAt
  rw [this, List.mem_append, List.mem_cons]
  constructor
  · rintro (q | q | q)
    · exact .inl (.inl q)
    · exact .inr q
    · exact .inl (.inr q)
  · rintro ((q | q) | q)
    · exact .inl q
    · exact .inr (.inr q)
    · exact .inr (.inl q)
theorem take_snoc (hi : i < st.length) : st.take (i + 1) = st.take i ++ [dget st i] := by rw [List.take_succ_eq_append_getElem hi, dget_lt hi]
theorem subOf_skip (h : SubOf (st.take i) L) (hi : i < st.length) (hs : (dget st i).itself = true) : SubOf (st.take (i + 1)) L := by
  refine ⟨h.sorted, fun y => ?_⟩
  rw [h.mem, take_snoc hi, List.mem_append, List.mem_singleton]
  constructor
  · rintro ⟨q, e⟩; exact ⟨.inl q, e⟩
  · rintro ⟨q | q, e⟩
    · exact ⟨q, e⟩
    · rw [q, hs] at e; cases e
theorem subOf_nil : SubOf (st.take 0) [] := ⟨List.Pairwise.nil, fun y => by simp⟩
theorem subOf_ins (h : SubOf (st.take i) L) (hn : (st.map (·.var)).Nodup) (hi : i < st.length) (hs : ¬ (dget st i).itself = true) (hj : j ≤ L.length) (hr : ∀ k, j ≤ k → k < L.length → (dget st i).var < (dget L k).var) (hl : ¬ (0 < j ∧ (dget st i).var < (dget L (j - 1)).var)) : SubOf (st.take (i + 1)) (insAt L j (dget st i)) := by
  have ne : ∀ y ∈ L, y.var ≠ (dget st i).var := by
    intro y hy e
    have h1 := ((h.mem y).1 hy).1
    obtain ⟨m, hm, rfl⟩ := List.getElem_of_mem h1
    have hmi : m < i := by simp at hm; omega
    rw [List.getElem_take, dget_lt hi] at e
    have hx : (st.map (·.var))[m]'(by simp; omega) = (st.map (·.var))[i]'(by simp; omega) := by simpa using e
    have := (List.getElem_inj hn).1 hx
    omega
  refine ⟨?_, fun y => ?_⟩
  · unfold insAt
    have hLs : (L.take j ++ L.drop j).Pairwise fun x y => x.var < y.var := by rw [List.take_append_drop]; exact h.sorted
    obtain ⟨p1, p2, p3⟩ := List.pairwise_append.1 hLs
    have right : ∀ y ∈ L.drop j, (dget st i).var < y.var := by
      intro y hy
      obtain ⟨m, hm, rfl⟩ := List.getElem_of_mem hy
      have hm' : j + m < L.length := by simp at hm; omega
      have := hr (j + m) (by omega) hm'
      rw [dget_lt hm'] at this
      rw [List.getElem_drop]; exact this
    have left : ∀ y ∈ L.take j, y.var < (dget st i).var := by
      intro y hy
      obtain ⟨m, hm, rfl⟩ := List.getElem_of_mem hy
      have hm' : m < j := by simp at hm; omega
      have hjl : j - 1 < L.length := by omega
      have h1 : ¬ (dget st i).var < L[j - 1].var := fun q => hl ⟨by omega, by rw [dget_lt hjl]; exact q⟩
      have h2 := ne L[j - 1] (List.getElem_mem _)
      rw [List.getElem_take]
      rcases Nat.lt_or_ge m (j - 1) with q | q
      · have := List.pairwise_iff_getElem.1 h.sorted m (j - 1) (by omega) hjl q
        omega
      · have e : m = j - 1 := by omega
        subst e; omega
    refine List.pairwise_append.2 ⟨p1, List.pairwise_cons.2 ⟨right, p2⟩, fun a ha b hb => ?_⟩
    rcases List.mem_cons.1 hb with e | hb
    · rw [e]; exact left a ha
    · exact p3 a ha b hb
  · rw [mem_ins, h.mem, take_snoc hi, List.mem_append, List.mem_singleton]
    constructor
    · rintro (⟨q, e⟩ | q)
      · exact ⟨.inl q, e⟩
      · exact ⟨.inr q, by rw [q]; exact Bool.eq_false_iff.2 hs⟩
    · rintro ⟨q | q, e⟩
      · exact .inl ⟨q, e⟩
      · exact .inr q
end
structure RX where
  i : Nat
  a : Option Addr
  c : Nat
  n : Nat
  L : List Bd
end Go.Proofs.Ytcmfjnadjddboaa
