/- The document's matcher: how it lies in memory. -/
import Derived.Test.YtcmfjnadjddboaaRowD
import Derived.Test.YtcmfjnadjddboaaMatGo
import Derived.Test.YtcmfjnadjddboaaGenH
namespace Go.Proofs.Ytcmfjnadjddboaa
open Go.RowKit Go

/-- The document's matcher at the block 'g': its bindings, and 'D': the blocks of its own. -/
structure RefIn (w : World) (g : Nat) (st : List Bd) (D : Nat → Prop) (a : Option Addr) (c : Nat) : Prop where
  blk : Blk w g 37 #[.slice a st.length c]
  row : RowD eltB (fun b => D b ∧ b ≠ g ∧ (Value.slice a st.length c).ownBlock ≠ some b) w 57 a c st.length st
  dg : D g
  drow : ∀ b, (Value.slice a st.length c).ownBlock = some b → D b
  dlt : ∀ b, D b → b < w.heap.size
  sz : ∀ x ∈ st, x.t.size ≤ 4294967296
def RefAt (w : World) (g : Nat) (st : List Bd) (D : Nat → Prop) : Prop := ∃ a c, RefIn w g st D a c
section
variable {w w' w0 : World} {g : Nat} {st : List Bd} {D S : Nat → Prop} {a : Option Addr} {c : Nat}
theorem RefIn.chg (h : RefIn w g st D a c) (hc : Chg S w w') (hS : ∀ b, D b → ¬ S b) : RefIn w' g st D a c where
  blk := chg_blk h.blk hc (hS _ h.dg)
  row := h.row.chg hc (fun b q => hS b (h.drow b q)) (fun b q => hS b q.1)
  dg := h.dg
  drow := h.drow
  dlt := fun b q => Nat.lt_of_lt_of_le (h.dlt b q) hc.size
  sz := h.sz
theorem RefAt.chg (h : RefAt w g st D) (hc : Chg S w w') (hS : ∀ b, D b → ¬ S b) : RefAt w' g st D := by
  obtain ⟨a, c, h⟩ := h
  exact ⟨a, c, h.chg hc hS⟩
theorem RefAt.below (h : RefAt w g st D) (hb : Below w.heap.size w w') : RefAt w' g st D := h.chg (S := fun _ => False) (.ofBelow hb) (fun _ _ => id)
theorem RefAt.dlt (h : RefAt w g st D) : ∀ b, D b → b < w.heap.size := by obtain ⟨a, c, h⟩ := h; exact h.dlt
theorem RefAt.mono {D' : Nat → Prop} (h : RefAt w g st D) (h1 : ∀ b, D b → D' b) (h2 : ∀ b, D' b → b < w.heap.size) : RefAt w g st D' := by
  obtain ⟨a, c, h⟩ := h
  exact ⟨a, c, ⟨h.blk, h.row.mono (fun b q _ => ⟨h1 b q.1, q.2⟩) (fun b q => q.2.2), h1 _ h.dg, fun b q => h1 b (h.drow b q), h2, h.sz⟩⟩
theorem RefIn.rowg (h : RefIn w g st D a c) : (Value.slice a st.length c).ownBlock ≠ some g := h.row.neBlk h.blk (by decide)
theorem RefIn.cap (h : RefIn w g st D a c) : st.length ≤ c ∧ c ≤ maxLen := ⟨h.row.inRow.2.1, h.row.inRow.2.2⟩
/-- One binding more. -/
theorem RefIn.push {x : Bd} {ra : Option Addr} {rc : Nat} {Z : Nat → Prop} (h : RefIn w g st D a c) (hr : RowD eltB Z w' 57 ra rc (st.length + 1) (st ++ [x])) (hZ : ∀ b, Z b → ((D b ∧ b ≠ g ∧ (Value.slice a st.length c).ownBlock ≠ some b) ∨ w.heap.size ≤ b))
    (ho : ∀ b, (Value.slice ra (st.length + 1) rc).ownBlock = some b → (Value.slice a st.length c).ownBlock = some b ∨ w.heap.size ≤ b) (hB : Blk w' g 37 #[.slice ra (st.length + 1) rc]) (hz : x.t.size ≤ 4294967296) (hw : w.heap.size ≤ w'.heap.size) : RefIn w' g (st ++ [x]) (fun b => D b ∨ (w.heap.size ≤ b ∧ b < w'.heap.size)) ra rc := by
  have e : (st ++ [x]).length = st.length + 1 := by simp
  have hgl := h.blk.lt
  refine ⟨by rw [e]; exact hB, ?_, .inl h.dg, ?_, ?_, ?_⟩
  · rw [e]
    refine hr.mono (fun b q hlt => ⟨?_, ?_, hr.ne b q⟩) (fun b q => q.2.2)
    · rcases hZ b q with q | q
      · exact .inl q.1
      · exact .inr ⟨q, hlt⟩
    · rcases hZ b q with q | q
      · exact q.2.1
      · omega
  · rw [e]
    intro b q
    rcases ho b q with q2 | q2
    · exact .inl (h.drow b q2)
    · exact .inr ⟨q2, hr.lt b q⟩
  · rintro b (q | q)
    · exact Nat.lt_of_lt_of_le (h.dlt b q) hw
    · exact q.2
  · intro y hy
    rcases List.mem_append.1 hy with q | q
    · exact h.sz y q
    · rw [List.mem_singleton] at q; rw [q]; exact hz
/-- The first bindings alone. -/
theorem RefIn.cut (h : RefIn w g st D a c) (k : Nat) (hk : k ≤ st.length) (hB : Blk w' g 37 #[.slice a k c]) (hc : Chg (fun b => b = g) w w') : RefIn w' g (st.take k) D a c := by
  have e : (st.take k).length = k := by simp; omega
  have hr := h.row.take k hk
  have own : ∀ {k1 k2 : Nat}, (Value.slice a k1 c).ownBlock = (Value.slice a k2 c).ownBlock := by intro k1 k2; cases a <;> rfl
  refine ⟨by rw [e]; exact hB, ?_, h.dg, ?_, fun b q => Nat.lt_of_lt_of_le (h.dlt b q) hc.size, fun x hx => h.sz x (List.mem_of_mem_take hx)⟩
  · rw [e]
    refine RowD.mono (hr.chg hc (fun b q => ?_) (fun b q => q.2.1)) (fun b q _ => ⟨q.1, q.2.1, fun q2 => q.2.2 (own.trans q2)⟩) (fun b q => q.2.2)
    intro e2
    exact h.rowg (own.trans (e2 ▸ q))
  · rw [e]; exact fun b q => h.drow b (own.trans q)
/-- A binding. -/
theorem RefIn.rows (h : RefIn w g st D a c) : InRow eltB (fun _ => True) w st a := h.row.inRow.1
end
theorem RefIn.start {w : World} {g : Nat} (hB : Blk w g 37 #[.slice none 0 0]) : RefIn w g [] (fun b => b = g) none 0 :=
  ⟨hB, RowD.nil, rfl, fun b h => (nomatch h), fun b q => by rw [q]; exact hB.lt, fun x hx => (nomatch hx)⟩
/-- As 'MatGo'. -/
def RefGo (w0 : World) (D : Nat → Prop) (g : Nat) (st : List Bd) (w : World) : Prop := (∃ D', RefAt w g st D' ∧ ∀ b, D' b → Since w0 D b) ∧ w0.heap.size ≤ w.heap.size
section
variable {w0 w w' : World} {g : Nat} {st st' : List Bd} {D S : Nat → Prop}
theorem RefGo.start (h : RefAt w g st D) : RefGo w D g st w := ⟨⟨D, h, fun _ => .inl⟩, Nat.le_refl _⟩
theorem RefGo.below (h : RefGo w0 D g st w) (hb : Below w.heap.size w w') : RefGo w0 D g st w' := by
  obtain ⟨⟨C', h, h1⟩, h2⟩ := h
  exact ⟨⟨C', h.below hb, h1⟩, Nat.le_trans h2 hb.size⟩
theorem RefGo.done {w w1 w' : World} {g : Nat} {st : List Bd} {C : Nat → Prop} (h : RefGo w1 C g st w') (hb : w.heap.size ≤ w1.heap.size) : ∃ C', RefAt w' g st C' ∧ ∀ b, C' b → C b ∨ w.heap.size ≤ b := by
  obtain ⟨⟨C', h, h1⟩, _⟩ := h
  exact ⟨C', h, fun b q => (h1 b q).imp id (fun q => Nat.le_trans hb q)⟩
theorem RefGo.in_ (h : RefGo w0 D g st w) : ∃ D' a c, RefIn w g st D' a c ∧ (∀ b, D' b → Since w0 D b) := by
  obtain ⟨⟨D', ⟨a, c, h⟩, h1⟩, _⟩ := h
  exact ⟨D', a, c, h, h1⟩
end

end Go.Proofs.Ytcmfjnadjddboaa
