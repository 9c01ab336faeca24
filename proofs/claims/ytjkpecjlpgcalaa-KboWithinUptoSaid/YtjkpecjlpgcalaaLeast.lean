/- The least order of so many symbols: two rows that are made by append. -/
import Derived.Test.YtjkpecjlpgcalaaLawKit
import Derived.Deep.AppendLies
namespace Go.Proofs.Ytjkpecjlpgcalaa
open Go.RowKit Go.Sort Go

def upTo (k : Nat) : List Value := (List.range k).map fun (i : Nat) => .int .i64 (Int.ofNat i)
def ones (k : Nat) : List Value := List.replicate k (.int .i64 1)

theorem Blk.grown {w w' : World} {g : Nat} {t : TypeId} {cs : Array Value} {row : Option Nat} (h : Blk w g t cs) (hg : w.grownBy w' row) (hne : some g ≠ row) : Blk w' g t cs := (hg.block g h.lt hne).trans h

theorem gsetc (w : World) (a : Addr) (u : Value) : w.grownBy (w.setCell a u) (some a.block) :=
  ⟨rfl, rfl, rfl, by simp [World.setCell], fun k _ hk => Below.heap_setCell w a u k (fun e => hk (by rw [e]))⟩

theorem cell_one_at {w : World} {x : Value} {t : TypeId} {b : Nat} (h : w.heap.size = b) : ∀ j u, [x][j]? = some u → (w.alloc (.cells #[x] t)).cell? ((⟨b, 0, none⟩ : Addr).add j) = some u := by
  subst h; exact cell_one_new _ _ _

theorem upTo_succ (k : Nat) : upTo (k + 1) = upTo k ++ [.int .i64 k] := by simp [upTo, List.range_succ]
theorem ones_succ (k : Nat) : ones (k + 1) = ones k ++ [.int .i64 1] := by simp [ones, List.replicate_succ']

theorem ownsRow_slice {w : World} {base : Nat} {e : TypeId} {size : Nat} {v : Value} {n : Nat} {xs : List Value} (h : w.ownsRow base e size v n xs) : ∃ a m c, v = .slice a m c := by
  rcases h.2 with ⟨rfl, _⟩ | ⟨g, c, _, rfl, _⟩ <;> exact ⟨_, _, _, rfl⟩

structure LeastAt (w : World) (k : Nat) (wr : World) (p q : Value) : Prop where
  below : Below w.heap.size w wr
  ps : wr.ownsRow (w.heap.size + 2) 3 1 p k (upTo k)
  qs : wr.ownsRow (w.heap.size + 2) 3 1 q k (ones k)
  apart : ∀ g, p.ownBlock = some g → q.ownBlock ≠ some g
  res : ∃ x0 x1 x2 x3 : Value, Blk wr w.heap.size 24 #[x0, x1, x2, x3]
  box : Blk wr (w.heap.size + 1) 24 #[.bool false, p, q, .int .i64 1]

theorem least_any (w : World) (N : Nat) (hN : N ≤ 1000000) :
    Calls Try.prog 23 #[.int .i64 N] w fun e w' => ∃ p q, e = .returned (.agg #[.bool false, p, q, .int .i64 1]) ∧ LeastAt w N w' p q := by
  have hint : (Try.prog.info? 3).map (fun i => (i.zero, i.size, i.bytes)) = some (some (.int .i64 0), 1, 8) := by kernel_rfl
  obtain ⟨i0, hi, hz0, hz1, hz2⟩ := info_parts hint
  go_enter Try.func23, Try.ntmps23
  go_wp2_with fail
  go_loopw [4] (fun i wr => ∃ (k : Nat) (p q : Value), k ≤ N ∧ i = .int .i64 k ∧ LeastAt w k wr p q) (fun i _ => N - (intOf i).toNat)
  case atStart =>
    refine ⟨0, _, _, Nat.zero_le _, rfl, ⟨balloc2 _ _ _, ⟨rfl, .inl ⟨rfl, rfl⟩⟩, ⟨rfl, .inl ⟨rfl, rfl⟩⟩, fun g h => by simp [Value.ownBlock] at h, ⟨_, _, _, _, (Blk.new' rfl).alloc _⟩, Blk.new' (by simp)⟩⟩
  case round =>
    obtain ⟨k, p, q, hk, rfl, L⟩ := hrel
    have k0 := L.box.cell 0
    have k1 := L.box.cell 1
    have k2 := L.box.cell 2
    have k3 := L.box.cell 3
    have z0 := L.box.frozen 0
    have z1 := L.box.frozen 1
    have z2 := L.box.frozen 2
    have z3 := L.box.frozen 3
    simp only [List.getElem?_toArray, List.getElem?_cons_zero, List.getElem?_cons_succ] at k0 k1 k2 k3
    have HL := Lib.hid L
    clear L
    by_cases hlt : k < N
    · have hp := Lib.hid HL.out.ps
      have hq := Lib.hid HL.out.qs
      have hB := Lib.hid HL.out.box
      have hbl := Lib.hid HL.out.below
      have hap := Lib.hid HL.out.apart
      have hpl := Lib.hid (HL.out.ps.lt)
      have hql := Lib.hid (HL.out.qs.lt)
      obtain ⟨x0, x1, x2, x3, hr⟩ := HL.out.res
      obtain ⟨cs, hcs⟩ : ∃ cs, cs = #[x0, x1, x2, x3] := ⟨_, rfl⟩
      rw [← hcs] at hr
      have hsz : w.heap.size + 2 ≤ wr.heap.size := by have := HL.out.box.lt; omega
      have Hhr := Lib.hid hr
      have Hhcs := Lib.hid hcs
      clear hr hcs
      clear HL
      go_wp2_with (first
        | (at_builtin
           refine wpList_append_lies _ rfl _ _ 22 rfl (w.heap.size + 2) 3 i0 (.int .i64 0) 1 8 Try.underlying22 hi hz0 hz1 hz2 rfl (by decide) p k (upTo k) rfl (hp.out.alloc _) ⟨wr.heap.size, 0, none⟩ 1 1 [.int .i64 k] rfl rfl (cell_one_new _ _ _) (ints_oneCell .i64 [(k : Int)]) (by omega) (by unfold maxLen; omega) (by omega) (by simp; omega) _ rfl ?_
           intro g1 c1 w1 hown hgrow hat hlt1
           have hB1 : Blk w1 (w.heap.size + 1) 24 #[.bool false, p, q, .int .i64 1] := (hB.out.alloc _).grown hgrow (fun e => by have := hpl.out _ e.symm; omega)
           have hr1 : Blk w1 w.heap.size 24 cs := (Hhr.out.alloc _).grown hgrow (fun e => by have := hpl.out _ e.symm; omega)
           have hq1 := (hq.out.alloc (.cells #[.int .i64 k] 3)).kept hgrow (by
             cases hqb : q.ownBlock with
             | none => exact .inl rfl
             | some b => exact .inr (fun e => hap.out b e.symm hqb))
           have hbl1 : Below w.heap.size w w1 := (hbl.out.alloc (by omega) _).grown hgrow (by simp; omega) (fun b hb => by have := hpl.out b hb; omega)
           have hg1 : w.heap.size + 2 ≤ g1 := by
             rcases hat with h | h
             · exact (hpl.out _ h).1
             · rw [h]; simp; omega
           have hgq : q.ownBlock ≠ some g1 := by
             rcases hat with h | h
             · exact hap.out _ h
             · intro e; have := hql.out _ e; rw [h] at this; simp at this; omega
           have l0 := hB1.cell 0
           have l1 := hB1.cell 1
           have l2 := hB1.cell 2
           have l3 := hB1.cell 3
           have y0 := hB1.frozen 0
           have y1 := hB1.frozen 1
           have y2 := hB1.frozen 2
           have y3 := hB1.frozen 3
           simp only [List.getElem?_toArray, List.getElem?_cons_zero, List.getElem?_cons_succ] at l0 l1 l2 l3
           have hsz1 : w.heap.size + 2 ≤ w1.heap.size := by have := hB1.lt; omega
           have Hhown := Lib.hid hown
           have HhB1 := Lib.hid hB1
           have Hhr1 := Lib.hid hr1
           have Hhq1 := Lib.hid hq1
           have Hhbl1 := Lib.hid hbl1
           have Hhgq := Lib.hid hgq
           have Hhlt1 := Lib.hid hlt1
           clear hown hB1 hr1 hq1 hbl1 hgq hlt1
           clear hgrow hat)
        | (at_builtin
           refine wpList_append_lies _ rfl _ _ 22 rfl (w.heap.size + 2) 3 i0 (.int .i64 0) 1 8 Try.underlying22 hi hz0 hz1 hz2 rfl (by decide) q k (ones k) rfl ((Hhq1.out.kept (gsetc _ ⟨w.heap.size + 1, 1, none⟩ _) ?qf).alloc _) ⟨w1.heap.size, 0, none⟩ 1 1 [.int .i64 1] rfl rfl ?c1 (ints_oneCell .i64 [1]) (by omega) (by unfold maxLen; omega) (by omega) (by simp; omega) _ rfl ?_
           rotate_left 2
           intro g2 c2 w2 hown2 hgrow2 hat2 hlt2
           have hB2 := ((HhB1.out.set_ 1 (.slice (some ⟨g1, 0, none⟩) (k + 1) c1)).alloc (.cells #[.int .i64 1] 3)).grown hgrow2 (fun e => by have := hql.out _ e.symm; omega)
           have hr2 := ((Hhr1.out.far (p := ⟨w.heap.size + 1, 1, none⟩) (by simp) (.slice (some ⟨g1, 0, none⟩) (k + 1) c1)).alloc (.cells #[.int .i64 1] 3)).grown hgrow2 (fun e => by have := hql.out _ e.symm; omega)
           have hp2 := ((Hhown.out.kept (gsetc _ ⟨w.heap.size + 1, 1, none⟩ (.slice (some ⟨g1, 0, none⟩) (k + 1) c1)) (.inr (by simp [Value.ownBlock]; omega))).alloc (.cells #[.int .i64 1] 3)).kept hgrow2 (.inr (fun e => Hhgq.out e.symm))
           have hbl2 : Below w.heap.size w w2 := ((Hhbl1.out.setCell (p := ⟨w.heap.size + 1, 1, none⟩) (by simp) _).alloc (by simp; omega) _).grown hgrow2 (by simp; omega) (fun b hb => by have := hql.out b hb; omega)
           have hg2 : w.heap.size + 2 ≤ g2 := by
             rcases hat2 with h | h
             · exact (hql.out _ h).1
             · rw [h]; simp; omega
           have hne : g1 ≠ g2 := by
             rintro rfl
             rcases hat2 with h | h
             · exact Hhgq.out h
             · have := Hhlt1.out; rw [h] at this; simp at this; omega
           have l0 := hB2.cell 0
           have l1 := hB2.cell 1
           have l2 := hB2.cell 2
           have l3 := hB2.cell 3
           have y0 := hB2.frozen 0
           have y1 := hB2.frozen 1
           have y2 := hB2.frozen 2
           have y3 := hB2.frozen 3
           simp only [List.setIfInBounds_toArray, List.set_cons_succ, List.set_cons_zero, List.getElem?_toArray, List.getElem?_cons_zero, List.getElem?_cons_succ] at l0 l1 l2 l3
           have hsz2 : w.heap.size + 2 ≤ w2.heap.size := by have := hB2.lt; omega
           have Hhown2 := Lib.hid hown2
           have HhB2 := Lib.hid hB2
           have Hhr2 := Lib.hid hr2
           have Hhp2 := Lib.hid hp2
           have Hhbl2 := Lib.hid hbl2
           have Hhne := Lib.hid hne
           have Hhg2 := Lib.hid hg2
           clear hown2 hB2 hr2 hp2 hbl2 hne hg2
           clear hgrow2 hat2))
      case c1 => exact cell_one_at (by simp)
      case qf => 
        cases hqb : q.ownBlock with
        | none => exact .inl rfl
        | some b => exact .inr (fun e => by have := hql.out _ hqb; simp at e; omega)
      go_roundw
      case measure => simp [intOf]; omega
      case rel =>
        refine ⟨k + 1, .slice (some ⟨g1, 0, none⟩) (k + 1) c1, .slice (some ⟨g2, 0, none⟩) (k + 1) c2, by omega, by go_num, ⟨Hhbl2.out.setCell (p := ⟨w.heap.size + 1, 2, none⟩) (by simp) _, ?_, ?_, ?_, ⟨x0, x1, x2, x3, by rw [← Hhcs.out]; exact Hhr2.out.far (p := ⟨w.heap.size + 1, 2, none⟩) (by simp) _⟩, by simpa using HhB2.out.set_ 2 (.slice (some ⟨g2, 0, none⟩) (k + 1) c2)⟩⟩
        · rw [upTo_succ]
          exact Hhp2.out.kept (gsetc _ ⟨w.heap.size + 1, 2, none⟩ _) (.inr (by simp [Value.ownBlock]; omega))
        · rw [ones_succ]
          exact Hhown2.out.kept (gsetc _ ⟨w.heap.size + 1, 2, none⟩ _) (.inr (by have := Hhg2.out; simp [Value.ownBlock]; omega))
        · intro g h1 h2
          simp [Value.ownBlock] at h1 h2
          exact Hhne.out (h1.trans h2.symm)
    · obtain ⟨x0, x1, x2, x3, hr⟩ := HL.out.res
      have he : k = N := by omega
      subst he
      obtain ⟨a1, n1, c1, rfl⟩ := ownsRow_slice HL.out.ps
      obtain ⟨a2, n2, c2, rfl⟩ := ownsRow_slice HL.out.qs
      have r0 := hr.cell 0
      have r1 := hr.cell 1
      have r2 := hr.cell 2
      have r3 := hr.cell 3
      have y0 := hr.frozen 0
      have y1 := hr.frozen 1
      have y2 := hr.frozen 2
      have y3 := hr.frozen 3
      simp only [List.getElem?_toArray, List.getElem?_cons_zero, List.getElem?_cons_succ] at r0 r1 r2 r3
      have Hhr := Lib.hid hr
      clear hr
      go_wp2_with fail
      refine bodyPost_ret (v := .agg #[.bool false, .slice a1 n1 c1, .slice a2 n2 c2, .int .i64 1]) (by simp [results, Try.results23, go_sem, r0, r1, r2, r3]) rfl ?_
      refine ⟨_, _, rfl, ?_⟩
      have hs : ∀ (W : World) (i : Nat) (u : Value), W.grownBy (W.setCell ⟨w.heap.size, i, none⟩ u) (some w.heap.size) := fun W i u => gsetc W ⟨w.heap.size, i, none⟩ u
      have G := (((hs wr 0 (.bool false)).trans (hs _ 1 (.slice a1 n1 c1))).trans (hs _ 2 (.slice a2 n2 c2))).trans (hs _ 3 (.int .i64 1))
      refine ⟨HL.out.below.grown G (by have := HL.out.box.lt; omega) (fun b hb => by simp at hb; omega), HL.out.ps.kept G ?_, HL.out.qs.kept G ?_, HL.out.apart, ⟨_, _, _, _, by simpa using (((Hhr.out.set_ 0 (.bool false)).set_ 1 (.slice a1 n1 c1)).set_ 2 (.slice a2 n2 c2)).set_ 3 (.int .i64 1)⟩, HL.out.box.grown G (by simp)⟩
      · exact .inr (fun e => by have := HL.out.ps.lt _ e; omega)
      · exact .inr (fun e => by have := HL.out.qs.lt _ e; omega)

end Go.Proofs.Ytjkpecjlpgcalaa
