/- The comparison in which terms are the same only if they are. -/
import Derived.Test.YtmdpiafeiopimaaOMd
import Derived.Test.YtmdpiafeiopimaaOMa
import Derived.Maps.OwnOps
import Derived.Maps.OwnSet
import Derived.Maps.RangeWalk
import Derived.Laws.EntriesVeiled
import Derived.Test.YtmdpiafeiopimaaOMc
import Derived.Deep.LoopGhost
import Derived.Test.YtmdpiafeiopimaaOMb

/- The walks through the program's order of Knuth and Bendix: what a term weighs. -/
namespace Go.Proofs.Ytmdpiafeiopimaa
open Go.RowKit Go.Sort Go
theorem Box.grown {w w' : World} {b B : Nat} {vs : List Value} (h : Box w b vs) (hg : w.grownBy w' (some B)) (hne : b ≠ B) : Box w' b vs := fun i v hi => hg.cell (h i v hi) (by simpa using hne)
theorem gtrans {a b c : World} {B : Nat} (h : a.grownBy b (some B)) (k : b.grownBy c (some B)) : a.grownBy c (some B) :=
  ⟨k.os.trans h.os, k.tape.trans h.tape, k.output.trans h.output, Nat.le_trans h.size k.size, fun i hi hne => (k.block i (Nat.lt_of_lt_of_le hi h.size) hne).trans (h.block i hi hne)⟩
theorem galloc (w : World) (o : Obj) (B : Nat) : w.grownBy (w.alloc o) (some B) := World.grownBy_alloc _ _ _
theorem gset (w : World) (B i : Nat) (v : Value) : w.grownBy (w.setCell ⟨B, i, none⟩ v) (some B) :=
  ⟨rfl, rfl, rfl, by simp [World.setCell], fun k _ hne => Below.heap_setCell w ⟨B, i, none⟩ v k (by simpa using hne)⟩
theorem gbelow {w0 a b : World} {B : Nat} (h : Below w0.heap.size w0 a) (g : a.grownBy b (some B)) (hB : w0.heap.size ≤ B) : Below w0.heap.size w0 b :=
  h.grown g h.size (fun k hk => by cases hk; exact hB)
set_option maxRecDepth 100000 in
set_option maxHeartbeats 4000000 in
theorem weigh1_any (o : Od) (w0 : World) (t : T) : ∀ (v : Value), IsT w0 t v → o.knows t = true → ∀ (W : World) (x : Int) (Bo Bn Bw : Nat) (a3 a4 : Option Addr) (c3 c4 : Nat), Below w0.heap.size w0 W → w0.heap.size ≤ Bn → Bo ≠ Bn → Bw ≠ Bn →
    o.weights.length ≤ c4 → c4 ≤ maxLen → IsInts w0 o.weights a4 → I64 o.var → Box W Bo [.bool o.lpo, .slice a3 o.prec.length c3, .slice a4 o.weights.length c4, .int .i64 o.var] → Box W Bw [.func (.func 72) #[] #[.pointer (some ⟨Bo, 0, none⟩), .pointer (some ⟨Bn, 0, none⟩), .pointer (some ⟨Bw, 0, none⟩)]] →
    W.heap[Bn]? = some (.cells #[.int .i64 x] 3 (0, 0)) → 0 ≤ x → x ≤ 2147483647 →
    Calls Try.prog 72 #[v, .pointer (some ⟨Bo, 0, none⟩), .pointer (some ⟨Bn, 0, none⟩), .pointer (some ⟨Bw, 0, none⟩)] W fun e W' => e = .returned (.tuple #[]) ∧
      W'.heap[Bn]? = some (.cells #[.int .i64 (min (x + o.raw t) Od.most)] 3 (0, 0)) ∧ W.grownBy W' (some Bn) := by
  induction t using T.ind with
  | h f l ih =>
  intro v hv hk W x Bo Bn Bw a3 a4 c3 c4 hb hBn hon hwn n3 n4 p2 p3 hBo hBw hn hx0 hx1
  have hvv := p3
  obtain ⟨⟨hf1, hf2⟩, a, c, rfl, hc, hm, hl⟩ := hv
  unfold maxLen at hm n4
  have K := Od.knows_args hk
  obtain ⟨u0, u1, u2, u3⟩ := hBo.four
  have u0 := calloc u0
  have u1 := calloc u1
  have u2 := calloc u2
  have u3 := calloc u3
  have wf := calloc hBw.one
  have nf := calloc (cell_of_one hn)
  have cf : ∀ o, (W.alloc o).frozen? ⟨Bn, 0, none⟩ = false := fun o => free_of_one ((Below.heap_alloc _ _ _ (lt_of_block hn)).trans hn)
  have hn := Lib.hid hn
  have hb := Lib.hid hb
  have hBw0 := Lib.hid hBw
  have hBo0 := Lib.hid hBo
  have IHH := ih
  clear ih
  have ih := Lib.hid IHH
  clear IHH
  by_cases h0 : f < 0
  · obtain ⟨_, rfl⟩ := K.resolve_right (by omega)
    have hall : Hid (∀ a ∈ ([] : List T), o.knows a = true) := by unfold Hid; simp
    have ER := Lib.hid (show o.raw (.mk f []) = Od.clamp o.var + o.rawL [] by rw [Od.raw, Od.wsym, if_pos h0])
    generalize hll : ([] : List T) = l at *
    clear hll K
    obtain ⟨v1, v2⟩ := hvv
    rcases Int.lt_or_le o.var 0 with s1 | s1
    · go_enter Try.func72, Try.ntmps72
      go_wp2_with fail
      go_loopw [28] (fun i wr => ∃ (k : Nat) (y : Int), k ≤ l.length ∧ i = .int .i64 k ∧ 0 ≤ y ∧ y ≤ 2147483647 ∧ Hid (y = min (x + Od.clamp o.var + o.rawL (l.take k)) Od.most) ∧ W.grownBy wr (some Bn) ∧ wr.heap[Bn]? = some (.cells #[.int .i64 y] 3 (0, 0))) (fun i _ => l.length - (intOf i).toNat)
      case atStart =>
        refine ⟨0, _, Nat.zero_le _, rfl, ?_, ?_, ?_, gtrans (galloc _ _ _) (gset _ _ _ _), one_setCell ((Below.heap_alloc _ _ _ (lt_of_block hn.out)).trans hn.out)⟩
        · omega
        · omega
        · unfold Hid; simp only [List.take_zero, Od.rawL]; unfold Od.clamp Od.most; omega
      case round =>
        clear u0 u1 u2 u3 wf nf cf
        obtain ⟨k, y, hk, rfl, hy0, hy1, hy, hg, hn2⟩ := hrel
        have hb2 := gbelow hb.out hg hBn
        by_cases hlt : k < l.length
        · obtain ⟨b, oo, a', c', rfl, g1, g2, h3⟩ := hl.at2 hb2 k hlt
          have hmem := List.getElem_mem hlt
          have B2 := hBw0.out.grown hg hwn
          have B1 := hBo0.out.grown hg hon
          have wf := calloc B2.one
          have IH := fun W0 hW => ih.out l[k] hmem _ h3 (hall.out _ hmem) W0 y Bo Bn Bw a3 _ c3 c4 hW hBn hon hwn n3 n4 p2 p3
          have q5 := o.rawL_take_succ l k hlt
          have R := o.raw_nonneg l[k]
          have RL := o.rawL_nonneg (l.take k)
          have CL : 0 ≤ Od.clamp o.var := by unfold Od.clamp; omega
          have Hhb2 := Lib.hid hb2
          have HB1 := Lib.hid B1
          have HB2 := Lib.hid B2
          have Hhn2 := Lib.hid hn2
          have Hhg := Lib.hid hg
          have Hq5 := Lib.hid q5
          have Hhy := Lib.hid hy
          have Hh3 := Lib.hid h3
          have HR := Lib.hid R
          have HRL := Lib.hid RL
          have HCL := Lib.hid CL
          clear hb2 B1 B2 hn2 hg q5 hy h3 R RL CL
          clear hl
          go_wp2_with (go_at_call 72; refine (IH _ (bstep Hhb2.out (balloc _ _)) (HB1.out.alloc _) (HB2.out.alloc _) ((Below.heap_alloc _ _ _ (lt_of_block Hhn2.out)).trans Hhn2.out) (by omega) (by omega)).mono ?_; rintro e w' ⟨rfl, hn3, hg3⟩)
          have Hn3 := Lib.hid hn3
          clear hn3
          go_wp2_with fail
          go_roundw
          case rel =>
            refine ⟨k + 1, _, by omega, by go_num, ?_, ?_, ?_, gtrans Hhg.out (gtrans (galloc _ _ _) hg3), Hn3.out⟩
            · have := HR.out; unfold Od.most; omega
            · unfold Od.most; omega
            · have e1 := Hq5.out
              have e2 := Hhy.out
              have e3 := HR.out
              have e4 := HRL.out
              have e5 := HCL.out
              unfold Hid
              rw [e2, e1]
              generalize Od.clamp o.var = cw at *
              unfold Od.most
              omega
          case measure => simp [intOf]; omega
        · go_wp2_with fail
          go_end0
          obtain rfl : k = l.length := by omega
          refine ⟨rfl, ?_, hg⟩
          rw [hn2, hy.out, List.take_length, ER.out, Int.add_assoc]
    · rcases Int.lt_or_le 2147483647 o.var with s2 | s2
      · rcases Int.lt_or_le 0 x with s4 | s4
        · go_enter Try.func72, Try.ntmps72
          go_wp2_with fail
          go_loopw [28] (fun i wr => ∃ (k : Nat) (y : Int), k ≤ l.length ∧ i = .int .i64 k ∧ 0 ≤ y ∧ y ≤ 2147483647 ∧ Hid (y = min (x + Od.clamp o.var + o.rawL (l.take k)) Od.most) ∧ W.grownBy wr (some Bn) ∧ wr.heap[Bn]? = some (.cells #[.int .i64 y] 3 (0, 0))) (fun i _ => l.length - (intOf i).toNat)
          case atStart =>
            refine ⟨0, _, Nat.zero_le _, rfl, ?_, ?_, ?_, gtrans (galloc _ _ _) (gset _ _ _ _), one_setCell ((Below.heap_alloc _ _ _ (lt_of_block hn.out)).trans hn.out)⟩
            · omega
            · omega
            · unfold Hid; simp only [List.take_zero, Od.rawL]; unfold Od.clamp Od.most; omega
          case round =>
            clear u0 u1 u2 u3 wf nf cf
            obtain ⟨k, y, hk, rfl, hy0, hy1, hy, hg, hn2⟩ := hrel
            have hb2 := gbelow hb.out hg hBn
            by_cases hlt : k < l.length
            · obtain ⟨b, oo, a', c', rfl, g1, g2, h3⟩ := hl.at2 hb2 k hlt
              have hmem := List.getElem_mem hlt
              have B2 := hBw0.out.grown hg hwn
              have B1 := hBo0.out.grown hg hon
              have wf := calloc B2.one
              have IH := fun W0 hW => ih.out l[k] hmem _ h3 (hall.out _ hmem) W0 y Bo Bn Bw a3 _ c3 c4 hW hBn hon hwn n3 n4 p2 p3
              have q5 := o.rawL_take_succ l k hlt
              have R := o.raw_nonneg l[k]
              have RL := o.rawL_nonneg (l.take k)
              have CL : 0 ≤ Od.clamp o.var := by unfold Od.clamp; omega
              have Hhb2 := Lib.hid hb2
              have HB1 := Lib.hid B1
              have HB2 := Lib.hid B2
              have Hhn2 := Lib.hid hn2
              have Hhg := Lib.hid hg
              have Hq5 := Lib.hid q5
              have Hhy := Lib.hid hy
              have Hh3 := Lib.hid h3
              have HR := Lib.hid R
              have HRL := Lib.hid RL
              have HCL := Lib.hid CL
              clear hb2 B1 B2 hn2 hg q5 hy h3 R RL CL
              clear hl
              go_wp2_with (go_at_call 72; refine (IH _ (bstep Hhb2.out (balloc _ _)) (HB1.out.alloc _) (HB2.out.alloc _) ((Below.heap_alloc _ _ _ (lt_of_block Hhn2.out)).trans Hhn2.out) (by omega) (by omega)).mono ?_; rintro e w' ⟨rfl, hn3, hg3⟩)
              have Hn3 := Lib.hid hn3
              clear hn3
              go_wp2_with fail
              go_roundw
              case rel =>
                refine ⟨k + 1, _, by omega, by go_num, ?_, ?_, ?_, gtrans Hhg.out (gtrans (galloc _ _ _) hg3), Hn3.out⟩
                · have := HR.out; unfold Od.most; omega
                · unfold Od.most; omega
                · have e1 := Hq5.out
                  have e2 := Hhy.out
                  have e3 := HR.out
                  have e4 := HRL.out
                  have e5 := HCL.out
                  unfold Hid
                  rw [e2, e1]
                  generalize Od.clamp o.var = cw at *
                  unfold Od.most
                  omega
              case measure => simp [intOf]; omega
            · go_wp2_with fail
              go_end0
              obtain rfl : k = l.length := by omega
              refine ⟨rfl, ?_, hg⟩
              rw [hn2, hy.out, List.take_length, ER.out, Int.add_assoc]
        · go_enter Try.func72, Try.ntmps72
          go_wp2_with fail
          go_loopw [28] (fun i wr => ∃ (k : Nat) (y : Int), k ≤ l.length ∧ i = .int .i64 k ∧ 0 ≤ y ∧ y ≤ 2147483647 ∧ Hid (y = min (x + Od.clamp o.var + o.rawL (l.take k)) Od.most) ∧ W.grownBy wr (some Bn) ∧ wr.heap[Bn]? = some (.cells #[.int .i64 y] 3 (0, 0))) (fun i _ => l.length - (intOf i).toNat)
          case atStart =>
            refine ⟨0, _, Nat.zero_le _, rfl, ?_, ?_, ?_, gtrans (galloc _ _ _) (gset _ _ _ _), one_setCell ((Below.heap_alloc _ _ _ (lt_of_block hn.out)).trans hn.out)⟩
            · omega
            · omega
            · unfold Hid; simp only [List.take_zero, Od.rawL]; unfold Od.clamp Od.most; omega
          case round =>
            clear u0 u1 u2 u3 wf nf cf
            obtain ⟨k, y, hk, rfl, hy0, hy1, hy, hg, hn2⟩ := hrel
            have hb2 := gbelow hb.out hg hBn
            by_cases hlt : k < l.length
            · obtain ⟨b, oo, a', c', rfl, g1, g2, h3⟩ := hl.at2 hb2 k hlt
              have hmem := List.getElem_mem hlt
              have B2 := hBw0.out.grown hg hwn
              have B1 := hBo0.out.grown hg hon
              have wf := calloc B2.one
              have IH := fun W0 hW => ih.out l[k] hmem _ h3 (hall.out _ hmem) W0 y Bo Bn Bw a3 _ c3 c4 hW hBn hon hwn n3 n4 p2 p3
              have q5 := o.rawL_take_succ l k hlt
              have R := o.raw_nonneg l[k]
              have RL := o.rawL_nonneg (l.take k)
              have CL : 0 ≤ Od.clamp o.var := by unfold Od.clamp; omega
              have Hhb2 := Lib.hid hb2
              have HB1 := Lib.hid B1
              have HB2 := Lib.hid B2
              have Hhn2 := Lib.hid hn2
              have Hhg := Lib.hid hg
              have Hq5 := Lib.hid q5
              have Hhy := Lib.hid hy
              have Hh3 := Lib.hid h3
              have HR := Lib.hid R
              have HRL := Lib.hid RL
              have HCL := Lib.hid CL
              clear hb2 B1 B2 hn2 hg q5 hy h3 R RL CL
              clear hl
              go_wp2_with (go_at_call 72; refine (IH _ (bstep Hhb2.out (balloc _ _)) (HB1.out.alloc _) (HB2.out.alloc _) ((Below.heap_alloc _ _ _ (lt_of_block Hhn2.out)).trans Hhn2.out) (by omega) (by omega)).mono ?_; rintro e w' ⟨rfl, hn3, hg3⟩)
              have Hn3 := Lib.hid hn3
              clear hn3
              go_wp2_with fail
              go_roundw
              case rel =>
                refine ⟨k + 1, _, by omega, by go_num, ?_, ?_, ?_, gtrans Hhg.out (gtrans (galloc _ _ _) hg3), Hn3.out⟩
                · have := HR.out; unfold Od.most; omega
                · unfold Od.most; omega
                · have e1 := Hq5.out
                  have e2 := Hhy.out
                  have e3 := HR.out
                  have e4 := HRL.out
                  have e5 := HCL.out
                  unfold Hid
                  rw [e2, e1]
                  generalize Od.clamp o.var = cw at *
                  unfold Od.most
                  omega
              case measure => simp [intOf]; omega
            · go_wp2_with fail
              go_end0
              obtain rfl : k = l.length := by omega
              refine ⟨rfl, ?_, hg⟩
              rw [hn2, hy.out, List.take_length, ER.out, Int.add_assoc]
      · rcases Int.lt_or_le 2147483647 (x + o.var) with s3 | s3
        · go_enter Try.func72, Try.ntmps72
          go_wp2_with fail
          go_loopw [28] (fun i wr => ∃ (k : Nat) (y : Int), k ≤ l.length ∧ i = .int .i64 k ∧ 0 ≤ y ∧ y ≤ 2147483647 ∧ Hid (y = min (x + Od.clamp o.var + o.rawL (l.take k)) Od.most) ∧ W.grownBy wr (some Bn) ∧ wr.heap[Bn]? = some (.cells #[.int .i64 y] 3 (0, 0))) (fun i _ => l.length - (intOf i).toNat)
          case atStart =>
            refine ⟨0, _, Nat.zero_le _, rfl, ?_, ?_, ?_, gtrans (galloc _ _ _) (gset _ _ _ _), one_setCell ((Below.heap_alloc _ _ _ (lt_of_block hn.out)).trans hn.out)⟩
            · omega
            · omega
            · unfold Hid; simp only [List.take_zero, Od.rawL]; unfold Od.clamp Od.most; omega
          case round =>
            clear u0 u1 u2 u3 wf nf cf
            obtain ⟨k, y, hk, rfl, hy0, hy1, hy, hg, hn2⟩ := hrel
            have hb2 := gbelow hb.out hg hBn
            by_cases hlt : k < l.length
            · obtain ⟨b, oo, a', c', rfl, g1, g2, h3⟩ := hl.at2 hb2 k hlt
              have hmem := List.getElem_mem hlt
              have B2 := hBw0.out.grown hg hwn
              have B1 := hBo0.out.grown hg hon
              have wf := calloc B2.one
              have IH := fun W0 hW => ih.out l[k] hmem _ h3 (hall.out _ hmem) W0 y Bo Bn Bw a3 _ c3 c4 hW hBn hon hwn n3 n4 p2 p3
              have q5 := o.rawL_take_succ l k hlt
              have R := o.raw_nonneg l[k]
              have RL := o.rawL_nonneg (l.take k)
              have CL : 0 ≤ Od.clamp o.var := by unfold Od.clamp; omega
              have Hhb2 := Lib.hid hb2
              have HB1 := Lib.hid B1
              have HB2 := Lib.hid B2
              have Hhn2 := Lib.hid hn2
              have Hhg := Lib.hid hg
              have Hq5 := Lib.hid q5
              have Hhy := Lib.hid hy
              have Hh3 := Lib.hid h3
              have HR := Lib.hid R
              have HRL := Lib.hid RL
              have HCL := Lib.hid CL
              clear hb2 B1 B2 hn2 hg q5 hy h3 R RL CL
              clear hl
              go_wp2_with (go_at_call 72; refine (IH _ (bstep Hhb2.out (balloc _ _)) (HB1.out.alloc _) (HB2.out.alloc _) ((Below.heap_alloc _ _ _ (lt_of_block Hhn2.out)).trans Hhn2.out) (by omega) (by omega)).mono ?_; rintro e w' ⟨rfl, hn3, hg3⟩)
              have Hn3 := Lib.hid hn3
              clear hn3
              go_wp2_with fail
              go_roundw
              case rel =>
                refine ⟨k + 1, _, by omega, by go_num, ?_, ?_, ?_, gtrans Hhg.out (gtrans (galloc _ _ _) hg3), Hn3.out⟩
                · have := HR.out; unfold Od.most; omega
                · unfold Od.most; omega
                · have e1 := Hq5.out
                  have e2 := Hhy.out
                  have e3 := HR.out
                  have e4 := HRL.out
                  have e5 := HCL.out
                  unfold Hid
                  rw [e2, e1]
                  generalize Od.clamp o.var = cw at *
                  unfold Od.most
                  omega
              case measure => simp [intOf]; omega
            · go_wp2_with fail
              go_end0
              obtain rfl : k = l.length := by omega
              refine ⟨rfl, ?_, hg⟩
              rw [hn2, hy.out, List.take_length, ER.out, Int.add_assoc]
        · go_enter Try.func72, Try.ntmps72
          go_wp2_with fail
          go_loopw [28] (fun i wr => ∃ (k : Nat) (y : Int), k ≤ l.length ∧ i = .int .i64 k ∧ 0 ≤ y ∧ y ≤ 2147483647 ∧ Hid (y = min (x + Od.clamp o.var + o.rawL (l.take k)) Od.most) ∧ W.grownBy wr (some Bn) ∧ wr.heap[Bn]? = some (.cells #[.int .i64 y] 3 (0, 0))) (fun i _ => l.length - (intOf i).toNat)
          case atStart =>
            refine ⟨0, _, Nat.zero_le _, rfl, ?_, ?_, ?_, gtrans (galloc _ _ _) (gset _ _ _ _), one_setCell ((Below.heap_alloc _ _ _ (lt_of_block hn.out)).trans hn.out)⟩
            · omega
            · omega
            · unfold Hid; simp only [List.take_zero, Od.rawL]; unfold Od.clamp Od.most; omega
          case round =>
            clear u0 u1 u2 u3 wf nf cf
            obtain ⟨k, y, hk, rfl, hy0, hy1, hy, hg, hn2⟩ := hrel
            have hb2 := gbelow hb.out hg hBn
            by_cases hlt : k < l.length
            · obtain ⟨b, oo, a', c', rfl, g1, g2, h3⟩ := hl.at2 hb2 k hlt
              have hmem := List.getElem_mem hlt
              have B2 := hBw0.out.grown hg hwn
              have B1 := hBo0.out.grown hg hon
              have wf := calloc B2.one
              have IH := fun W0 hW => ih.out l[k] hmem _ h3 (hall.out _ hmem) W0 y Bo Bn Bw a3 _ c3 c4 hW hBn hon hwn n3 n4 p2 p3
              have q5 := o.rawL_take_succ l k hlt
              have R := o.raw_nonneg l[k]
              have RL := o.rawL_nonneg (l.take k)
              have CL : 0 ≤ Od.clamp o.var := by unfold Od.clamp; omega
              have Hhb2 := Lib.hid hb2
              have HB1 := Lib.hid B1
              have HB2 := Lib.hid B2
              have Hhn2 := Lib.hid hn2
              have Hhg := Lib.hid hg
              have Hq5 := Lib.hid q5
              have Hhy := Lib.hid hy
              have Hh3 := Lib.hid h3
              have HR := Lib.hid R
              have HRL := Lib.hid RL
              have HCL := Lib.hid CL
              clear hb2 B1 B2 hn2 hg q5 hy h3 R RL CL
              clear hl
              go_wp2_with (go_at_call 72; refine (IH _ (bstep Hhb2.out (balloc _ _)) (HB1.out.alloc _) (HB2.out.alloc _) ((Below.heap_alloc _ _ _ (lt_of_block Hhn2.out)).trans Hhn2.out) (by omega) (by omega)).mono ?_; rintro e w' ⟨rfl, hn3, hg3⟩)
              have Hn3 := Lib.hid hn3
              clear hn3
              go_wp2_with fail
              go_roundw
              case rel =>
                refine ⟨k + 1, _, by omega, by go_num, ?_, ?_, ?_, gtrans Hhg.out (gtrans (galloc _ _ _) hg3), Hn3.out⟩
                · have := HR.out; unfold Od.most; omega
                · unfold Od.most; omega
                · have e1 := Hq5.out
                  have e2 := Hhy.out
                  have e3 := HR.out
                  have e4 := HRL.out
                  have e5 := HCL.out
                  unfold Hid
                  rw [e2, e1]
                  generalize Od.clamp o.var = cw at *
                  unfold Od.most
                  omega
              case measure => simp [intOf]; omega
            · go_wp2_with fail
              go_end0
              obtain rfl : k = l.length := by omega
              refine ⟨rfl, ?_, hg⟩
              rw [hn2, hy.out, List.take_length, ER.out, Int.add_assoc]
  · obtain ⟨z0, z1, z2, hall⟩ := K.resolve_left (by omega)
    obtain ⟨b5, o5, rfl, g5, hi5⟩ := p2.at_ (bstep hb.out (balloc _ (.cells #[.int .i64 f, .slice a l.length c] 30))) f.toNat (by omega)
    have ER : o.raw (.mk f l) = Od.clamp (o.weights[f.toNat]'(by omega)) + o.rawL l := by rw [Od.raw, Od.wsym, if_neg h0]; simp [List.getD, show f.toNat < o.weights.length by omega]
    obtain ⟨hi5, hi6⟩ := hi5
    generalize o.weights[f.toNat]'(by omega) = wt at *
    have ER := Lib.hid ER
    have hall := Lib.hid hall
    clear K
    rcases Int.lt_or_le wt 0 with s1 | s1
    · go_enter Try.func72, Try.ntmps72
      go_wp2_with fail
      go_loopw [28] (fun i wr => ∃ (k : Nat) (y : Int), k ≤ l.length ∧ i = .int .i64 k ∧ 0 ≤ y ∧ y ≤ 2147483647 ∧ Hid (y = min (x + Od.clamp wt + o.rawL (l.take k)) Od.most) ∧ W.grownBy wr (some Bn) ∧ wr.heap[Bn]? = some (.cells #[.int .i64 y] 3 (0, 0))) (fun i _ => l.length - (intOf i).toNat)
      case atStart =>
        refine ⟨0, _, Nat.zero_le _, rfl, ?_, ?_, ?_, gtrans (galloc _ _ _) (gset _ _ _ _), one_setCell ((Below.heap_alloc _ _ _ (lt_of_block hn.out)).trans hn.out)⟩
        · omega
        · omega
        · unfold Hid; simp only [List.take_zero, Od.rawL]; unfold Od.clamp Od.most; omega
      case round =>
        clear u0 u1 u2 u3 wf nf cf
        obtain ⟨k, y, hk, rfl, hy0, hy1, hy, hg, hn2⟩ := hrel
        have hb2 := gbelow hb.out hg hBn
        by_cases hlt : k < l.length
        · obtain ⟨b, oo, a', c', rfl, g1, g2, h3⟩ := hl.at2 hb2 k hlt
          have hmem := List.getElem_mem hlt
          have B2 := hBw0.out.grown hg hwn
          have B1 := hBo0.out.grown hg hon
          have wf := calloc B2.one
          have IH := fun W0 hW => ih.out l[k] hmem _ h3 (hall.out _ hmem) W0 y Bo Bn Bw a3 _ c3 c4 hW hBn hon hwn n3 n4 p2 p3
          have q5 := o.rawL_take_succ l k hlt
          have R := o.raw_nonneg l[k]
          have RL := o.rawL_nonneg (l.take k)
          have CL : 0 ≤ Od.clamp wt := by unfold Od.clamp; omega
          have Hhb2 := Lib.hid hb2
          have HB1 := Lib.hid B1
          have HB2 := Lib.hid B2
          have Hhn2 := Lib.hid hn2
          have Hhg := Lib.hid hg
          have Hq5 := Lib.hid q5
          have Hhy := Lib.hid hy
          have Hh3 := Lib.hid h3
          have HR := Lib.hid R
          have HRL := Lib.hid RL
          have HCL := Lib.hid CL
          clear hb2 B1 B2 hn2 hg q5 hy h3 R RL CL
          clear hl
          go_wp2_with (go_at_call 72; refine (IH _ (bstep Hhb2.out (balloc _ _)) (HB1.out.alloc _) (HB2.out.alloc _) ((Below.heap_alloc _ _ _ (lt_of_block Hhn2.out)).trans Hhn2.out) (by omega) (by omega)).mono ?_; rintro e w' ⟨rfl, hn3, hg3⟩)
          have Hn3 := Lib.hid hn3
          clear hn3
          go_wp2_with fail
          go_roundw
          case rel =>
            refine ⟨k + 1, _, by omega, by go_num, ?_, ?_, ?_, gtrans Hhg.out (gtrans (galloc _ _ _) hg3), Hn3.out⟩
            · have := HR.out; unfold Od.most; omega
            · unfold Od.most; omega
            · have e1 := Hq5.out
              have e2 := Hhy.out
              have e3 := HR.out
              have e4 := HRL.out
              have e5 := HCL.out
              unfold Hid
              rw [e2, e1]
              generalize Od.clamp wt = cw at *
              unfold Od.most
              omega
          case measure => simp [intOf]; omega
        · go_wp2_with fail
          go_end0
          obtain rfl : k = l.length := by omega
          refine ⟨rfl, ?_, hg⟩
          rw [hn2, hy.out, List.take_length, ER.out, Int.add_assoc]
    · rcases Int.lt_or_le 2147483647 wt with s2 | s2
      · rcases Int.lt_or_le 0 x with s4 | s4
        · go_enter Try.func72, Try.ntmps72
          go_wp2_with fail
          go_loopw [28] (fun i wr => ∃ (k : Nat) (y : Int), k ≤ l.length ∧ i = .int .i64 k ∧ 0 ≤ y ∧ y ≤ 2147483647 ∧ Hid (y = min (x + Od.clamp wt + o.rawL (l.take k)) Od.most) ∧ W.grownBy wr (some Bn) ∧ wr.heap[Bn]? = some (.cells #[.int .i64 y] 3 (0, 0))) (fun i _ => l.length - (intOf i).toNat)
          case atStart =>
            refine ⟨0, _, Nat.zero_le _, rfl, ?_, ?_, ?_, gtrans (galloc _ _ _) (gset _ _ _ _), one_setCell ((Below.heap_alloc _ _ _ (lt_of_block hn.out)).trans hn.out)⟩
            · omega
            · omega
            · unfold Hid; simp only [List.take_zero, Od.rawL]; unfold Od.clamp Od.most; omega
          case round =>
            clear u0 u1 u2 u3 wf nf cf
            obtain ⟨k, y, hk, rfl, hy0, hy1, hy, hg, hn2⟩ := hrel
            have hb2 := gbelow hb.out hg hBn
            by_cases hlt : k < l.length
            · obtain ⟨b, oo, a', c', rfl, g1, g2, h3⟩ := hl.at2 hb2 k hlt
              have hmem := List.getElem_mem hlt
              have B2 := hBw0.out.grown hg hwn
              have B1 := hBo0.out.grown hg hon
              have wf := calloc B2.one
              have IH := fun W0 hW => ih.out l[k] hmem _ h3 (hall.out _ hmem) W0 y Bo Bn Bw a3 _ c3 c4 hW hBn hon hwn n3 n4 p2 p3
              have q5 := o.rawL_take_succ l k hlt
              have R := o.raw_nonneg l[k]
              have RL := o.rawL_nonneg (l.take k)
              have CL : 0 ≤ Od.clamp wt := by unfold Od.clamp; omega
              have Hhb2 := Lib.hid hb2
              have HB1 := Lib.hid B1
              have HB2 := Lib.hid B2
              have Hhn2 := Lib.hid hn2
              have Hhg := Lib.hid hg
              have Hq5 := Lib.hid q5
              have Hhy := Lib.hid hy
              have Hh3 := Lib.hid h3
              have HR := Lib.hid R
              have HRL := Lib.hid RL
              have HCL := Lib.hid CL
              clear hb2 B1 B2 hn2 hg q5 hy h3 R RL CL
              clear hl
              go_wp2_with (go_at_call 72; refine (IH _ (bstep Hhb2.out (balloc _ _)) (HB1.out.alloc _) (HB2.out.alloc _) ((Below.heap_alloc _ _ _ (lt_of_block Hhn2.out)).trans Hhn2.out) (by omega) (by omega)).mono ?_; rintro e w' ⟨rfl, hn3, hg3⟩)
              have Hn3 := Lib.hid hn3
              clear hn3
              go_wp2_with fail
              go_roundw
              case rel =>
                refine ⟨k + 1, _, by omega, by go_num, ?_, ?_, ?_, gtrans Hhg.out (gtrans (galloc _ _ _) hg3), Hn3.out⟩
                · have := HR.out; unfold Od.most; omega
                · unfold Od.most; omega
                · have e1 := Hq5.out
                  have e2 := Hhy.out
                  have e3 := HR.out
                  have e4 := HRL.out
                  have e5 := HCL.out
                  unfold Hid
                  rw [e2, e1]
                  generalize Od.clamp wt = cw at *
                  unfold Od.most
                  omega
              case measure => simp [intOf]; omega
            · go_wp2_with fail
              go_end0
              obtain rfl : k = l.length := by omega
              refine ⟨rfl, ?_, hg⟩
              rw [hn2, hy.out, List.take_length, ER.out, Int.add_assoc]
        · go_enter Try.func72, Try.ntmps72
          go_wp2_with fail
          go_loopw [28] (fun i wr => ∃ (k : Nat) (y : Int), k ≤ l.length ∧ i = .int .i64 k ∧ 0 ≤ y ∧ y ≤ 2147483647 ∧ Hid (y = min (x + Od.clamp wt + o.rawL (l.take k)) Od.most) ∧ W.grownBy wr (some Bn) ∧ wr.heap[Bn]? = some (.cells #[.int .i64 y] 3 (0, 0))) (fun i _ => l.length - (intOf i).toNat)
          case atStart =>
            refine ⟨0, _, Nat.zero_le _, rfl, ?_, ?_, ?_, gtrans (galloc _ _ _) (gset _ _ _ _), one_setCell ((Below.heap_alloc _ _ _ (lt_of_block hn.out)).trans hn.out)⟩
            · omega
            · omega
            · unfold Hid; simp only [List.take_zero, Od.rawL]; unfold Od.clamp Od.most; omega
          case round =>
            clear u0 u1 u2 u3 wf nf cf
            obtain ⟨k, y, hk, rfl, hy0, hy1, hy, hg, hn2⟩ := hrel
            have hb2 := gbelow hb.out hg hBn
            by_cases hlt : k < l.length
            · obtain ⟨b, oo, a', c', rfl, g1, g2, h3⟩ := hl.at2 hb2 k hlt
              have hmem := List.getElem_mem hlt
              have B2 := hBw0.out.grown hg hwn
              have B1 := hBo0.out.grown hg hon
              have wf := calloc B2.one
              have IH := fun W0 hW => ih.out l[k] hmem _ h3 (hall.out _ hmem) W0 y Bo Bn Bw a3 _ c3 c4 hW hBn hon hwn n3 n4 p2 p3
              have q5 := o.rawL_take_succ l k hlt
              have R := o.raw_nonneg l[k]
              have RL := o.rawL_nonneg (l.take k)
              have CL : 0 ≤ Od.clamp wt := by unfold Od.clamp; omega
              have Hhb2 := Lib.hid hb2
              have HB1 := Lib.hid B1
              have HB2 := Lib.hid B2
              have Hhn2 := Lib.hid hn2
              have Hhg := Lib.hid hg
              have Hq5 := Lib.hid q5
              have Hhy := Lib.hid hy
              have Hh3 := Lib.hid h3
              have HR := Lib.hid R
              have HRL := Lib.hid RL
              have HCL := Lib.hid CL
              clear hb2 B1 B2 hn2 hg q5 hy h3 R RL CL
              clear hl
              go_wp2_with (go_at_call 72; refine (IH _ (bstep Hhb2.out (balloc _ _)) (HB1.out.alloc _) (HB2.out.alloc _) ((Below.heap_alloc _ _ _ (lt_of_block Hhn2.out)).trans Hhn2.out) (by omega) (by omega)).mono ?_; rintro e w' ⟨rfl, hn3, hg3⟩)
              have Hn3 := Lib.hid hn3
              clear hn3
              go_wp2_with fail
              go_roundw
              case rel =>
                refine ⟨k + 1, _, by omega, by go_num, ?_, ?_, ?_, gtrans Hhg.out (gtrans (galloc _ _ _) hg3), Hn3.out⟩
                · have := HR.out; unfold Od.most; omega
                · unfold Od.most; omega
                · have e1 := Hq5.out
                  have e2 := Hhy.out
                  have e3 := HR.out
                  have e4 := HRL.out
                  have e5 := HCL.out
                  unfold Hid
                  rw [e2, e1]
                  generalize Od.clamp wt = cw at *
                  unfold Od.most
                  omega
              case measure => simp [intOf]; omega
            · go_wp2_with fail
              go_end0
              obtain rfl : k = l.length := by omega
              refine ⟨rfl, ?_, hg⟩
              rw [hn2, hy.out, List.take_length, ER.out, Int.add_assoc]
      · rcases Int.lt_or_le 2147483647 (x + wt) with s3 | s3
        · go_enter Try.func72, Try.ntmps72
          go_wp2_with fail
          go_loopw [28] (fun i wr => ∃ (k : Nat) (y : Int), k ≤ l.length ∧ i = .int .i64 k ∧ 0 ≤ y ∧ y ≤ 2147483647 ∧ Hid (y = min (x + Od.clamp wt + o.rawL (l.take k)) Od.most) ∧ W.grownBy wr (some Bn) ∧ wr.heap[Bn]? = some (.cells #[.int .i64 y] 3 (0, 0))) (fun i _ => l.length - (intOf i).toNat)
          case atStart =>
            refine ⟨0, _, Nat.zero_le _, rfl, ?_, ?_, ?_, gtrans (galloc _ _ _) (gset _ _ _ _), one_setCell ((Below.heap_alloc _ _ _ (lt_of_block hn.out)).trans hn.out)⟩
            · omega
            · omega
            · unfold Hid; simp only [List.take_zero, Od.rawL]; unfold Od.clamp Od.most; omega
          case round =>
            clear u0 u1 u2 u3 wf nf cf
            obtain ⟨k, y, hk, rfl, hy0, hy1, hy, hg, hn2⟩ := hrel
            have hb2 := gbelow hb.out hg hBn
            by_cases hlt : k < l.length
            · obtain ⟨b, oo, a', c', rfl, g1, g2, h3⟩ := hl.at2 hb2 k hlt
              have hmem := List.getElem_mem hlt
              have B2 := hBw0.out.grown hg hwn
              have B1 := hBo0.out.grown hg hon
              have wf := calloc B2.one
              have IH := fun W0 hW => ih.out l[k] hmem _ h3 (hall.out _ hmem) W0 y Bo Bn Bw a3 _ c3 c4 hW hBn hon hwn n3 n4 p2 p3
              have q5 := o.rawL_take_succ l k hlt
              have R := o.raw_nonneg l[k]
              have RL := o.rawL_nonneg (l.take k)
              have CL : 0 ≤ Od.clamp wt := by unfold Od.clamp; omega
              have Hhb2 := Lib.hid hb2
              have HB1 := Lib.hid B1
              have HB2 := Lib.hid B2
              have Hhn2 := Lib.hid hn2
              have Hhg := Lib.hid hg
              have Hq5 := Lib.hid q5
              have Hhy := Lib.hid hy
              have Hh3 := Lib.hid h3
              have HR := Lib.hid R
              have HRL := Lib.hid RL
              have HCL := Lib.hid CL
              clear hb2 B1 B2 hn2 hg q5 hy h3 R RL CL
              clear hl
              go_wp2_with (go_at_call 72; refine (IH _ (bstep Hhb2.out (balloc _ _)) (HB1.out.alloc _) (HB2.out.alloc _) ((Below.heap_alloc _ _ _ (lt_of_block Hhn2.out)).trans Hhn2.out) (by omega) (by omega)).mono ?_; rintro e w' ⟨rfl, hn3, hg3⟩)
              have Hn3 := Lib.hid hn3
              clear hn3
              go_wp2_with fail
              go_roundw
              case rel =>
                refine ⟨k + 1, _, by omega, by go_num, ?_, ?_, ?_, gtrans Hhg.out (gtrans (galloc _ _ _) hg3), Hn3.out⟩
                · have := HR.out; unfold Od.most; omega
                · unfold Od.most; omega
                · have e1 := Hq5.out
                  have e2 := Hhy.out
                  have e3 := HR.out
                  have e4 := HRL.out
                  have e5 := HCL.out
                  unfold Hid
                  rw [e2, e1]
                  generalize Od.clamp wt = cw at *
                  unfold Od.most
                  omega
              case measure => simp [intOf]; omega
            · go_wp2_with fail
              go_end0
              obtain rfl : k = l.length := by omega
              refine ⟨rfl, ?_, hg⟩
              rw [hn2, hy.out, List.take_length, ER.out, Int.add_assoc]
        · go_enter Try.func72, Try.ntmps72
          go_wp2_with fail
          go_loopw [28] (fun i wr => ∃ (k : Nat) (y : Int), k ≤ l.length ∧ i = .int .i64 k ∧ 0 ≤ y ∧ y ≤ 2147483647 ∧ Hid (y = min (x + Od.clamp wt + o.rawL (l.take k)) Od.most) ∧ W.grownBy wr (some Bn) ∧ wr.heap[Bn]? = some (.cells #[.int .i64 y] 3 (0, 0))) (fun i _ => l.length - (intOf i).toNat)
          case atStart =>
            refine ⟨0, _, Nat.zero_le _, rfl, ?_, ?_, ?_, gtrans (galloc _ _ _) (gset _ _ _ _), one_setCell ((Below.heap_alloc _ _ _ (lt_of_block hn.out)).trans hn.out)⟩
            · omega
            · omega
            · unfold Hid; simp only [List.take_zero, Od.rawL]; unfold Od.clamp Od.most; omega
          case round =>
            clear u0 u1 u2 u3 wf nf cf
            obtain ⟨k, y, hk, rfl, hy0, hy1, hy, hg, hn2⟩ := hrel
            have hb2 := gbelow hb.out hg hBn
            by_cases hlt : k < l.length
            · obtain ⟨b, oo, a', c', rfl, g1, g2, h3⟩ := hl.at2 hb2 k hlt
              have hmem := List.getElem_mem hlt
              have B2 := hBw0.out.grown hg hwn
              have B1 := hBo0.out.grown hg hon
              have wf := calloc B2.one
              have IH := fun W0 hW => ih.out l[k] hmem _ h3 (hall.out _ hmem) W0 y Bo Bn Bw a3 _ c3 c4 hW hBn hon hwn n3 n4 p2 p3
              have q5 := o.rawL_take_succ l k hlt
              have R := o.raw_nonneg l[k]
              have RL := o.rawL_nonneg (l.take k)
              have CL : 0 ≤ Od.clamp wt := by unfold Od.clamp; omega
              have Hhb2 := Lib.hid hb2
              have HB1 := Lib.hid B1
              have HB2 := Lib.hid B2
              have Hhn2 := Lib.hid hn2
              have Hhg := Lib.hid hg
              have Hq5 := Lib.hid q5
              have Hhy := Lib.hid hy
              have Hh3 := Lib.hid h3
              have HR := Lib.hid R
              have HRL := Lib.hid RL
              have HCL := Lib.hid CL
              clear hb2 B1 B2 hn2 hg q5 hy h3 R RL CL
              clear hl
              go_wp2_with (go_at_call 72; refine (IH _ (bstep Hhb2.out (balloc _ _)) (HB1.out.alloc _) (HB2.out.alloc _) ((Below.heap_alloc _ _ _ (lt_of_block Hhn2.out)).trans Hhn2.out) (by omega) (by omega)).mono ?_; rintro e w' ⟨rfl, hn3, hg3⟩)
              have Hn3 := Lib.hid hn3
              clear hn3
              go_wp2_with fail
              go_roundw
              case rel =>
                refine ⟨k + 1, _, by omega, by go_num, ?_, ?_, ?_, gtrans Hhg.out (gtrans (galloc _ _ _) hg3), Hn3.out⟩
                · have := HR.out; unfold Od.most; omega
                · unfold Od.most; omega
                · have e1 := Hq5.out
                  have e2 := Hhy.out
                  have e3 := HR.out
                  have e4 := HRL.out
                  have e5 := HCL.out
                  unfold Hid
                  rw [e2, e1]
                  generalize Od.clamp wt = cw at *
                  unfold Od.most
                  omega
              case measure => simp [intOf]; omega
            · go_wp2_with fail
              go_end0
              obtain rfl : k = l.length := by omega
              refine ⟨rfl, ?_, hg⟩
              rw [hn2, hy.out, List.take_length, ER.out, Int.add_assoc]
end Go.Proofs.Ytmdpiafeiopimaa

/- A map from integers to integers, read as a function that is nought where nothing stands. -/
namespace Go.Proofs.Ytmdpiafeiopimaa
open Go.RowKit Go.Maps Go
theorem rbool2 {a b c d : Bool} (h : a = c) (h' : b = d) : Ending.returned (.tuple #[.bool a, .bool b]) = .returned (.tuple #[.bool c, .bool d]) := by rw [h, h']
theorem lawInt : Keyed Try.prog 3 := int_keyed Try.underlying3
theorem zeroInt (w : World) : (zeroValue 3).run Try.prog w = .ok (.int .i64 0) w := by kernel_rfl
/-- The map reads as the function. -/
def MapF (D : DataW Unit) (F : Int → Int) : Prop := ∀ v, (Lit.int .i64 v).wf = true → D.atKey (.int .i64 v) (.lit (.int .i64 0)) = .lit (.int .i64 (F v))
def updF (F : Int → Int) (f x : Int) : Int → Int := fun v => if v = f then x else F v
theorem mapF_nil : MapF (.map []) (fun _ => 0) := fun v _ => by simp [DataW.atKey]
theorem mapF_eq {D : DataW Unit} {F : Int → Int} (h : MapF D F) {v c : Int} (hv : (Lit.int .i64 v).wf = true) (hat : D.atKey (.int .i64 v) (.lit (.int .i64 0)) = .lit (.int .i64 c)) : c = F v := by
  have := h v hv
  rw [hat] at this
  simpa using this
theorem i64_mk {f : Int} (h1 : -9223372036854775808 ≤ f) (h2 : f ≤ 9223372036854775807) : (Lit.int .i64 f).wf = true := by
  simp [Lit.wf, IntKind.min, IntKind.max, IntKind.signed, IntKind.bits]; omega
theorem mapF_put {D : DataW Unit} {F : Int → Int} (hD : Maps.IsMap D) (h : MapF D F) {f x : Int} : MapF (D.put (.int .i64 f) (.lit (.int .i64 x))) (updF F f x) := by
  intro v hv
  unfold updF
  by_cases e : v = f
  · subst e
    rw [Maps.atKey_put_same hD (show WideAt.IsKeyLit (.int .i64 v) from trivial), if_pos rfl]
  · rw [Maps.atKey_put_other (by simpa using e), if_neg e]
    exact h v hv
end Go.Proofs.Ytmdpiafeiopimaa

/- The walks through the program's order of Knuth and Bendix: how often variables stand. -/
namespace Go.Proofs.Ytmdpiafeiopimaa
open Go.RowKit Go.Sort Go.Maps Go
/-- A function on variables with a term's variables added so often. -/
def addF (F : Int → Int) (b : Int) (t : T) : Int → Int := fun v => F v + b * (if v < 0 then t.often v else 0 : Nat)
def addL (F : Int → Int) (b : Int) (l : List T) : Int → Int := fun v => F v + b * (if v < 0 then T.oftenL v l else 0 : Nat)
theorem addL_nil (F : Int → Int) (b : Int) : addL F b [] = F := by funext v; simp [addL, T.oftenL]
theorem addL_take_succ (F : Int → Int) (b : Int) (l : List T) (k : Nat) (h : k < l.length) : addF (addL F b (l.take k)) b l[k] = addL F b (l.take (k + 1)) := by
  funext v
  unfold addF addL
  rw [T.oftenL_take_succ v l k h]
  by_cases hv : v < 0
  · simp only [if_pos hv, Int.natCast_add, Int.mul_add]; omega
  · simp only [if_neg hv]; omega
theorem addF_mk_neg (F : Int → Int) (b f : Int) (l : List T) (h : f < 0) : addF F b (.mk f l) = addL (updF F f (F f + b)) b l := by
  funext v
  unfold addF addL updF
  rw [T.often]
  by_cases hv : v < 0
  · simp only [if_pos hv]
    by_cases e : v = f
    · subst e; simp only [if_true, Int.natCast_add, Int.mul_add]; simp; omega
    · simp only [if_neg e, if_neg (Ne.symm e), Nat.zero_add]
  · have : ¬ v = f := by omega
    simp only [if_neg hv, if_neg this]
theorem addF_mk_pos (F : Int → Int) (b f : Int) (l : List T) (h : ¬ f < 0) : addF F b (.mk f l) = addL F b l := by
  funext v
  unfold addF addL
  rw [T.often]
  by_cases hv : v < 0
  · have : ¬ f = v := by omega
    simp only [if_pos hv, if_neg this, Nat.zero_add]
  · simp only [if_neg hv]
theorem addL_bound {F : Int → Int} {K : Nat} (hF : ∀ v, -(K : Int) ≤ F v ∧ F v ≤ K) {b : Int} (hb : b = 1 ∨ b = -1) (l : List T) (v : Int) : -((K + T.sizeL l : Nat) : Int) ≤ addL F b l v ∧ addL F b l v ≤ (K + T.sizeL l : Nat) := by
  have h1 := hF v
  have h2 := (T.often_le v).2 l
  unfold addL
  split <;> rcases hb with rfl | rfl <;> omega
set_option maxRecDepth 100000 in
set_option maxHeartbeats 2000000 in
theorem counts1_any (w0 : World) (t : T) : ∀ (v : Value), IsT w0 t v → ∀ (W : World) (b : Int) (Bn Bm Bw K N : Nat) (D : DataW Unit) (F : Int → Int), Below w0.heap.size w0 W → w0.heap.size ≤ Bm → Bn ≠ Bm → Bw ≠ Bm →
    Box W Bn [.map (some Bm)] → Box W Bw [.func (.func 65) #[] #[.pointer (some ⟨Bn, 0, none⟩), .pointer (some ⟨Bw, 0, none⟩)]] →
    W.ownsMap Try.prog 3 (plainElem Try.prog 3) Bm N D → MapF D F → (∀ v, -(K : Int) ≤ F v ∧ F v ≤ K) → K + t.size ≤ 1099511627776 → N ≤ K → (b = 1 ∨ b = -1) →
    Calls Try.prog 65 #[v, .int .i64 b, .pointer (some ⟨Bn, 0, none⟩), .pointer (some ⟨Bw, 0, none⟩)] W fun e W' => e = .returned (.tuple #[]) ∧
      ∃ (N' : Nat) (D' : DataW Unit), N' ≤ K + t.size ∧ W'.ownsMap Try.prog 3 (plainElem Try.prog 3) Bm N' D' ∧ MapF D' (addF F b t) ∧ W.grownBy W' (some Bm) := by
  induction t using T.ind with
  | h f l ih =>
  intro v hv W b Bn Bm Bw K N D F hbw hBm hnm hwm hBn hBw hown hMF hF hK hNK hb
  obtain ⟨⟨hf1, hf2⟩, a, c, rfl, hc, hm, hl⟩ := hv
  unfold maxLen at hm
  rw [T.size] at hK ⊢
  have m0 := calloc hBn.one
  have wf := calloc hBw.one
  have hbw := Lib.hid hbw
  have hBw0 := Lib.hid hBw
  have hBn0 := Lib.hid hBn
  have hbb := Lib.hid hb
  have IHH := ih
  clear ih
  have ih := Lib.hid IHH
  clear IHH
  have hb1 : -1 ≤ b ∧ b ≤ 1 := by omega
  obtain ⟨hb1, hb2⟩ := hb1
  by_cases h0 : f < 0
  · have EF := Lib.hid (addF_mk_neg F b f l h0).symm
    have hFf := hF f
    obtain ⟨hFf1, hFf2⟩ := hFf
    have hFK : ∀ v, -((K + 1 : Nat) : Int) ≤ updF F f (F f + b) v ∧ updF F f (F f + b) v ≤ (K + 1 : Nat) := by
      intro v
      have := hF v
      unfold updF
      split <;> omega
    have hkey : keyOf Try.prog 3 (.int .i64 f) = some (.int .i64 f) := keyOf_int_mk Try.underlying3 (i64_mk hf1 hf2)
    have HM := Lib.hid (hown.isMap)
    have hmlt := hown.lt
    have HhFK := Lib.hid hFK
    have HhMF := Lib.hid hMF
    have Hhown := Lib.hid hown
    have Hhkey := Lib.hid hkey
    have HhF := Lib.hid hF
    clear hFK hMF hown hkey hF
    have hFK := HhFK
    clear HhFK hBw hBn hb
    go_enter Try.func65, Try.ntmps65
    go_wp2_with (first
      | (at_lookup; refine wpList_lookup_own_int _ rfl _ _ 111 rfl 3 3 .i64 lawInt Try.underlying111 Try.underlying3 (zeroInt _) Bm N _ rfl (Hhown.out.alloc _) _ _ rfl Hhkey.out ?_; intro c hat hwc; obtain rfl : c = F f := mapF_eq HhMF.out (i64_mk hf1 hf2) hat; clear hat hwc)
      | (at_mapUpdate; refine wpList_mapUpdate_own _ rfl _ _ _ 111 rfl 3 3 lawInt Try.underlying111 _ Bm N _ rfl (Hhown.out.alloc _) (by unfold maxLen; omega) _ _ _ rfl rfl Hhkey.out _ [] (plainElem_int Try.underlying3 (i64_mk (by omega) (by omega))) ?_; intro w1 hown1 hgrow1; obtain ⟨x0, x1⟩ := (Box.grown (Box.new W [.int .i64 f, .slice a l.length c] 30) hgrow1 (by omega)).two))
    have hg1 := gtrans (galloc W _ _) hgrow1
    have HM1 := mapF_put HM.out HhMF.out (f := f) (x := F f + b)
    have Hhown1 := Lib.hid hown1
    have Hhg1 := Lib.hid hg1
    have HHM1 := Lib.hid HM1
    clear hown1 hg1 HM1
    clear hgrow1
    go_loopw [20] (fun i wr => ∃ (k N : Nat) (D : DataW Unit), k ≤ l.length ∧ i = .int .i64 k ∧ N ≤ (K + 1) + T.sizeL (l.take k) ∧ wr.ownsMap Try.prog 3 (plainElem Try.prog 3) Bm N D ∧ MapF D (addL (updF F f (F f + b)) b (l.take k)) ∧ W.grownBy wr (some Bm)) (fun i _ => l.length - (intOf i).toNat)
    case round =>
      clear m0 wf
      obtain ⟨k, N, D, hk, rfl, hN, hown, hMF, hg⟩ := hrel
      have hb2 := gbelow hbw.out hg hBm
      by_cases hlt : k < l.length
      · obtain ⟨bb, oo, a', c', rfl, g1, g2, h3⟩ := hl.at2 hb2 k hlt
        have hmem := List.getElem_mem hlt
        have B2 := hBw0.out.grown hg hwm
        have B1 := hBn0.out.grown hg hnm
        have wf := calloc B2.one
        have e1 := T.sizeL_take_succ l k hlt
        have e2 := T.sizeL_take_le l (k + 1)
        have IH := fun W0 hW => ih.out l[k] hmem _ h3 W0 b Bn Bm Bw ((K + 1) + T.sizeL (l.take k)) N D (addL (updF F f (F f + b)) b (l.take k)) hW hBm hnm hwm
        have BD := addL_bound hFK.out hbb.out (l.take k)
        have q5 := addL_take_succ (updF F f (F f + b)) b l k hlt
        have Hhb2 := Lib.hid hb2
        have HB1 := Lib.hid B1
        have HB2 := Lib.hid B2
        have Hhg := Lib.hid hg
        have Hh3 := Lib.hid h3
        have Hhown := Lib.hid hown
        have HhMF := Lib.hid hMF
        have HBD := Lib.hid BD
        have Hq5 := Lib.hid q5
        clear hb2 B1 B2 hg h3 hown hMF BD q5
        clear hl
        go_wp2_with (go_at_call 65; refine (IH _ (bstep Hhb2.out (balloc _ _)) (HB1.out.alloc _) (HB2.out.alloc _) (Hhown.out.alloc _) HhMF.out HBD.out (by omega) (by omega) hbb.out).mono ?_; rintro e w' ⟨rfl, N2, D2, hN2, hown2, hMF2, hg2⟩)
        have Hown2 := Lib.hid hown2
        have HMF2 := Lib.hid hMF2
        clear hown2 hMF2
        go_wp2_with fail
        go_roundw
        case rel => exact ⟨k + 1, N2, D2, by omega, by go_num, by omega, Hown2.out, Hq5.out ▸ HMF2.out, gtrans Hhg.out (gtrans (galloc _ _ _) hg2)⟩
        case measure => simp [intOf]; omega
      · obtain rfl : k = l.length := by omega
        rw [List.take_length] at hMF hN
        have Hhown := Lib.hid hown
        have HhMF := Lib.hid hMF
        have Hhg := Lib.hid hg
        clear hown hMF hg
        go_wp2_with fail
        go_end0
        exact ⟨rfl, N, D, by omega, Hhown.out, EF.out ▸ HhMF.out, Hhg.out⟩
    case atStart => exact ⟨0, N + 1, _, Nat.zero_le _, rfl, by omega, Hhown1.out, by rw [List.take_zero, addL_nil]; exact HHM1.out, Hhg1.out⟩
  · have EF := Lib.hid (addF_mk_pos F b f l h0).symm
    have hFK := Lib.hid hF
    have HhMF := Lib.hid hMF
    have Hhown := Lib.hid hown
    clear hMF hown
    clear hF hBw hBn hb
    go_enter Try.func65, Try.ntmps65
    go_wp2_with fail
    go_loopw [20] (fun i wr => ∃ (k N : Nat) (D : DataW Unit), k ≤ l.length ∧ i = .int .i64 k ∧ N ≤ K + T.sizeL (l.take k) ∧ wr.ownsMap Try.prog 3 (plainElem Try.prog 3) Bm N D ∧ MapF D (addL F b (l.take k)) ∧ W.grownBy wr (some Bm)) (fun i _ => l.length - (intOf i).toNat)
    case round =>
      clear m0 wf
      obtain ⟨k, N, D, hk, rfl, hN, hown, hMF, hg⟩ := hrel
      have hb2 := gbelow hbw.out hg hBm
      by_cases hlt : k < l.length
      · obtain ⟨bb, oo, a', c', rfl, g1, g2, h3⟩ := hl.at2 hb2 k hlt
        have hmem := List.getElem_mem hlt
        have B2 := hBw0.out.grown hg hwm
        have B1 := hBn0.out.grown hg hnm
        have wf := calloc B2.one
        have e1 := T.sizeL_take_succ l k hlt
        have e2 := T.sizeL_take_le l (k + 1)
        have IH := fun W0 hW => ih.out l[k] hmem _ h3 W0 b Bn Bm Bw (K + T.sizeL (l.take k)) N D (addL F b (l.take k)) hW hBm hnm hwm
        have BD := addL_bound hFK.out hbb.out (l.take k)
        have q5 := addL_take_succ F b l k hlt
        have Hhb2 := Lib.hid hb2
        have HB1 := Lib.hid B1
        have HB2 := Lib.hid B2
        have Hhg := Lib.hid hg
        have Hh3 := Lib.hid h3
        have Hhown := Lib.hid hown
        have HhMF := Lib.hid hMF
        have HBD := Lib.hid BD
        have Hq5 := Lib.hid q5
        clear hb2 B1 B2 hg h3 hown hMF BD q5
        clear hl
        go_wp2_with (go_at_call 65; refine (IH _ (bstep Hhb2.out (balloc _ _)) (HB1.out.alloc _) (HB2.out.alloc _) (Hhown.out.alloc _) HhMF.out HBD.out (by omega) (by omega) hbb.out).mono ?_; rintro e w' ⟨rfl, N2, D2, hN2, hown2, hMF2, hg2⟩)
        have Hown2 := Lib.hid hown2
        have HMF2 := Lib.hid hMF2
        clear hown2 hMF2
        go_wp2_with fail
        go_roundw
        case rel => exact ⟨k + 1, N2, D2, by omega, by go_num, by omega, Hown2.out, Hq5.out ▸ HMF2.out, gtrans Hhg.out (gtrans (galloc _ _ _) hg2)⟩
        case measure => simp [intOf]; omega
      · obtain rfl : k = l.length := by omega
        rw [List.take_length] at hMF hN
        have Hhown := Lib.hid hown
        have HhMF := Lib.hid hMF
        have Hhg := Lib.hid hg
        clear hown hMF hg
        go_wp2_with fail
        go_end0
        exact ⟨rfl, N, D, by omega, Hhown.out, EF.out ▸ HhMF.out, Hhg.out⟩
    case atStart => exact ⟨0, N, D, Nat.zero_le _, rfl, by omega, Hhown.out.alloc _, by rw [List.take_zero, addL_nil]; exact HhMF.out, galloc _ _ _⟩
end Go.Proofs.Ytmdpiafeiopimaa

/- The walks through the program's order of Knuth and Bendix: which term has which variables more often. -/
namespace Go.Proofs.Ytmdpiafeiopimaa
open Go.RowKit Go.Sort Go.Maps Go
theorem IsT.often_i64 {w : World} {x : Int} : ∀ (t : T) (v : Value), IsT w t v → 0 < t.often x → I64 x := by
  intro t
  induction t using T.ind with
  | h f l ih =>
  intro v hv hx
  obtain ⟨hf, a, c, rfl, hc, hm, hl⟩ := hv
  clear hc hm
  rw [T.often] at hx
  by_cases e : f = x
  · subst e; exact hf
  · rw [if_neg e, Nat.zero_add] at hx
    have : ∃ k, ∃ hk : k < l.length, 0 < T.often x l[k] := by
      clear hl ih
      induction l with
      | nil => simp [T.oftenL] at hx
      | cons a r ihr =>
        rw [T.oftenL] at hx
        by_cases h : 0 < T.often x a
        · exact ⟨0, by simp, h⟩
        · obtain ⟨k, hk, h⟩ := ihr (by omega)
          exact ⟨k + 1, by simpa using hk, by simpa using h⟩
    obtain ⟨k, hk, h⟩ := this
    obtain ⟨_, _, _, _, _, _, _, h3⟩ := hl.at2 (Below.refl _ _) k hk
    exact ih _ (List.getElem_mem hk) _ h3 h
theorem covers_iff (o : Od) (s t : T) : ∀ (u : T), o.knows u = true → (Od.covers s t u = true ↔ ∀ v, v < 0 → 0 < u.often v → t.often v ≤ s.often v) := by
  intro u
  induction u using T.ind with
  | h f l ih =>
  intro hk
  rcases Od.knows_args hk with ⟨h0, rfl⟩ | ⟨h0, _, _, hall⟩
  · rw [Od.covers, if_pos h0, decide_eq_true_eq]
    constructor
    · intro h v hv hp
      rw [T.often, T.oftenL] at hp
      by_cases e : f = v
      · subst e; exact h
      · rw [if_neg e] at hp; omega
    · intro h
      exact h f h0 (by rw [T.often, if_pos rfl]; omega)
  · rw [Od.covers, if_neg (by omega)]
    have hL : ∀ r : List T, (∀ a ∈ r, a ∈ l) → (Od.coversL s t r = true ↔ ∀ v, v < 0 → 0 < T.oftenL v r → t.often v ≤ s.often v) := by
      intro r
      induction r with
      | nil => intro _; simp [Od.coversL, T.oftenL]
      | cons a r ihr =>
        intro hm
        rw [Od.coversL, Bool.and_eq_true, ih a (hm a (by simp)) (hall a (hm a (by simp))), ihr (fun b hb => hm b (by simp [hb]))]
        constructor
        · rintro ⟨h1, h2⟩ v hv hp
          rw [T.oftenL] at hp
          by_cases e : 0 < T.often v a
          · exact h1 v hv e
          · exact h2 v hv (by omega)
        · intro h
          exact ⟨fun v hv hp => h v hv (by rw [T.oftenL]; omega), fun v hv hp => h v hv (by rw [T.oftenL]; omega)⟩
    rw [hL l (fun _ h => h)]
    constructor
    · intro h v hv hp
      refine h v hv ?_
      rw [T.often, if_neg (by omega)] at hp
      omega
    · intro h v hv hp
      exact h v hv (by rw [T.often]; omega)
/-- What the loop over the map has found. -/
def LR (F : Int → Int) (D : DataW Unit) (left : Lit → Bool) (b1 b2 : Bool) : Prop :=
  (b1 = true ↔ ∀ v, (Lit.int .i64 v).wf = true → Maps.has D (.int .i64 v) = true → left (.int .i64 v) = false → F v ≤ 0) ∧
  (b2 = true ↔ ∀ v, (Lit.int .i64 v).wf = true → Maps.has D (.int .i64 v) = true → left (.int .i64 v) = false → 0 ≤ F v)
theorem LR.start (F : Int → Int) (D : DataW Unit) : LR F D (Maps.has D) true true := by
  constructor <;> exact ⟨fun _ v _ h1 h2 => by rw [h1] at h2; simp at h2, fun _ => rfl⟩
theorem sameInt (v x : Int) : (Lit.int .i64 v).sameKey (.int .i64 x) = decide (v = x) := by simp [Lit.sameKey]
theorem LR.step {F : Int → Int} {D : DataW Unit} {left : Lit → Bool} {b1 b2 : Bool} {x c : Int} (h : LR F D left b1 b2) (hF : MapF D F) (hwx : (Lit.int .i64 x).wf = true) (hl : left (.int .i64 x) = true)
    (hat : ∀ zd, D.atKey (.int .i64 x) zd = .lit (.int .i64 c)) : LR F D (fun z => left z && !z.sameKey (.int .i64 x)) (b1 && decide (c ≤ 0)) (b2 && decide (0 ≤ c)) := by
  have hc : c = F x := mapF_eq hF hwx (hat _)
  have hx : Maps.has D (.int .i64 x) = true := by
    cases hh : Maps.has D (.int .i64 x) with
    | true => rfl
    | false =>
      have h1 := Maps.atKey_of_not_has hh (.nil)
      rw [hat] at h1
      cases h1
  have key : ∀ (v : Int), (left (.int .i64 v) && !(Lit.int .i64 v).sameKey (.int .i64 x)) = false ↔ left (.int .i64 v) = false ∨ v = x := by
    intro v
    rw [sameInt]
    cases left (.int .i64 v) <;> simp
  constructor
  · rw [Bool.and_eq_true, decide_eq_true_eq, h.1]
    constructor
    · rintro ⟨g1, g2⟩ v hv hD hl'
      rcases (key v).1 hl' with e | rfl
      · exact g1 v hv hD e
      · omega
    · intro g
      exact ⟨fun v hv hD e => g v hv hD ((key v).2 (.inl e)), hc ▸ g x hwx hx ((key x).2 (.inr rfl))⟩
  · rw [Bool.and_eq_true, decide_eq_true_eq, h.2]
    constructor
    · rintro ⟨g1, g2⟩ v hv hD hl'
      rcases (key v).1 hl' with e | rfl
      · exact g1 v hv hD e
      · omega
    · intro g
      exact ⟨fun v hv hD e => g v hv hD ((key v).2 (.inl e)), hc ▸ g x hwx hx ((key x).2 (.inr rfl))⟩
theorem LR.done {F : Int → Int} {D : DataW Unit} {left : Lit → Bool} {b1 b2 : Bool} (h : LR F D left b1 b2) (hF : MapF D F) (hl : ∀ k, left k = false) :
    (b1 = true ↔ ∀ v, (Lit.int .i64 v).wf = true → F v ≤ 0) ∧ (b2 = true ↔ ∀ v, (Lit.int .i64 v).wf = true → 0 ≤ F v) := by
  have key : ∀ v, (Lit.int .i64 v).wf = true → Maps.has D (.int .i64 v) = false → F v = 0 := by
    intro v hv hh
    have h1 := Maps.atKey_of_not_has hh (.lit (.int .i64 0))
    exact (mapF_eq hF hv h1).symm
  constructor
  · rw [h.1]
    refine ⟨fun g v hv => ?_, fun g v hv _ _ => g v hv⟩
    cases hh : Maps.has D (.int .i64 v) with
    | true => exact g v hv hh (hl _)
    | false => rw [key v hv hh]; omega
  · rw [h.2]
    refine ⟨fun g v hv => ?_, fun g v hv _ _ => g v hv⟩
    cases hh : Maps.has D (.int .i64 v) with
    | true => exact g v hv hh (hl _)
    | false => rw [key v hv hh]; omega
/-- What was counted says what is covered. -/
theorem counted (o : Od) {w : World} {s t : T} {v u : Value} (hs : IsT w s v) (ht : IsT w t u) (ks : o.knows s = true) (kt : o.knows t = true) {b1 b2 : Bool}
    (h1 : b1 = true ↔ ∀ v, (Lit.int .i64 v).wf = true → addF (addF (fun _ => 0) 1 s) (-1) t v ≤ 0) (h2 : b2 = true ↔ ∀ v, (Lit.int .i64 v).wf = true → 0 ≤ addF (addF (fun _ => 0) 1 s) (-1) t v) :
    b1 = Od.covers t s s ∧ b2 = Od.covers s t t := by
  constructor
  · rw [Bool.eq_iff_iff, h1, covers_iff o t s s ks]
    constructor
    · intro g v hv hp
      have hi := IsT.often_i64 s _ hs hp
      have := g v (i64_mk hi.1 hi.2)
      unfold addF at this
      simp only [if_pos hv] at this
      omega
    · intro g v hv
      unfold addF
      by_cases h : v < 0
      · simp only [if_pos h]
        by_cases hp : 0 < s.often v
        · have := g v h hp; omega
        · omega
      · simp [h]
  · rw [Bool.eq_iff_iff, h2, covers_iff o s t t kt]
    constructor
    · intro g v hv hp
      have hi := IsT.often_i64 t _ ht hp
      have := g v (i64_mk hi.1 hi.2)
      unfold addF at this
      simp only [if_pos hv] at this
      omega
    · intro g v hv
      unfold addF
      by_cases h : v < 0
      · simp only [if_pos h]
        by_cases hp : 0 < t.often v
        · have := g v h hp; omega
        · omega
      · simp [h]
set_option maxRecDepth 100000 in
set_option maxHeartbeats 1000000 in
theorem counts_any (o : Od) (s t : T) (w : World) (v u : Value) (zs : s.size ≤ 4294967296) (zt : t.size ≤ 4294967296) (ks : o.knows s = true) (kt : o.knows t = true) (hs : IsT w s v) (ht : IsT w t u) :
    Calls Try.prog 59 #[v, u] w fun e w' => e = .returned (.tuple #[.bool (Od.covers t s s), .bool (Od.covers s t t)]) ∧ Below w.heap.size w w' := by
  have hmm := @run_makeMap Try.prog
  have hs0 := hs
  have ht0 := ht
  obtain ⟨_, a1, c1, rfl, _, _, _⟩ := hs.form
  obtain ⟨_, a2, c2, rfl, _, _, _⟩ := ht.form
  have HE := Lib.hid (fun b1 b2 h1 h2 => counted o (b1 := b1) (b2 := b2) hs ht ks kt h1 h2)
  have C1 := Lib.hid (fun W b Bn Bm Bw K N D F => counts1_any w s _ hs0 W b Bn Bm Bw K N D F)
  have C2 := Lib.hid (fun W b Bn Bm Bw K N D F => counts1_any w t _ ht0 W b Bn Bm Bw K N D F)
  clear hs ht hs0 ht0 ks kt
  go_enter Try.func59, Try.ntmps59
  go_wp2_with fail
  refine (C1.out _ 1 (w.heap.size + 1 + 1 + 1) (w.heap.size + 1 + 1) (w.heap.size + 1 + 1 + 1 + 1) 0 0 _ _ ?c1 (by omega) (by omega) (by omega) ?c2 ?c3 ?c4 mapF_nil (by simp) (by omega) (Nat.le_refl _) (.inl rfl)).mono ?_
  case c1 => exact bstep (balloc2 _ _ _) (bstep (balloc2 _ _ _) (balloc _ _))
  case c2 => exact (Box.new' (by simp)).alloc _
  case c3 => exact Box.new' (by simp)
  case c4 =>
    have := World.ownsMap_made ((w.alloc (.cells #[.int .i64 s.f, .slice a1 s.args.length c1] 30)).alloc (.cells #[.int .i64 t.f, .slice a2 t.args.length c2] 30)) Try.prog 3 (plainElem (H := Unit) Try.prog 3)
    simp only [World.size_alloc] at this
    exact (this.alloc _).alloc _
  rintro e w1 ⟨rfl, N1, D1, hN1, hown1, hMF1, hg1⟩
  have hb1 := gbelow (bstep (balloc2 w _ _) (bstep (balloc2 _ _ _) (balloc _ _))) hg1 (by omega)
  have X2 := ((((Box.new' (b := w.heap.size + 1) (vs := [.int .i64 t.f, .slice a2 t.args.length c2]) (t := 30) (w := w.alloc (.cells #[.int .i64 s.f, .slice a1 s.args.length c1] 30)) (by simp)).alloc _).alloc _).alloc _).grown hg1 (by omega)
  have X4 := ((Box.new' (b := w.heap.size + 1 + 1 + 1) (vs := [.map (some (w.heap.size + 1 + 1))]) (t := 111) (w := ((w.alloc (.cells #[.int .i64 s.f, .slice a1 s.args.length c1] 30)).alloc (.cells #[.int .i64 t.f, .slice a2 t.args.length c2] 30)).alloc (.map #[] 0)) (by simp)).alloc _).grown hg1 (by omega)
  have X5 := (Box.new' (b := w.heap.size + 1 + 1 + 1 + 1) (vs := [.func (.func 65) #[] #[.pointer (some ⟨w.heap.size + 1 + 1 + 1, 0, none⟩), .pointer (some ⟨w.heap.size + 1 + 1 + 1 + 1, 0, none⟩)]]) (t := 112) (w := (((w.alloc (.cells #[.int .i64 s.f, .slice a1 s.args.length c1] 30)).alloc (.cells #[.int .i64 t.f, .slice a2 t.args.length c2] 30)).alloc (.map #[] 0)).alloc (.cells #[.map (some (w.heap.size + 1 + 1))] 111)) (by simp)).grown hg1 (by omega)
  obtain ⟨x2, x3⟩ := X2.two
  have x4 := X4.one
  have x5 := X5.one
  have BF : ∀ v, -((s.size : Nat) : Int) ≤ addF (fun _ => 0) 1 s v ∧ addF (fun _ => 0) 1 s v ≤ (s.size : Nat) := by
    intro v
    have := (T.often_le v).1 s
    unfold addF
    dsimp only
    split <;> omega
  have Hhb1 := Lib.hid hb1
  have Hhown1 := Lib.hid hown1
  have HhMF1 := Lib.hid hMF1
  have HX4 := Lib.hid X4
  have HX5 := Lib.hid X5
  have HBF := Lib.hid BF
  clear hb1 hown1 hMF1 X4 X5 BF
  clear hg1 X2
  go_wp2_with fail
  refine (C2.out _ (-1) (w.heap.size + 1 + 1 + 1) (w.heap.size + 1 + 1) (w.heap.size + 1 + 1 + 1 + 1) s.size N1 D1 _ Hhb1.out (by omega) (by omega) (by omega) HX4.out HX5.out Hhown1.out HhMF1.out HBF.out (by omega) (by omega) (.inr rfl)).mono ?_
  rintro e w2 ⟨rfl, N2, D2, hN2, hown2, hMF2, hg2⟩
  have hb2 := gbelow Hhb1.out hg2 (by omega)
  have x6 := (HX4.out.grown hg2 (by omega)).one
  have hsz2 := hb2.size
  have Hhb2 := Lib.hid hb2
  have Hhown2 := Lib.hid hown2
  have HhMF2 := Lib.hid hMF2
  clear hb2 hown2 hMF2
  clear hg2 x2 x3 x4 x5
  go_wp2_with (first | (at_range; refine wpList_range_own _ rfl _ 111 rfl 3 3 lawInt Try.underlying111 _ (w.heap.size + 1 + 1) N2 D2 rfl Hhown2.out ?_; intro w3 hrg0 hg0 hs0))
  go_frame
  go_loopw [4, 5, 9] (fun l4 l5 _ wr => ∃ (left : Lit → Bool) (cnt : Nat) (b1 b2 : Bool), l4 = .bool b1 ∧ l5 = .bool b2 ∧ wr.ranges Try.prog 3 (plainElem Try.prog 3) (w.heap.size + 1 + 1) w2.heap.size N2 D2 left cnt ∧ LR (addF (addF (fun _ => 0) 1 s) (-1) t) D2 left b1 b2 ∧ Below w.heap.size w wr) (fun _ _ _ wr => wr.rangeLeft (w.heap.size + 1 + 1) w2.heap.size)
  case atStart => exact ⟨_, _, true, true, rfl, rfl, hrg0, LR.start _ _, Hhb2.out.grown hg0 hsz2 (fun k hk => by cases hk)⟩
  case round =>
    obtain ⟨left, cnt, b1, b2, rfl, rfl, hrg, hLR, hw⟩ := hrel
    clear hrg0 hg0 hs0
    have HLR := Lib.hid hLR
    have hwsz := hw.size
    have HW := Lib.hid hw
    clear hLR hw
    cases b1 <;> cases b2
    all_goals
      go_wp2_with (first | (at_next; refine wpList_next_ranges_ii _ rfl _ rfl 3 3 .i64 .i64 lawInt Try.underlying3 Try.underlying3 (w.heap.size + 1 + 1) w2.heap.size N2 _ _ _ rfl hrg ?_ ?_))
      · intro _ hl0
        obtain ⟨d1, d2⟩ := LR.done HLR.out HhMF2.out hl0
        obtain ⟨e1, e2⟩ := HE.out _ _ d1 d2
        have HE1 := Lib.hid e1
        have HE2 := Lib.hid e2
        clear hl0 d1 d2 e1 e2
        go_wp2_with fail
        go_ret2
        exact ⟨rbool2 HE1.out HE2.out, HW.out⟩
      · intro x c w4 cnt1 hwx hwc hlx hat hrg1 hlt hg1 hs1 hen
        have HS := Lib.hid (LR.step HLR.out HhMF2.out hwx hlx hat)
        have HW4 := Lib.hid (HW.out.grown hg1 hwsz (fun k hk => by cases hk; exact Nat.le_trans hsz2 (Nat.le_refl _)))
        clear hwx hwc hlx hat hg1 hs1
        go_wp2_with fail
        all_goals
          go_roundw
          case rel => exact ⟨_, cnt1, _, _, rfl, rfl, hrg1, by simpa using HS.out, HW4.out⟩
          case measure => rw [hrg1.left_eq, hrg.left_eq]; exact hlt
end Go.Proofs.Ytmdpiafeiopimaa

/- The walks through the program's order of Knuth and Bendix: a term's weight. -/
namespace Go.Proofs.Ytmdpiafeiopimaa
open Go.RowKit Go.Sort Go
set_option maxRecDepth 100000 in
theorem weigh_any (o : Od) (t : T) (w : World) (vo v : Value) (hk : o.knows t = true) (ho : IsOd w o vo) (hv : IsT w t v) :
    Calls Try.prog 66 #[vo, v] w fun e w' => e = .returned (.int .i64 (o.weight t)) ∧ Below w.heap.size w w' := by
  obtain ⟨a3, a4, c3, c4, rfl, n1, n2, n3, n4, p1, p2, p3⟩ := ho
  have hv0 := hv
  obtain ⟨_, a1, c1, rfl, _, _, _⟩ := hv.form
  have C := fun W x Bo Bn Bw => weigh1_any o w t _ hv0 hk W x Bo Bn Bw a3 a4 c3 c4
  have HC := Lib.hid C
  have E := Lib.hid (show o.weight t = min (o.raw t) Od.most by rw [Od.weight])
  clear C hk hv hv0
  go_enter Try.func66, Try.ntmps66
  go_wp2_with fail
  refine (HC.out _ 0 _ _ _ ?c1 (by omega) (by omega) (by omega) n3 n4 p2 p3 ?c2 ?c3 ?c4 (by omega) (by omega)).mono ?_
  case c1 => exact bstep (balloc2 _ _ _) (balloc2 _ _ _)
  case c2 => exact (((Box.new _ _ _).alloc _).alloc _).alloc _
  case c3 => exact Box.new' (by simp)
  case c4 => exact (Below.heap_alloc _ _ _ (by simp)).trans (heap_new' (by simp))
  rintro e w' ⟨rfl, hn, hg⟩
  have hc := cell_of_one hn
  have hb := gbelow (bstep (balloc2 w _ _) (balloc2 _ _ _)) hg (by omega)
  have Hhb := Lib.hid hb
  clear hb
  clear hn hg
  go_wp2_with fail
  go_ret
  exact ⟨rint E.out, Hhb.out⟩
end Go.Proofs.Ytmdpiafeiopimaa

/- The walks through the program's order of Knuth and Bendix: around, turned. -/
namespace Go.Proofs.Ytmdpiafeiopimaa
open Go.RowKit Go.Sort Go
/-- What is left when symbols all the same are peeled off. -/
def Od.peel (f v : Int) : T → Bool
  | .mk g [a] => if g = f then Od.peel f v a else g == v
  | .mk g _ => g == v
theorem Od.peel_eq (f v : Int) (hne : f ≠ v) : ∀ t, Od.peel f v t = (t.f == v || Od.around f v t)
  | .mk g [a] => by
    rw [Od.peel, Od.around, Od.peel_eq f v hne a]
    by_cases e : g = f
    · subst e; simp [hne]
    · simp [e]
  | .mk g [] => by simp [Od.peel, Od.around]
  | .mk g (a :: b :: r) => by simp [Od.peel, Od.around]
theorem Od.peel_top (v : Int) (t : T) (hne : t.f ≠ v) : Od.peel t.f v t = Od.around t.f v t := by
  rw [Od.peel_eq t.f v hne]; simp [hne]
theorem around_any (v : Int) (t : T) (w : World) (u : Value) (hne : t.f ≠ v) (hu : IsT w t u) :
    Calls Try.prog 67 #[u, .int .i64 v] w fun e w' => e = .returned (.bool (Od.around t.f v t)) ∧ Below w.heap.size w w' := by
  have E := Lib.hid (Od.peel_top v t hne)
  have hu0 := hu
  obtain ⟨hi, a, c, rfl, hc, hm, hl⟩ := hu.form
  have hu0 := Lib.hid hu
  unfold maxLen at hm
  clear hu hl hne
  go_enter Try.func67, Try.ntmps67
  go_wp2_with fail
  go_loopg [] t.size (fun m wr => ∃ (s : T) (a : Option Addr) (c : Nat), s.size ≤ m ∧ Hid (IsT w s (.agg #[.int .i64 s.f, .slice a s.args.length c])) ∧ Hid (Od.peel t.f v t = Od.peel t.f v s) ∧ Below w.heap.size w wr ∧ Blk wr w.heap.size 30 #[.int .i64 s.f, .slice a s.args.length c])
  case atStart => exact ⟨t, a, c, Nat.le_refl _, hu0, rfl, balloc _ _, Blk.new' rfl⟩
  case round =>
    obtain ⟨s, a', c', hsz, hs, hx, hw, hB⟩ := hrel
    have k0 := hB.cell 0
    have k1 := hB.cell 1
    have z0 := hB.frozen 0
    have z1 := hB.frozen 1
    simp only [List.getElem?_toArray, List.getElem?_cons_zero, List.getElem?_cons_succ] at k0 k1
    obtain ⟨g, l⟩ := s
    simp only [T.f_mk, T.args_mk] at *
    by_cases hg : g = t.f
    · rcases l with _ | ⟨x, _ | ⟨y, r⟩⟩
      · have HV := Lib.hid (show (g == v) = Od.around t.f v t by rw [← E.out, hx.out]; simp [Od.peel])
        have hgb : (g == t.f) = true := by simpa using hg
        have Hhw := Lib.hid hw
        have HhB := Lib.hid hB
        clear hw hB
        clear hs hx hg
        go_wp2_with fail
        go_ret
        exact ⟨rbool HV.out.symm, Hhw.out⟩
      · have hgb : (g == t.f) = true := by simpa using hg
        obtain ⟨_, a1, c1, e1, _, _, hl⟩ := hs.out
        simp only [Value.agg.injEq, Array.mk.injEq, List.cons.injEq, and_true, true_and, Value.slice.injEq] at e1
        obtain ⟨rfl, rfl⟩ := e1
        obtain ⟨b, oo, a2, c2, rfl, g1, g2, h3⟩ := hl.at2 hw 0 (by simp)
        have hx2 := Lib.hid (show Od.peel t.f v t = Od.peel t.f v x by rw [hx.out, Od.peel, if_pos hg])
        rw [T.size, T.sizeL, T.sizeL] at hsz
        simp only [List.getElem_cons_zero, Nat.zero_mul, Nat.add_zero, List.length_cons, List.length_nil, Nat.zero_add] at g1 g2 h3 k1 hB
        have hsx : x.size < gk := by omega
        have Hhw := Lib.hid hw
        have HhB := Lib.hid hB
        have Hh3 := Lib.hid h3
        clear hw hB h3
        clear hl hx hs hg hsz
        go_wp2_with fail
        go_roundg (gk - 1)
        case measure => omega
        case rel => exact ⟨x, a2, c2, by omega, Hh3.out, hx2.out, (Hhw.out.setCell (p := ⟨w.heap.size, 0, none⟩) (Nat.le_refl _) _).setCell (p := ⟨w.heap.size, 1, none⟩) (Nat.le_refl _) _, by simpa using (HhB.out.set_ 0 _).set_ 1 _⟩
      · have HV := Lib.hid (show (g == v) = Od.around t.f v t by rw [← E.out, hx.out]; simp [Od.peel])
        have hgb : (g == t.f) = true := by simpa using hg
        have hln : ((((x :: y :: r).length : Nat) : Int) == 1) = false := by simp; omega
        generalize (x :: y :: r).length = n at *
        have Hhw := Lib.hid hw
        have HhB := Lib.hid hB
        clear hw hB
        clear hs hx hg
        go_wp2_with fail
        go_ret
        exact ⟨rbool HV.out.symm, Hhw.out⟩
    · have HV := Lib.hid (show (g == v) = Od.around t.f v t by
        rw [← E.out, hx.out]
        rcases l with _ | ⟨x, _ | ⟨y, r⟩⟩
        · simp [Od.peel]
        · rw [Od.peel, if_neg hg]
        · simp [Od.peel])
      have hgb : (g == t.f) = false := by simpa using hg
      have Hhw := Lib.hid hw
      have HhB := Lib.hid hB
      clear hw hB
      clear hs hx hg
      go_wp2_with fail
      go_ret
      exact ⟨rbool HV.out.symm, Hhw.out⟩
theorem turned_any (r : Int) (w : World) (h0 : 0 ≤ r) (h3 : r ≤ 3) :
    Calls Try.prog 68 #[.int .i64 r] w fun e w' => e = .returned (.int .i64 (Od.turned r)) ∧ Below w.heap.size w w' := by
  have i0 : ∀ w, (Instr.index 91 (.agg #[.int .i64 0, .int .i64 3, .int .i64 2, .int .i64 1]) (.int .i64 0)).run Try.prog w = .ok (.int .i64 0) w := fun _ => by kernel_rfl
  have i1 : ∀ w, (Instr.index 91 (.agg #[.int .i64 0, .int .i64 3, .int .i64 2, .int .i64 1]) (.int .i64 1)).run Try.prog w = .ok (.int .i64 3) w := fun _ => by kernel_rfl
  have i2 : ∀ w, (Instr.index 91 (.agg #[.int .i64 0, .int .i64 3, .int .i64 2, .int .i64 1]) (.int .i64 2)).run Try.prog w = .ok (.int .i64 2) w := fun _ => by kernel_rfl
  have i3 : ∀ w, (Instr.index 91 (.agg #[.int .i64 0, .int .i64 3, .int .i64 2, .int .i64 1]) (.int .i64 3)).run Try.prog w = .ok (.int .i64 1) w := fun _ => by kernel_rfl
  have hr : r = 0 ∨ r = 1 ∨ r = 2 ∨ r = 3 := by omega
  rcases hr with rfl | rfl | rfl | rfl
  all_goals
    go_enter Try.func68, Try.ntmps68
    go_wp2_with fail
    go_ret
    exact ⟨rint (by simp [Od.turned]), Below.refl _ _⟩
end Go.Proofs.Ytmdpiafeiopimaa

/- The walks through the program's order of Knuth and Bendix: the reason why one term stands above another, and the comparison. -/
namespace Go.Proofs.Ytmdpiafeiopimaa
open Go.RowKit Go.Sort Go
theorem Od.reasonL_drop (o : Od) (l q : List T) (k : Nat) (h : k < l.length) (h' : k < q.length) : o.reasonL (l.drop k) (q.drop k) = if T.same l[k] q[k] then o.reasonL (l.drop (k + 1)) (q.drop (k + 1)) else o.cmp l[k] q[k] := by
  rw [List.drop_eq_getElem_cons h, List.drop_eq_getElem_cons h', Od.reasonL]
theorem Od.reasonL_long (o : Od) (l q : List T) (h : q.length < l.length) : o.reasonL (l.drop q.length) (q.drop q.length) = 3 := by
  rw [List.drop_eq_getElem_cons h, List.drop_eq_nil_of_le (Nat.le_refl _), Od.reasonL]
theorem Od.reasonL_short (o : Od) (l q : List T) (_h : l.length ≤ q.length) : o.reasonL (l.drop l.length) (q.drop l.length) = 1 := by
  rw [List.drop_eq_nil_of_le (Nat.le_refl _)]
  cases q.drop l.length <;> rfl
theorem Od.reason_eq (o : Od) (f g : Int) (l q : List T) : o.reason (.mk f l) (.mk g q) =
  if o.weight (.mk g q) < o.weight (.mk f l) then 3 else if o.weight (.mk f l) < o.weight (.mk g q) then 1
  else if f < 0 ∧ g < 0 then 0
  else if g < 0 then (if around f g (.mk f l) then 3 else 0)
  else if f < 0 then (if around g f (.mk g q) then 1 else 0)
  else if f ≠ g then (if o.rank g < o.rank f then 3 else if o.rank f < o.rank g then 1 else 0)
  else reasonL o l q := rfl
theorem Od.reason_range (o : Od) (s t : T) : 0 ≤ o.reason s t ∧ o.reason s t ≤ 3 := by
  have hL : ∀ l k, 0 ≤ o.reasonL l k ∧ o.reasonL l k ≤ 3 := by
    intro l
    induction l with
    | nil => intro k; cases k <;> simp [Od.reasonL]
    | cons a r ih =>
      intro k
      cases k with
      | nil => simp [Od.reasonL]
      | cons b k =>
        rw [Od.reasonL]
        split
        · exact ih k
        · rcases o.cmp_range a b with h | h | h | h <;> omega
  have := hL s.args t.args
  unfold Od.reason
  (repeat' split) <;> omega
set_option maxRecDepth 100000 in
set_option maxHeartbeats 1000000 in
theorem reasonV_any (o : Od) (s t : T) (w : World) (vo v u : Value) (ht : t.f < 0) (ks : o.knows s = true) (kt : o.knows t = true) (ho : IsOd w o vo) (hv : IsT w s v) (hu : IsT w t u) :
    Calls Try.prog 60 #[vo, v, u] w fun e w' => e = .returned (.int .i64 (o.reason s t)) ∧ Below w.heap.size w w' := by
  obtain ⟨f, l⟩ := s
  obtain ⟨g, q⟩ := t
  rw [T.f_mk] at ht
  have A := fun w u h => around_any g (.mk f l) w u h
  rw [T.f_mk] at A
  have ho0 := ho
  have hv0 := hv
  have hu0 := hu
  obtain ⟨a3, a4, c3, c4, rfl, n1, n2, n3, n4, p1, p2, _⟩ := ho
  obtain ⟨⟨hf1, hf2⟩, a1, c1, rfl, hc1, hm1, hl⟩ := hv
  obtain ⟨⟨hg1, hg2⟩, a2, c2, rfl, hc2, hm2, hq⟩ := hu
  unfold maxLen at hm1 hm2 n2 n4
  have W1 := fun w vo v => weigh_any o (.mk f l) w vo v ks
  have W2 := fun w vo v => weigh_any o (.mk g q) w vo v kt
  have KS := Od.knows_args ks
  have KT := Od.knows_args kt
  have E := o.reason_eq f g l q
  generalize hca : o.reason (.mk f l) (.mk g q) = ab at E ⊢
  generalize hcw1 : o.weight (.mk f l) = x at *
  generalize hcw2 : o.weight (.mk g q) = y at *
  have HE := Lib.hid E
  have Hho0 := Lib.hid ho0
  have Hhv0 := Lib.hid hv0
  have Hhu0 := Lib.hid hu0
  have HKS := Lib.hid KS
  have HKT := Lib.hid KT
  clear ho0 hv0 hu0 KS KT
  clear E hca hcw1 hcw2 ks kt
  go_enter Try.func60, Try.ntmps60
  go_wp2_with fail
  obtain ⟨B1, B2, B3, hw⟩ := box3 (Below.refl _ (((w.alloc (.cells #[.bool o.lpo, .slice a3 o.prec.length c3, .slice a4 o.weights.length c4, .int .i64 o.var] 27)).alloc (.cells #[.int .i64 f, .slice a1 l.length c1] 30)).alloc (.cells #[.int .i64 g, .slice a2 q.length c2] 30)))
  generalize ((w.alloc (.cells #[.bool o.lpo, .slice a3 o.prec.length c3, .slice a4 o.weights.length c4, .int .i64 o.var] 27)).alloc (.cells #[.int .i64 f, .slice a1 l.length c1] 30)).alloc (.cells #[.int .i64 g, .slice a2 q.length c2] 30) = W0 at B1 B2 B3 hw ⊢
  obtain ⟨u0, u1, u2, u3⟩ := B1.four
  obtain ⟨s0, s1⟩ := B2.two
  obtain ⟨t0, t1⟩ := B3.two
  have r0 := cell_regrown u0
  have r1 := cell_regrown u1
  have r2 := cell_regrown u2
  have r3 := cell_regrown u3
  have r4 := cell_regrown s0
  have r5 := cell_regrown s1
  have r6 := cell_regrown t0
  have r7 := cell_regrown t1
  have Hhw := Lib.hid hw
  have HB1 := Lib.hid B1
  have HB2 := Lib.hid B2
  have HB3 := Lib.hid B3
  clear hw B1 B2 B3
  refine wp_region_quiet_below (by kernel_rfl) (by kernel_rfl) ?_
  repeat (quiet_step (first | exact Calls.regrown_of (W1 _ _ _ (Hho0.out.below (bstep Hhw.out (below_regrown _ _ _))) (Hhv0.out.below (bstep Hhw.out (below_regrown _ _ _)))) | exact Calls.regrown_of (W2 _ _ _ (Hho0.out.below (bstep Hhw.out (below_regrown _ _ _))) (Hhu0.out.below (bstep Hhw.out (below_regrown _ _ _))))))
  refine wpQuiet_nil ?_
  intro _ hw'
  obtain ⟨⟨dq, osq⟩, hw''⟩ := hw'
  subst hw''
  have hbq := below_regrown W0 dq osq
  generalize grow (redrawn W0 dq) osq = wq at hbq ⊢
  clear r0 r1 r2 r3 r4 r5 r6 r7 u0 u1 u2 u3 s0 s1 t0 t1 W1 W2
  have hw1 := bstep Hhw.out hbq
  have C1 := HB1.out.below hbq
  have C2 := HB2.out.below hbq
  have C3 := HB3.out.below hbq
  obtain ⟨u0, u1, u2, u3⟩ := C1.four
  obtain ⟨s0, s1⟩ := C2.two
  obtain ⟨t0, t1⟩ := C3.two
  clear hbq Hhw HB1 HB2 HB3
  have Hhw1 := Lib.hid hw1
  have HC1 := Lib.hid C1
  have HC2 := Lib.hid C2
  have HC3 := Lib.hid C3
  clear hw1 C1 C2 C3
  clear hl hq p1 p2 HKS HKT
  by_cases hyx : y < x
  · have HV := Lib.hid (show ab = 3 by rw [HE.out, if_pos hyx])
    go_wp2_with fail
    go_ret
    exact ⟨rint HV.out, Hhw1.out⟩
  · by_cases hxy : x < y
    · have HV := Lib.hid (show ab = 1 by rw [HE.out, if_neg hyx, if_pos hxy])
      go_wp2_with fail
      go_ret
      exact ⟨rint HV.out, Hhw1.out⟩
    · by_cases hf : f < 0
      · have HV := Lib.hid (show ab = 0 by rw [HE.out, if_neg hyx, if_neg hxy, if_pos ⟨hf, ht⟩])
        go_wp2_with fail
        go_ret
        exact ⟨rint HV.out, Hhw1.out⟩
      · have HV : ab = if Od.around f g (.mk f l) = true then 3 else 0 := by rw [HE.out, if_neg hyx, if_neg hxy, if_neg (by omega), if_pos ht]
        have A := fun w u => A w u (by omega)
        cases har : Od.around f g (.mk f l) with
        | true =>
          rw [har] at A
          have HV := Lib.hid (show ab = 3 by rw [HV, har]; rfl)
          clear har
          go_wp2_with fail
          refine (A _ _ (Hhv0.out.below Hhw1.out)).mono ?_
          rintro e w2 ⟨rfl, hb2⟩
          go_wp2_with fail
          go_ret
          exact ⟨rint HV.out, bstep Hhw1.out hb2⟩
        | false =>
          rw [har] at A
          have HV := Lib.hid (show ab = 0 by rw [HV, har]; rfl)
          clear har
          go_wp2_with fail
          refine (A _ _ (Hhv0.out.below Hhw1.out)).mono ?_
          rintro e w2 ⟨rfl, hb2⟩
          go_wp2_with fail
          go_ret
          exact ⟨rint HV.out, bstep Hhw1.out hb2⟩
/-- The comparison's contract for one pair of terms. -/
def CmpOk (o : Od) (s t : T) : Prop := ∀ (w : World) (vo v u : Value), s.size ≤ 4294967296 → t.size ≤ 4294967296 → o.knows s = true → o.knows t = true → IsOd w o vo → IsT w s v → IsT w t u →
    Calls Try.prog 53 #[vo, v, u] w fun e w' => e = .returned (.int .i64 (o.cmp s t)) ∧ Below w.heap.size w w'
set_option maxRecDepth 100000 in
set_option maxHeartbeats 4000000 in
theorem reason_any (o : Od) (s t : T) (w : World) (vo v u : Value) (zs : s.size ≤ 4294967296) (zt : t.size ≤ 4294967296) (ks : o.knows s = true) (kt : o.knows t = true) (ho : IsOd w o vo) (hv : IsT w s v) (hu : IsT w t u)
    (IHH : Hid (∀ a ∈ s.args, ∀ b, CmpOk o a b)) :
    Calls Try.prog 60 #[vo, v, u] w fun e w' => e = .returned (.int .i64 (o.reason s t)) ∧ Below w.heap.size w w' := by
  by_cases ht : t.f < 0
  · exact reasonV_any o s t w vo v u ht ks kt ho hv hu
  · have RV := fun (hf : s.f < 0) w vo v u => reasonV_any o t s w vo v u hf kt ks
    obtain ⟨f, l⟩ := s
    obtain ⟨g, q⟩ := t
    rw [T.args_mk] at IHH
    rw [T.f_mk] at ht RV
    have RT : f < 0 → ¬ o.weight (.mk g q) < o.weight (.mk f l) → ¬ o.weight (.mk f l) < o.weight (.mk g q) → o.reason (.mk g q) (.mk f l) = if Od.around g f (.mk g q) = true then 3 else 0 := by
      intro h1 h2 h3
      rw [Od.reason_eq, if_neg h3, if_neg h2, if_neg (by omega), if_pos h1]
    have ho0 := ho
    have hv0 := hv
    have hu0 := hu
    obtain ⟨a3, a4, c3, c4, rfl, n1, n2, n3, n4, p1, p2, _⟩ := ho
    obtain ⟨⟨hf1, hf2⟩, a1, c1, rfl, hc1, hm1, hl⟩ := hv
    obtain ⟨⟨hg1, hg2⟩, a2, c2, rfl, hc2, hm2, hq⟩ := hu
    unfold maxLen at hm1 hm2 n2 n4
    have W1 := fun w vo v => weigh_any o (.mk f l) w vo v ks
    have W2 := fun w vo v => weigh_any o (.mk g q) w vo v kt
    have KS := Od.knows_args ks
    have KT := Od.knows_args kt
    have E := o.reason_eq f g l q
    generalize hca : o.reason (.mk f l) (.mk g q) = ab at E ⊢
    generalize hcw1 : o.weight (.mk f l) = x at *
    generalize hcw2 : o.weight (.mk g q) = y at *
    have HE := Lib.hid E
    have Hho0 := Lib.hid ho0
    have Hhv0 := Lib.hid hv0
    have Hhu0 := Lib.hid hu0
    have HKS := Lib.hid KS
    have HKT := Lib.hid KT
    clear ho0 hv0 hu0 KS KT
    clear E hca hcw1 hcw2 ks kt
    go_enter Try.func60, Try.ntmps60
    go_wp2_with fail
    obtain ⟨B1, B2, B3, hw⟩ := box3 (Below.refl _ (((w.alloc (.cells #[.bool o.lpo, .slice a3 o.prec.length c3, .slice a4 o.weights.length c4, .int .i64 o.var] 27)).alloc (.cells #[.int .i64 f, .slice a1 l.length c1] 30)).alloc (.cells #[.int .i64 g, .slice a2 q.length c2] 30)))
    generalize ((w.alloc (.cells #[.bool o.lpo, .slice a3 o.prec.length c3, .slice a4 o.weights.length c4, .int .i64 o.var] 27)).alloc (.cells #[.int .i64 f, .slice a1 l.length c1] 30)).alloc (.cells #[.int .i64 g, .slice a2 q.length c2] 30) = W0 at B1 B2 B3 hw ⊢
    obtain ⟨u0, u1, u2, u3⟩ := B1.four
    obtain ⟨s0, s1⟩ := B2.two
    obtain ⟨t0, t1⟩ := B3.two
    have r0 := cell_regrown u0
    have r1 := cell_regrown u1
    have r2 := cell_regrown u2
    have r3 := cell_regrown u3
    have r4 := cell_regrown s0
    have r5 := cell_regrown s1
    have r6 := cell_regrown t0
    have r7 := cell_regrown t1
    have Hhw := Lib.hid hw
    have HB1 := Lib.hid B1
    have HB2 := Lib.hid B2
    have HB3 := Lib.hid B3
    clear hw B1 B2 B3
    refine wp_region_quiet_below (by kernel_rfl) (by kernel_rfl) ?_
    repeat (quiet_step (first | exact Calls.regrown_of (W1 _ _ _ (Hho0.out.below (bstep Hhw.out (below_regrown _ _ _))) (Hhv0.out.below (bstep Hhw.out (below_regrown _ _ _)))) | exact Calls.regrown_of (W2 _ _ _ (Hho0.out.below (bstep Hhw.out (below_regrown _ _ _))) (Hhu0.out.below (bstep Hhw.out (below_regrown _ _ _))))))
    refine wpQuiet_nil ?_
    intro _ hw'
    obtain ⟨⟨dq, osq⟩, hw''⟩ := hw'
    subst hw''
    have hbq := below_regrown W0 dq osq
    generalize grow (redrawn W0 dq) osq = wq at hbq ⊢
    clear r0 r1 r2 r3 r4 r5 r6 r7 u0 u1 u2 u3 s0 s1 t0 t1 W1 W2
    have hw1 := bstep Hhw.out hbq
    have C1 := HB1.out.below hbq
    have C2 := HB2.out.below hbq
    have C3 := HB3.out.below hbq
    obtain ⟨u0, u1, u2, u3⟩ := C1.four
    obtain ⟨s0, s1⟩ := C2.two
    obtain ⟨t0, t1⟩ := C3.two
    clear hbq Hhw HB1 HB2 HB3
    have Hhw1 := Lib.hid hw1
    have HC1 := Lib.hid C1
    have HC2 := Lib.hid C2
    have HC3 := Lib.hid C3
    clear hw1 C1 C2 C3
    by_cases hyx : y < x
    · have HV := Lib.hid (show ab = 3 by rw [HE.out, if_pos hyx])
      clear RV RT hl hq p1 p2 HKS HKT IHH
      go_wp2_with fail
      go_ret
      exact ⟨rint HV.out, Hhw1.out⟩
    · by_cases hxy : x < y
      · have HV := Lib.hid (show ab = 1 by rw [HE.out, if_neg hyx, if_pos hxy])
        clear RV RT hl hq p1 p2 HKS HKT IHH
        go_wp2_with fail
        go_ret
        exact ⟨rint HV.out, Hhw1.out⟩
      · by_cases hf : f < 0
        · have RT := RT hf (by omega) (by omega)
          have RV := RV hf
          have HV : ab = if Od.around g f (.mk g q) = true then 1 else 0 := by rw [HE.out, if_neg (by omega), if_neg (by omega), if_neg (by omega), if_neg (by omega), if_pos hf]
          clear hl hq p1 p2 HKS HKT IHH
          cases har : Od.around g f (.mk g q) with
          | true =>
            rw [har] at RT HV
            rw [RT] at RV
            have HV := Lib.hid (show ab = Od.turned (if true = true then 3 else 0) by rw [HV]; rfl)
            clear har RT
            go_wp2_with fail
            refine (RV _ _ _ _ (Hho0.out.below Hhw1.out) (Hhu0.out.below Hhw1.out) (Hhv0.out.below Hhw1.out)).mono ?_
            rintro e w2 ⟨rfl, hb2⟩
            go_wp2_with (go_at_call 68; refine (turned_any _ _ (by decide) (by decide)).mono ?_; rintro e w3 ⟨rfl, hb3⟩)
            go_ret
            exact ⟨rint HV.out, bstep (bstep Hhw1.out hb2) hb3⟩
          | false =>
            rw [har] at RT HV
            rw [RT] at RV
            have HV := Lib.hid (show ab = Od.turned (if false = true then 3 else 0) by rw [HV]; rfl)
            clear har RT
            go_wp2_with fail
            refine (RV _ _ _ _ (Hho0.out.below Hhw1.out) (Hhu0.out.below Hhw1.out) (Hhv0.out.below Hhw1.out)).mono ?_
            rintro e w2 ⟨rfl, hb2⟩
            go_wp2_with (go_at_call 68; refine (turned_any _ _ (by decide) (by decide)).mono ?_; rintro e w3 ⟨rfl, hb3⟩)
            go_ret
            exact ⟨rint HV.out, bstep (bstep Hhw1.out hb2) hb3⟩
        · clear RV RT
          obtain ⟨z0, z1, z2, KA⟩ := HKS.out.resolve_left (by omega)
          obtain ⟨y0, y1, y2, KB⟩ := HKT.out.resolve_left (by omega)
          by_cases hfg : f = g
          · have HV := Lib.hid (show ab = o.reasonL l q by rw [HE.out, if_neg (by omega), if_neg (by omega), if_neg (by omega), if_neg (by omega), if_neg (by omega), if_neg (by simpa using hfg)])
            subst hfg
            have HKA := Lib.hid KA
            have HKB := Lib.hid KB
            clear KA KB HKS HKT HE p1 p2 ht
            rcases Nat.lt_or_ge q.length l.length with hql | hql
            · go_wp2_with fail
              clear u0 u1 u2 u3 s0 s1 t0 t1
              go_loopw [89] (fun i wr => ∃ (k : Nat), k ≤ l.length ∧ k ≤ q.length ∧ i = .int .i64 k ∧ Hid (o.reasonL l q = o.reasonL (l.drop k) (q.drop k)) ∧ Below w.heap.size w wr ∧
                Box wr w.heap.size [.bool o.lpo, .slice a3 o.prec.length c3, .slice a4 o.weights.length c4, .int .i64 o.var] ∧ Box wr (w.heap.size + 1) [.int .i64 f, .slice a1 l.length c1] ∧ Box wr (w.heap.size + 2) [.int .i64 f, .slice a2 q.length c2]) (fun i _ => l.length - (intOf i).toNat)
              case atStart => exact ⟨0, Nat.zero_le _, Nat.zero_le _, rfl, rfl, Hhw1.out, HC1.out, HC2.out, HC3.out⟩
              case round =>
                clear Hhw1 HC1 HC2 HC3
                obtain ⟨k, hk, hkq, rfl, hx, hw, hB1, hB2, hB3⟩ := hrel
                obtain ⟨u0, u1, u2, u3⟩ := hB1.four
                obtain ⟨s0, s1⟩ := hB2.two
                obtain ⟨t0, t1⟩ := hB3.two
                by_cases hlt : k < l.length ∧ k < q.length
                · obtain ⟨hlt, hlq⟩ := hlt
                  obtain ⟨b1, o1, a5, c5, rfl, g1, g2, h3⟩ := hl.at_ hw k hlt
                  obtain ⟨b2, o2, a6, c6, rfl, g3, g4, h4⟩ := hq.at_ hw k hlq
                  have hml := List.getElem_mem hlt
                  have hmq := List.getElem_mem hlq
                  have S := fun w v u => same_any l[k] q[k] w v u
                  have IH := fun w vo v u => IHH.out l[k] hml q[k] w vo v u (by have := T.size_le_sizeL hml; rw [T.size] at zs; omega) (by have := T.size_le_sizeL hmq; rw [T.size] at zt; omega) (HKA.out _ hml) (HKB.out _ hmq)
                  have q5 := o.reasonL_drop l q k hlt hlq
                  have k0 : (0 : Int) ≤ (k : Int) := by omega
                  have k1 : (k : Int) < (l.length : Int) := by omega
                  have k2 : (k : Int) < (q.length : Int) := by omega
                  have r0 := cell_regrown u0
                  have r1 := cell_regrown u1
                  have r2 := cell_regrown u2
                  have r3 := cell_regrown u3
                  have r5 := cell_regrown s1
                  have r7 := cell_regrown t1
                  have r8 := cell_regrown g1
                  have r9 := cell_regrown g2
                  have r10 := cell_regrown g3
                  have r11 := cell_regrown g4
                  cases hz : T.same l[k] q[k] with
                  | true =>
                    rw [hz] at S
                    have Hh3 := Lib.hid h3
                    have Hh4 := Lib.hid h4
                    have HhB1 := Lib.hid hB1
                    have HhB2 := Lib.hid hB2
                    have HhB3 := Lib.hid hB3
                    have Hhw := Lib.hid hw
                    have Hq5 := Lib.hid q5
                    have Hhx := Lib.hid hx
                    have Hhz := Lib.hid hz
                    clear h3 h4 hB1 hB2 hB3 hw q5 hx hz
                    clear IHH hl hq IH
                    go_wp2_with fail
                    refine wp_region_quiet_below (by kernel_rfl) (by kernel_rfl) ?_
                    repeat (quiet_step (exact Calls.regrown_of (S _ _ _ (Hh3.out.below (below_regrown _ _ _)) (Hh4.out.below (below_regrown _ _ _)))))
                    refine wpQuiet_nil ?_
                    intro _ hw'
                    obtain ⟨⟨dq, osq⟩, hw''⟩ := hw'
                    subst hw''
                    have hbq := below_regrown wr dq osq
                    generalize grow (redrawn wr dq) osq = wq at hbq ⊢
                    go_wp2_with fail
                    go_roundw
                    case rel => exact ⟨k + 1, by omega, by omega, by go_num, by unfold Hid; rw [Hhx.out, Hq5.out, if_pos Hhz.out], bstep Hhw.out hbq, HhB1.out.below hbq, HhB2.out.below hbq, HhB3.out.below hbq⟩
                    case measure => simp [intOf]; omega
                  | false =>
                    rw [hz] at S
                    have Hh3 := Lib.hid h3
                    have Hh4 := Lib.hid h4
                    have HhB1 := Lib.hid hB1
                    have HhB2 := Lib.hid hB2
                    have HhB3 := Lib.hid hB3
                    have Hhw := Lib.hid hw
                    have Hq5 := Lib.hid q5
                    have Hhx := Lib.hid hx
                    have Hhz := Lib.hid hz
                    clear h3 h4 hB1 hB2 hB3 hw q5 hx hz
                    clear IHH hl hq
                    go_wp2_with fail
                    refine wp_region_quiet_below (by kernel_rfl) (by kernel_rfl) ?_
                    repeat (quiet_step (exact Calls.regrown_of (S _ _ _ (Hh3.out.below (below_regrown _ _ _)) (Hh4.out.below (below_regrown _ _ _)))))
                    refine wpQuiet_nil ?_
                    intro _ hw'
                    obtain ⟨⟨dq, osq⟩, hw''⟩ := hw'
                    subst hw''
                    have hbq := below_regrown wr dq osq
                    generalize grow (redrawn wr dq) osq = wq at hbq ⊢
                    clear r0 r1 r2 r3 r5 r7 r8 r9 r10 r11
                    have r0 := cell_regrown (bkeeps hbq _ _ u0)
                    have r1 := cell_regrown (bkeeps hbq _ _ u1)
                    have r2 := cell_regrown (bkeeps hbq _ _ u2)
                    have r3 := cell_regrown (bkeeps hbq _ _ u3)
                    have r5 := cell_regrown (bkeeps hbq _ _ s1)
                    have r7 := cell_regrown (bkeeps hbq _ _ t1)
                    have r8 := cell_regrown (bkeeps hbq _ _ g1)
                    have r9 := cell_regrown (bkeeps hbq _ _ g2)
                    have r10 := cell_regrown (bkeeps hbq _ _ g3)
                    have r11 := cell_regrown (bkeeps hbq _ _ g4)
                    have hb2 := Lib.hid hbq
                    clear hbq
                    go_wp2_with fail
                    refine wp_region_quiet_below (by kernel_rfl) (by kernel_rfl) ?_
                    repeat (quiet_step (exact Calls.regrown_of (IH _ _ _ _ (Hho0.out.below (bstep (bstep Hhw.out hb2.out) (below_regrown _ _ _))) ((Hh3.out.below hb2.out).below (below_regrown _ _ _)) ((Hh4.out.below hb2.out).below (below_regrown _ _ _)))))
                    refine wpQuiet_nil ?_
                    intro _ hw'
                    obtain ⟨⟨dq, osq⟩, hw''⟩ := hw'
                    subst hw''
                    have hbq := below_regrown wq dq osq
                    generalize grow (redrawn wq dq) osq = wq at hbq ⊢
                    go_wp2_with fail
                    go_ret
                    exact ⟨rint (by rw [HV.out, Hhx.out, Hq5.out, if_neg (by rw [Hhz.out]; simp)]), bstep (bstep Hhw.out hb2.out) hbq⟩
                · obtain rfl : k = q.length := by omega
                  have Q := Lib.hid (o.reasonL_long l q hql)
                  have Hhw := Lib.hid hw
                  have Hhx := Lib.hid hx
                  have Hhlt := Lib.hid hlt
                  clear hw hx hlt
                  clear IHH hl hq
                  go_wp2_with fail
                  go_ret
                  exact ⟨rint (by rw [HV.out, Hhx.out, Q.out]), Hhw.out⟩
            · go_wp2_with fail
              clear u0 u1 u2 u3 s0 s1 t0 t1
              go_loopw [89] (fun i wr => ∃ (k : Nat), k ≤ l.length ∧ k ≤ q.length ∧ i = .int .i64 k ∧ Hid (o.reasonL l q = o.reasonL (l.drop k) (q.drop k)) ∧ Below w.heap.size w wr ∧
                Box wr w.heap.size [.bool o.lpo, .slice a3 o.prec.length c3, .slice a4 o.weights.length c4, .int .i64 o.var] ∧ Box wr (w.heap.size + 1) [.int .i64 f, .slice a1 l.length c1] ∧ Box wr (w.heap.size + 2) [.int .i64 f, .slice a2 q.length c2]) (fun i _ => l.length - (intOf i).toNat)
              case atStart => exact ⟨0, Nat.zero_le _, Nat.zero_le _, rfl, rfl, Hhw1.out, HC1.out, HC2.out, HC3.out⟩
              case round =>
                clear Hhw1 HC1 HC2 HC3
                obtain ⟨k, hk, hkq, rfl, hx, hw, hB1, hB2, hB3⟩ := hrel
                obtain ⟨u0, u1, u2, u3⟩ := hB1.four
                obtain ⟨s0, s1⟩ := hB2.two
                obtain ⟨t0, t1⟩ := hB3.two
                by_cases hlt : k < l.length ∧ k < q.length
                · obtain ⟨hlt, hlq⟩ := hlt
                  obtain ⟨b1, o1, a5, c5, rfl, g1, g2, h3⟩ := hl.at_ hw k hlt
                  obtain ⟨b2, o2, a6, c6, rfl, g3, g4, h4⟩ := hq.at_ hw k hlq
                  have hml := List.getElem_mem hlt
                  have hmq := List.getElem_mem hlq
                  have S := fun w v u => same_any l[k] q[k] w v u
                  have IH := fun w vo v u => IHH.out l[k] hml q[k] w vo v u (by have := T.size_le_sizeL hml; rw [T.size] at zs; omega) (by have := T.size_le_sizeL hmq; rw [T.size] at zt; omega) (HKA.out _ hml) (HKB.out _ hmq)
                  have q5 := o.reasonL_drop l q k hlt hlq
                  have k0 : (0 : Int) ≤ (k : Int) := by omega
                  have k1 : (k : Int) < (l.length : Int) := by omega
                  have k2 : (k : Int) < (q.length : Int) := by omega
                  have r0 := cell_regrown u0
                  have r1 := cell_regrown u1
                  have r2 := cell_regrown u2
                  have r3 := cell_regrown u3
                  have r5 := cell_regrown s1
                  have r7 := cell_regrown t1
                  have r8 := cell_regrown g1
                  have r9 := cell_regrown g2
                  have r10 := cell_regrown g3
                  have r11 := cell_regrown g4
                  cases hz : T.same l[k] q[k] with
                  | true =>
                    rw [hz] at S
                    have Hh3 := Lib.hid h3
                    have Hh4 := Lib.hid h4
                    have HhB1 := Lib.hid hB1
                    have HhB2 := Lib.hid hB2
                    have HhB3 := Lib.hid hB3
                    have Hhw := Lib.hid hw
                    have Hq5 := Lib.hid q5
                    have Hhx := Lib.hid hx
                    have Hhz := Lib.hid hz
                    clear h3 h4 hB1 hB2 hB3 hw q5 hx hz
                    clear IHH hl hq IH
                    go_wp2_with fail
                    refine wp_region_quiet_below (by kernel_rfl) (by kernel_rfl) ?_
                    repeat (quiet_step (exact Calls.regrown_of (S _ _ _ (Hh3.out.below (below_regrown _ _ _)) (Hh4.out.below (below_regrown _ _ _)))))
                    refine wpQuiet_nil ?_
                    intro _ hw'
                    obtain ⟨⟨dq, osq⟩, hw''⟩ := hw'
                    subst hw''
                    have hbq := below_regrown wr dq osq
                    generalize grow (redrawn wr dq) osq = wq at hbq ⊢
                    go_wp2_with fail
                    go_roundw
                    case rel => exact ⟨k + 1, by omega, by omega, by go_num, by unfold Hid; rw [Hhx.out, Hq5.out, if_pos Hhz.out], bstep Hhw.out hbq, HhB1.out.below hbq, HhB2.out.below hbq, HhB3.out.below hbq⟩
                    case measure => simp [intOf]; omega
                  | false =>
                    rw [hz] at S
                    have Hh3 := Lib.hid h3
                    have Hh4 := Lib.hid h4
                    have HhB1 := Lib.hid hB1
                    have HhB2 := Lib.hid hB2
                    have HhB3 := Lib.hid hB3
                    have Hhw := Lib.hid hw
                    have Hq5 := Lib.hid q5
                    have Hhx := Lib.hid hx
                    have Hhz := Lib.hid hz
                    clear h3 h4 hB1 hB2 hB3 hw q5 hx hz
                    clear IHH hl hq
                    go_wp2_with fail
                    refine wp_region_quiet_below (by kernel_rfl) (by kernel_rfl) ?_
                    repeat (quiet_step (exact Calls.regrown_of (S _ _ _ (Hh3.out.below (below_regrown _ _ _)) (Hh4.out.below (below_regrown _ _ _)))))
                    refine wpQuiet_nil ?_
                    intro _ hw'
                    obtain ⟨⟨dq, osq⟩, hw''⟩ := hw'
                    subst hw''
                    have hbq := below_regrown wr dq osq
                    generalize grow (redrawn wr dq) osq = wq at hbq ⊢
                    clear r0 r1 r2 r3 r5 r7 r8 r9 r10 r11
                    have r0 := cell_regrown (bkeeps hbq _ _ u0)
                    have r1 := cell_regrown (bkeeps hbq _ _ u1)
                    have r2 := cell_regrown (bkeeps hbq _ _ u2)
                    have r3 := cell_regrown (bkeeps hbq _ _ u3)
                    have r5 := cell_regrown (bkeeps hbq _ _ s1)
                    have r7 := cell_regrown (bkeeps hbq _ _ t1)
                    have r8 := cell_regrown (bkeeps hbq _ _ g1)
                    have r9 := cell_regrown (bkeeps hbq _ _ g2)
                    have r10 := cell_regrown (bkeeps hbq _ _ g3)
                    have r11 := cell_regrown (bkeeps hbq _ _ g4)
                    have hb2 := Lib.hid hbq
                    clear hbq
                    go_wp2_with fail
                    refine wp_region_quiet_below (by kernel_rfl) (by kernel_rfl) ?_
                    repeat (quiet_step (exact Calls.regrown_of (IH _ _ _ _ (Hho0.out.below (bstep (bstep Hhw.out hb2.out) (below_regrown _ _ _))) ((Hh3.out.below hb2.out).below (below_regrown _ _ _)) ((Hh4.out.below hb2.out).below (below_regrown _ _ _)))))
                    refine wpQuiet_nil ?_
                    intro _ hw'
                    obtain ⟨⟨dq, osq⟩, hw''⟩ := hw'
                    subst hw''
                    have hbq := below_regrown wq dq osq
                    generalize grow (redrawn wq dq) osq = wq at hbq ⊢
                    go_wp2_with fail
                    go_ret
                    exact ⟨rint (by rw [HV.out, Hhx.out, Hq5.out, if_neg (by rw [Hhz.out]; simp)]), bstep (bstep Hhw.out hb2.out) hbq⟩
                · obtain rfl : k = l.length := by omega
                  have Q := Lib.hid (o.reasonL_short l q hql)
                  have Hhw := Lib.hid hw
                  have Hhx := Lib.hid hx
                  have Hhlt := Lib.hid hlt
                  clear hw hx hlt
                  clear IHH hl hq
                  go_wp2_with fail
                  go_ret
                  exact ⟨rint (by rw [HV.out, Hhx.out, Q.out]), Hhw.out⟩
          · have HV : ab = (if o.rank g < o.rank f then 3 else if o.rank f < o.rank g then 1 else 0) := by rw [HE.out, if_neg (by omega), if_neg (by omega), if_neg (by omega), if_neg (by omega), if_neg (by omega), if_pos (by simpa using hfg)]
            have hfgb : (f != g) = true := by simpa using hfg
            obtain ⟨b5, o5, rfl, g5, _⟩ := p1.at_ Hhw1.out f.toNat (by omega)
            obtain ⟨b6, o6, e6, g6, _⟩ := p1.at_ Hhw1.out g.toNat (by omega)
            simp only [Option.some.injEq, Addr.mk.injEq, and_true] at e6
            obtain ⟨rfl, rfl⟩ := e6
            have R1 : o.rank f = o.prec[f.toNat]'(by omega) := by unfold Od.rank; simp [List.getD, show f.toNat < o.prec.length by omega]
            have R2 : o.rank g = o.prec[g.toNat]'(by omega) := by unfold Od.rank; simp [List.getD, show g.toNat < o.prec.length by omega]
            generalize o.prec[f.toNat]'(by omega) = pf at *
            generalize o.prec[g.toNat]'(by omega) = pg at *
            rw [R1, R2] at HV
            have r0 := cell_regrown u1
            have r1 := cell_regrown s0
            have r2 := cell_regrown t0
            have r3 := cell_regrown g5
            have r4 := cell_regrown g6
            clear HKS HKT hl hq p1 p2 hfg HE R1 R2 IHH
            by_cases hp1 : pg < pf
            · have HV := Lib.hid (show ab = 3 by rw [HV, if_pos hp1])
              go_wp2_with fail
              refine wp_region_quiet_below (by kernel_rfl) (by kernel_rfl) ?_
              repeat (quiet_step (fail))
              refine wpQuiet_nil ?_
              intro _ hw'
              obtain ⟨⟨dq, osq⟩, hw''⟩ := hw'
              subst hw''
              have hbq := below_regrown wq dq osq
              generalize grow (redrawn wq dq) osq = wq at hbq ⊢
              go_wp2_with fail
              go_ret
              exact ⟨rint HV.out, bstep Hhw1.out hbq⟩
            · by_cases hp2 : pf < pg
              · have HV := Lib.hid (show ab = 1 by rw [HV, if_neg hp1, if_pos hp2])
                go_wp2_with fail
                refine wp_region_quiet_below (by kernel_rfl) (by kernel_rfl) ?_
                repeat (quiet_step (fail))
                refine wpQuiet_nil ?_
                intro _ hw'
                obtain ⟨⟨dq, osq⟩, hw''⟩ := hw'
                subst hw''
                have hbq := below_regrown wq dq osq
                generalize grow (redrawn wq dq) osq = wq at hbq ⊢
                have hb2 := Lib.hid hbq
                clear r0 r1 r2 r3 r4
                have r0 := cell_regrown (bkeeps hbq _ _ u1)
                have r1 := cell_regrown (bkeeps hbq _ _ s0)
                have r2 := cell_regrown (bkeeps hbq _ _ t0)
                have r3 := cell_regrown (bkeeps hbq _ _ g5)
                have r4 := cell_regrown (bkeeps hbq _ _ g6)
                clear hbq
                go_wp2_with fail
                refine wp_region_quiet_below (by kernel_rfl) (by kernel_rfl) ?_
                repeat (quiet_step (fail))
                refine wpQuiet_nil ?_
                intro _ hw'
                obtain ⟨⟨dq, osq⟩, hw''⟩ := hw'
                subst hw''
                have hbq := below_regrown wq dq osq
                generalize grow (redrawn wq dq) osq = wq at hbq ⊢
                go_wp2_with fail
                go_ret
                exact ⟨rint HV.out, bstep (bstep Hhw1.out hb2.out) hbq⟩
              · have HV := Lib.hid (show ab = 0 by rw [HV, if_neg hp1, if_neg hp2])
                go_wp2_with fail
                refine wp_region_quiet_below (by kernel_rfl) (by kernel_rfl) ?_
                repeat (quiet_step (fail))
                refine wpQuiet_nil ?_
                intro _ hw'
                obtain ⟨⟨dq, osq⟩, hw''⟩ := hw'
                subst hw''
                have hbq := below_regrown wq dq osq
                generalize grow (redrawn wq dq) osq = wq at hbq ⊢
                have hb2 := Lib.hid hbq
                clear r0 r1 r2 r3 r4
                have r0 := cell_regrown (bkeeps hbq _ _ u1)
                have r1 := cell_regrown (bkeeps hbq _ _ s0)
                have r2 := cell_regrown (bkeeps hbq _ _ t0)
                have r3 := cell_regrown (bkeeps hbq _ _ g5)
                have r4 := cell_regrown (bkeeps hbq _ _ g6)
                clear hbq
                go_wp2_with fail
                refine wp_region_quiet_below (by kernel_rfl) (by kernel_rfl) ?_
                repeat (quiet_step (fail))
                refine wpQuiet_nil ?_
                intro _ hw'
                obtain ⟨⟨dq, osq⟩, hw''⟩ := hw'
                subst hw''
                have hbq := below_regrown wq dq osq
                generalize grow (redrawn wq dq) osq = wq at hbq ⊢
                go_wp2_with fail
                go_ret
                exact ⟨rint HV.out, bstep (bstep Hhw1.out hb2.out) hbq⟩
end Go.Proofs.Ytmdpiafeiopimaa

/- The walks through the program's order of Knuth and Bendix: the exported functions. -/
namespace Go.Proofs.Ytmdpiafeiopimaa
open Go.RowKit Go.Sort Go
set_option maxRecDepth 100000 in
theorem cmp_ok (o : Od) (s : T) : ∀ t, CmpOk o s t := by
  induction s using T.ind with
  | h f l ih =>
  intro t w vo v u zs zt ks kt ho hv hu
  have R := fun w vo v u h1 h2 h3 => reason_any o (.mk f l) t w vo v u zs zt ks kt h1 h2 h3 (fun a ha b => ih a ha b)
  have SM := fun w v u => same_any (.mk f l) t w v u
  have CT := fun w v u => counts_any o (.mk f l) t w v u zs zt ks kt
  have E := o.cmp_eq (.mk f l) t
  have RR := o.reason_range (.mk f l) t
  clear ih ks kt zs zt
  generalize T.mk f l = s at *
  generalize o.cmp s t = r at *
  generalize hre : o.reason s t = re at *
  clear hre
  obtain ⟨RR1, RR2⟩ := RR
  have ho0 := ho
  have hv0 := hv
  have hu0 := hu
  obtain ⟨a3, a4, c3, c4, rfl, n1, n2, n3, n4, _, _, _⟩ := ho
  obtain ⟨_, a1, c1, rfl, _, _, _⟩ := hv.form
  obtain ⟨_, a2, c2, rfl, _, _, _⟩ := hu.form
  clear hv hu
  cases hsm : T.same s t with
  | true =>
    rw [hsm] at SM E
    have HV := Lib.hid (show r = 2 by rw [E]; rfl)
    have Hho0 := Lib.hid ho0
    have Hhv0 := Lib.hid hv0
    have Hhu0 := Lib.hid hu0
    clear ho0 hv0 hu0
    clear E R CT hsm
    go_enter Try.func53, Try.ntmps53
    go_wp2_with fail
    refine (SM _ _ _ (Hhv0.out.below (bstep (balloc2 _ _ _) (balloc _ _))) (Hhu0.out.below (bstep (balloc2 _ _ _) (balloc _ _)))).mono ?_
    rintro e w1 ⟨rfl, hb1⟩
    go_wp2_with fail
    go_ret
    exact ⟨rint HV.out, bstep (bstep (balloc2 _ _ _) (balloc _ _)) hb1⟩
  | false =>
    rw [hsm] at SM E
    have E2 : r = if re = 3 ∧ Od.covers s t t = true then 3 else if re = 1 ∧ Od.covers t s s = true then 1 else 0 := by rw [E]; rfl
    clear E hsm
    have HE := Lib.hid E2
    clear E2
    have Hho0 := Lib.hid ho0
    have Hhv0 := Lib.hid hv0
    have Hhu0 := Lib.hid hu0
    clear ho0 hv0 hu0
    go_enter Try.func53, Try.ntmps53
    go_wp2_with fail
    refine (SM _ _ _ (Hhv0.out.below (bstep (balloc2 _ _ _) (balloc _ _))) (Hhu0.out.below (bstep (balloc2 _ _ _) (balloc _ _)))).mono ?_
    rintro e w1 ⟨rfl, hb1⟩
    obtain ⟨B1, B2, B3, hw1⟩ := box3 hb1
    clear hb1
    obtain ⟨u0, u1, u2, u3⟩ := B1.four
    obtain ⟨s0, s1⟩ := B2.two
    obtain ⟨t0, t1⟩ := B3.two
    have Hhw1 := Lib.hid hw1
    have HB1 := Lib.hid B1
    have HB2 := Lib.hid B2
    have HB3 := Lib.hid B3
    clear hw1 B1 B2 B3
    go_wp2_with fail
    refine (CT _ _ _ (Hhv0.out.below Hhw1.out) (Hhu0.out.below Hhw1.out)).mono ?_
    rintro e w2 ⟨rfl, hb2⟩
    clear u0 u1 u2 u3 s0 s1 t0 t1
    have hwn := bstep Hhw1.out hb2
    have C1 := HB1.out.below hb2
    have C2 := HB2.out.below hb2
    have C3 := HB3.out.below hb2
    clear hb2 Hhw1 HB1 HB2 HB3
    obtain ⟨u0, u1, u2, u3⟩ := C1.four
    obtain ⟨s0, s1⟩ := C2.two
    obtain ⟨t0, t1⟩ := C3.two
    have hw1 := hwn
    have B1 := C1
    have B2 := C2
    have B3 := C3
    clear hwn C1 C2 C3
    have Hhw1 := Lib.hid hw1
    have HB1 := Lib.hid B1
    have HB2 := Lib.hid B2
    have HB3 := Lib.hid B3
    clear hw1 B1 B2 B3
    go_wp2_with fail
    refine (R _ _ _ _ (Hho0.out.below Hhw1.out) (Hhv0.out.below Hhw1.out) (Hhu0.out.below Hhw1.out)).mono ?_
    rintro e w3 ⟨rfl, hb3⟩
    have hwf := Lib.hid (bstep Hhw1.out hb3)
    clear hb3 R CT SM
    by_cases h3 : re = 3
    · have hb3 : (re == 3) = true := by simpa using h3
      have hb1 : (re == 1) = false := by simp [h3]
      cases hc : Od.covers s t t with
      | true =>
        have HV := Lib.hid (show r = re by rw [HE.out, if_pos ⟨h3, hc⟩, h3])
        clear h3 hc
        go_wp2_with fail
        go_ret
        exact ⟨rint HV.out, hwf.out⟩
      | false =>
        have HV := Lib.hid (show r = 0 by rw [HE.out, if_neg (by rw [hc]; simp), if_neg (by omega)])
        clear h3 hc
        go_wp2_with fail
        go_ret
        exact ⟨rint HV.out, hwf.out⟩
    · have hb3 : (re == 3) = false := by simpa using h3
      by_cases h1 : re = 1
      · have hb1 : (re == 1) = true := by simpa using h1
        cases hc : Od.covers t s s with
        | true =>
          have HV := Lib.hid (show r = re by rw [HE.out, if_neg (by omega), if_pos ⟨h1, hc⟩, h1])
          clear h1 h3 hc
          go_wp2_with fail
          go_ret
          exact ⟨rint HV.out, hwf.out⟩
        | false =>
          have HV := Lib.hid (show r = 0 by rw [HE.out, if_neg (by omega), if_neg (by rw [hc]; simp)])
          clear h1 h3 hc
          go_wp2_with fail
          go_ret
          exact ⟨rint HV.out, hwf.out⟩
      · have hb1 : (re == 1) = false := by simpa using h1
        have HV := Lib.hid (show r = 0 by rw [HE.out, if_neg (by omega), if_neg (by omega)])
        clear h1 h3
        go_wp2_with fail
        go_ret
        exact ⟨rint HV.out, hwf.out⟩
set_option maxRecDepth 100000 in
theorem kCmp_any (o : Od) (s t : T) (w : World) (vo v u : Value) (zs : s.size ≤ 4294967296) (zt : t.size ≤ 4294967296) (ho : IsOd w o vo) (hv : IsT w s v) (hu : IsT w t u) :
    Calls Try.prog 37 #[vo, v, u] w fun e w' => e = .returned (.int .i64 (o.Cmp s t)) ∧ Below w.heap.size w w' := by
  have K1 := fun w vo v => knows_any o s w vo v
  have K2 := fun w vo v => knows_any o t w vo v
  have CC := fun w vo v u => cmp_ok o s t w vo v u zs zt
  have E : o.Cmp s t = if o.knows s && o.knows t then o.cmp s t else 0 := rfl
  have ho0 := ho
  have hv0 := hv
  have hu0 := hu
  obtain ⟨a3, a4, c3, c4, rfl, n1, n2, n3, n4, _, _, _⟩ := ho
  obtain ⟨_, a1, c1, rfl, _, _, _⟩ := hv.form
  obtain ⟨_, a2, c2, rfl, _, _, _⟩ := hu.form
  clear hv hu
  cases k1 : o.knows s with
  | false =>
    rw [k1] at K1 E
    have HE := Lib.hid (show o.Cmp s t = 0 by rw [E]; rfl)
    have Hho0 := Lib.hid ho0
    have Hhv0 := Lib.hid hv0
    have Hhu0 := Lib.hid hu0
    clear ho0 hv0 hu0
    clear E k1 K2 CC
    go_enter Try.func37, Try.ntmps37
    go_wp2_with fail
    refine (K1 _ _ _ (Hho0.out.below (bstep (balloc2 _ _ _) (balloc _ _))) (Hhv0.out.below (bstep (balloc2 _ _ _) (balloc _ _)))).mono ?_
    rintro e w1 ⟨rfl, hb1⟩
    go_wp2_with fail
    go_ret
    exact ⟨rint HE.out, bstep (bstep (balloc2 _ _ _) (balloc _ _)) hb1⟩
  | true =>
    cases k2 : o.knows t with
    | false =>
      rw [k1] at K1
      rw [k1, k2] at E
      rw [k2] at K2
      have HE := Lib.hid (show o.Cmp s t = 0 by rw [E]; rfl)
      have Hho0 := Lib.hid ho0
      have Hhv0 := Lib.hid hv0
      have Hhu0 := Lib.hid hu0
      clear ho0 hv0 hu0
      clear E k1 k2 CC
      go_enter Try.func37, Try.ntmps37
      go_wp2_with fail
      refine (K1 _ _ _ (Hho0.out.below (bstep (balloc2 _ _ _) (balloc _ _))) (Hhv0.out.below (bstep (balloc2 _ _ _) (balloc _ _)))).mono ?_
      rintro e w1 ⟨rfl, hb1⟩
      obtain ⟨B1, B2, B3, hw1⟩ := box3 hb1
      clear hb1
      obtain ⟨u0, u1, u2, u3⟩ := B1.four
      obtain ⟨s0, s1⟩ := B2.two
      obtain ⟨t0, t1⟩ := B3.two
      have Hhw1 := Lib.hid hw1
      have HB1 := Lib.hid B1
      have HB2 := Lib.hid B2
      have HB3 := Lib.hid B3
      clear hw1 B1 B2 B3
      go_wp2_with fail
      refine (K2 _ _ _ (Hho0.out.below Hhw1.out) (Hhu0.out.below Hhw1.out)).mono ?_
      rintro e w2 ⟨rfl, hb2⟩
      go_wp2_with fail
      go_ret
      exact ⟨rint HE.out, bstep Hhw1.out hb2⟩
    | true =>
      have CC := fun w vo v u => CC w vo v u k1 k2
      rw [k1] at K1
      rw [k1, k2] at E
      rw [k2] at K2
      have HE := Lib.hid (show o.Cmp s t = o.cmp s t by rw [E]; rfl)
      have Hho0 := Lib.hid ho0
      have Hhv0 := Lib.hid hv0
      have Hhu0 := Lib.hid hu0
      clear ho0 hv0 hu0
      clear E k1 k2
      go_enter Try.func37, Try.ntmps37
      go_wp2_with fail
      refine (K1 _ _ _ (Hho0.out.below (bstep (balloc2 _ _ _) (balloc _ _))) (Hhv0.out.below (bstep (balloc2 _ _ _) (balloc _ _)))).mono ?_
      rintro e w1 ⟨rfl, hb1⟩
      obtain ⟨B1, B2, B3, hw1⟩ := box3 hb1
      clear hb1
      obtain ⟨u0, u1, u2, u3⟩ := B1.four
      obtain ⟨s0, s1⟩ := B2.two
      obtain ⟨t0, t1⟩ := B3.two
      have Hhw1 := Lib.hid hw1
      have HB1 := Lib.hid B1
      have HB2 := Lib.hid B2
      have HB3 := Lib.hid B3
      clear hw1 B1 B2 B3
      go_wp2_with fail
      refine (K2 _ _ _ (Hho0.out.below Hhw1.out) (Hhu0.out.below Hhw1.out)).mono ?_
      rintro e w2 ⟨rfl, hb2⟩
      clear u0 u1 u2 u3 s0 s1 t0 t1
      have hwn := bstep Hhw1.out hb2
      have C1 := HB1.out.below hb2
      have C2 := HB2.out.below hb2
      have C3 := HB3.out.below hb2
      clear hb2 Hhw1 HB1 HB2 HB3
      obtain ⟨u0, u1, u2, u3⟩ := C1.four
      obtain ⟨s0, s1⟩ := C2.two
      obtain ⟨t0, t1⟩ := C3.two
      have hw1 := hwn
      have B1 := C1
      have B2 := C2
      have B3 := C3
      clear hwn C1 C2 C3
      have Hhw1 := Lib.hid hw1
      have HB1 := Lib.hid B1
      have HB2 := Lib.hid B2
      have HB3 := Lib.hid B3
      clear hw1 B1 B2 B3
      go_wp2_with fail
      refine (CC _ _ _ _ (Hho0.out.below Hhw1.out) (Hhv0.out.below Hhw1.out) (Hhu0.out.below Hhw1.out)).mono ?_
      rintro e w3 ⟨rfl, hb3⟩
      go_wp2_with fail
      go_ret
      exact ⟨rint HE.out, bstep Hhw1.out hb3⟩
end Go.Proofs.Ytmdpiafeiopimaa

/- The comparison of terms, by either order; whether terms are the same. -/
namespace Go.Proofs.Ytmdpiafeiopimaa
open Go.RowKit Go
set_option linter.unusedVariables false
set_option linter.unusedSimpArgs false
/-- How two terms stand, by either order. -/
def Od.oc (o : Od) (s t : T) : Int := if o.lpo = true then o.lcmp s t else o.Cmp s t
set_option maxRecDepth 100000 in
theorem ocmp_any (o : Od) (s t : T) (w : World) (vo v u : Value) (h1 : s.size ≤ 4294967296) (h2 : t.size ≤ 4294967296) (ho : IsOd w o vo) (hv : IsT w s v) (hu : IsT w t u) :
    Calls Try.prog 21 #[vo, v, u] w (Ret fun v' w' => v' = .int .i64 (o.oc s t) ∧ Below w.heap.size w w') := by
  have ho0 := ho
  have hv0 := hv
  have hu0 := hu
  obtain ⟨p1, p2, k1, k2, rfl, _⟩ := ho
  obtain ⟨_, a, c, rfl, _, _, _⟩ := hv.form
  obtain ⟨_, a2, c2, rfl, _, _, _⟩ := hu.form
  refine Calls.walk (l := [.agg #[.bool o.lpo, .slice p1 o.prec.length k1, .slice p2 o.weights.length k2, .int .i64 o.var], .agg #[.int .i64 s.f, .slice a s.args.length c], .agg #[.int .i64 t.f, .slice a2 t.args.length c2]]) Try.func21 rfl (by kernel_rfl) ?_
  refine WC.sub (K' := [(0, .agg #[.bool o.lpo, .slice p1 o.prec.length k1, .slice p2 o.weights.length k2, .int .i64 o.var]), (1, .agg #[.int .i64 s.f, .slice a s.args.length c]), (2, .agg #[.int .i64 t.f, .slice a2 t.args.length c2])]) ⟨rfl, rfl, rfl, trivial⟩ ?_
  refine WC.seq ?_
  refine WC.region ?_
  refine WL.step (post := NewBlk w 27 #[.bool o.lpo, .slice p1 o.prec.length k1, .slice p2 o.weights.length k2, .int .i64 o.var]) rfl rfl rfl (fun za zC zh zk => box_27 rfl (zh.ev rfl) (zk _ _ (newBlk _ _ _))) ?_
  rintro _ w1 ⟨g2, rfl, hg3, hB4, hb5, hz6⟩
  have hl7 : w.heap.size ≤ g2 := by omega
  refine WL.step (post := NewBlk w1 30 #[.int .i64 s.f, .slice a s.args.length c]) rfl rfl rfl (fun za zC zh zk => box_30 rfl (zh.ev rfl) (zk _ _ (newBlk _ _ _))) ?_
  rintro _ w8 ⟨g9, rfl, hg10, hB11, hb12, hz13⟩
  have hl14 : g2 < g9 := by have z1 := hB4.lt; omega
  have hl15 : w.heap.size ≤ g9 := by have z2 := (hb5).size; omega
  refine WL.step (post := NewBlk w8 30 #[.int .i64 t.f, .slice a2 t.args.length c2]) rfl rfl rfl (fun za zC zh zk => box_30 rfl (zh.ev rfl) (zk _ _ (newBlk _ _ _))) ?_
  rintro _ w16 ⟨g17, rfl, hg18, hB19, hb20, hz21⟩
  have hl22 : g2 < g17 := by have z1 := hB4.lt; have z2 := (hb12).size; omega
  have hl23 : g9 < g17 := by have z1 := hB11.lt; omega
  have hb24 : Below w.heap.size w w8 := (bstep hb5 hb12)
  have hl25 : w.heap.size ≤ g17 := by have z2 := (hb24).size; omega
  refine WL.val _ rfl rfl rfl (fun za zC zh zk => wp_assign rfl (zh.ev rfl) zk) ?_
  refine WL.nil ?_
  refine WE.next ?_
  refine WC.seq ?_
  refine WC.seq ?_
  refine WC.region ?_
  refine WL.val _ rfl rfl rfl (fun za zC zh zk => fld_27_0 rfl (zh.ev rfl) zk) ?_
  have hb27 : Below w1.heap.size w1 w16 := (bstep hb12 hb20)
  have hB26 := hB4.below hb27
  refine WL.val _ rfl rfl rfl (fun za zC zh zk => ld_4 rfl (zh.ev rfl) ((hB26.cell 0).trans rfl) zk) ?_
  refine WL.nil ?_
  refine WE.next ?_
  refine WC.cond rfl (fun h28 => ?_) (fun h28 => ?_)
  · skip
    refine WC.seq ?_
    refine WC.region ?_
    refine WL.val _ rfl rfl rfl (fun za zC zh zk => ld_27 rfl (zh.ev rfl) ((hB26.cell 0).trans rfl) ((hB26.cell 1).trans rfl) ((hB26.cell 2).trans rfl) ((hB26.cell 3).trans rfl) zk) ?_
    have hB29 := hB11.below hb20
    refine WL.val _ rfl rfl rfl (fun za zC zh zk => ld_30 rfl (zh.ev rfl) ((hB29.cell 0).trans rfl) ((hB29.cell 1).trans rfl) zk) ?_
    refine WL.val _ rfl rfl rfl (fun za zC zh zk => ld_30 rfl (zh.ev rfl) ((hB19.cell 0).trans rfl) ((hB19.cell 1).trans rfl) zk) ?_
    have hb30 : Below w.heap.size w w16 := (bstep hb5 hb27)
    refine WL.call rfl rfl rfl (fun za zh zC => wp_call (by kernel_rfl) rfl (hv3 (zh.ev rfl) (zh.ev rfl) (zh.ev rfl))) (lcmp_any o s t _ _ _ _ h1 h2 (ho0.below hb30) (hv0.below hb30) (hu0.below hb30)) ?_
    rintro _ w31 ⟨rfl, hbl⟩
    refine WL.val _ rfl rfl rfl (fun za zC zh zk => wp_assign rfl (zh.ev rfl) zk) ?_
    refine WL.nil ?_
    refine WE.next ?_
    refine WC.ret ?_
    refine WE.thenRet ?_
    refine WE.ret1 rfl rfl ?_
    have hb32 : Below w.heap.size w w31 := (bstep hb30 hbl)
    exact ⟨_, rfl, congrArg (Value.int .i64) (by unfold Od.oc; rw [if_pos h28]), hb32⟩
  · skip
    refine WC.skip ?_
    refine WE.next ?_
    refine WC.seq ?_
    refine WC.region ?_
    refine WL.val _ rfl rfl rfl (fun za zC zh zk => ld_27 rfl (zh.ev rfl) ((hB26.cell 0).trans rfl) ((hB26.cell 1).trans rfl) ((hB26.cell 2).trans rfl) ((hB26.cell 3).trans rfl) zk) ?_
    have hB33 := hB11.below hb20
    refine WL.val _ rfl rfl rfl (fun za zC zh zk => ld_30 rfl (zh.ev rfl) ((hB33.cell 0).trans rfl) ((hB33.cell 1).trans rfl) zk) ?_
    refine WL.val _ rfl rfl rfl (fun za zC zh zk => ld_30 rfl (zh.ev rfl) ((hB19.cell 0).trans rfl) ((hB19.cell 1).trans rfl) zk) ?_
    have hb34 : Below w.heap.size w w16 := (bstep hb5 hb27)
    refine WL.call rfl rfl rfl (fun za zh zC => wp_call (by kernel_rfl) rfl (hv3 (zh.ev rfl) (zh.ev rfl) (zh.ev rfl))) (ret_of (kCmp_any o s t _ _ _ _ h1 h2 (ho0.below hb34) (hv0.below hb34) (hu0.below hb34))) ?_
    rintro _ w35 ⟨rfl, hbk⟩
    refine WL.val _ rfl rfl rfl (fun za zC zh zk => wp_assign rfl (zh.ev rfl) zk) ?_
    refine WL.nil ?_
    refine WE.next ?_
    refine WC.ret ?_
    refine WE.ret1 rfl rfl ?_
    have hb36 : Below w.heap.size w w35 := (bstep hb34 hbk)
    exact ⟨_, rfl, congrArg (Value.int .i64) (by unfold Od.oc; rw [if_neg (by rw [h28]; exact Bool.false_ne_true)]), hb36⟩
end Go.Proofs.Ytmdpiafeiopimaa

/- Whether terms are the same; the comparison that knows it. -/
namespace Go.Proofs.Ytmdpiafeiopimaa
open Go.RowKit Go
set_option linter.unusedVariables false
set_option linter.unusedSimpArgs false
theorem sameL_of {l k : List T} (h : l.length = k.length) (e : ∀ j, j < l.length → T.same (tget l j) (tget k j) = true) : l = k := by
  apply List.ext_getElem h
  intro i h1 h2
  have := (T.same_iff _ _).1 (e i h1)
  rwa [tget_lt h1, tget_lt h2] at this
set_option maxRecDepth 100000 in
theorem osame_any : ∀ (s t : T) (w : World) (v u : Value), IsT w s v → IsT w t u → Calls Try.prog 44 #[v, u] w (Ret fun v' w' => v' = .bool (T.same s t) ∧ Below w.heap.size w w') := by
  refine T.ind (fun f l ih => ?_)
  intro t w v u hv hu
  cases t with
  | mk g k =>
  obtain ⟨_, a, c, rfl, _, hm1, hl⟩ := hv
  obtain ⟨_, a2, c2, rfl, _, hm2, hl2⟩ := hu
  have hml : l.length ≤ 9223372036854775807 := by unfold maxLen at hm1; omega
  refine Calls.walk (l := [.agg #[.int .i64 f, .slice a l.length c], .agg #[.int .i64 g, .slice a2 k.length c2]]) Try.func44 rfl (by kernel_rfl) ?_
  refine WC.sub (K' := [(0, .agg #[.int .i64 f, .slice a l.length c]), (1, .agg #[.int .i64 g, .slice a2 k.length c2])]) ⟨rfl, rfl, trivial⟩ ?_
  refine WC.seq ?_
  refine WC.region ?_
  refine WL.step (post := NewBlk w 30 #[.int .i64 f, .slice a l.length c]) rfl rfl rfl (fun za zC zh zk => box_30 rfl (zh.ev rfl) (zk _ _ (newBlk _ _ _))) ?_
  rintro _ w1 ⟨g2, rfl, hg3, hB4, hb5, hz6⟩
  have hl7 : w.heap.size ≤ g2 := by omega
  refine WL.step (post := NewBlk w1 30 #[.int .i64 g, .slice a2 k.length c2]) rfl rfl rfl (fun za zC zh zk => box_30 rfl (zh.ev rfl) (zk _ _ (newBlk _ _ _))) ?_
  rintro _ w8 ⟨g9, rfl, hg10, hB11, hb12, hz13⟩
  have hl14 : g2 < g9 := by have z1 := hB4.lt; omega
  have hl15 : w.heap.size ≤ g9 := by have z2 := (hb5).size; omega
  refine WL.val _ rfl rfl rfl (fun za zC zh zk => wp_assign rfl (zh.ev rfl) zk) ?_
  refine WL.nil ?_
  refine WE.next ?_
  refine WC.seq ?_
  refine WC.seq ?_
  have hB16 := hB4.below hb12
  refine WC.opt [(true, .val (.pointer (some ⟨g2, 0, none⟩))), (true, .val (.int .i64 f)), (true, .val (.pointer (some ⟨g9, 0, none⟩))), (true, .val (.int .i64 g)), (true, .val (.bool (((f : Int) != (g : Int))))), (true, .val (.bool (((f : Int) != (g : Int))))), ((true && !((f : Int) != (g : Int))), .val (.pointer (some ⟨g2, 1, none⟩))), ((true && !((f : Int) != (g : Int))), .val (.slice a l.length c)), ((true && !((f : Int) != (g : Int))), .val (.int .i64 (((l.length : Nat) : Int)))), ((true && !((f : Int) != (g : Int))), .val (.pointer (some ⟨g9, 1, none⟩))), ((true && !((f : Int) != (g : Int))), .val (.slice a2 k.length c2)), ((true && !((f : Int) != (g : Int))), .val (.int .i64 (((k.length : Nat) : Int)))), ((true && !((f : Int) != (g : Int))), .val (.bool (((((l.length : Nat) : Int) : Int) != (((k.length : Nat) : Int) : Int))))), (true, .val (.bool ((((f : Int) != (g : Int)) || ((((l.length : Nat) : Int) : Int) != (((k.length : Nat) : Int) : Int))))))] [(0, .agg #[.int .i64 f, .slice a l.length c]), (1, .agg #[.int .i64 g, .slice a2 k.length c2]), (2, .pointer (some ⟨g2, 0, none⟩)), (3, .pointer (some ⟨g9, 0, none⟩)), (4, .bool false)] ⟨rfl, rfl, rfl, rfl, rfl, trivial⟩ (by kernel_rfl) (by kernel_rfl) (by kernel_rfl) ?_ ?_
  · refine ⟨⟨true, .none rfl, fun h w => optUndef h, fun zβ za zw zc => ?_⟩, ?_⟩
    · exact fld_30_0 rfl (zc.kn.ev rfl) ⟨_, rfl, Below.refl _ _, optDef zβ rfl⟩
    refine ⟨⟨true, .none rfl, fun h w => optUndef h, fun zβ za zw zc => ?_⟩, ?_⟩
    · exact ld_3 rfl ((evt za 6).trans (optVal (zc.dep 0 6 (by kernel_rfl)) rfl rfl)) (bkeeps zc.below _ _ ((hB16.cell 0).trans rfl)) ⟨_, rfl, Below.refl _ _, optDef zβ rfl⟩
    refine ⟨⟨true, .none rfl, fun h w => optUndef h, fun zβ za zw zc => ?_⟩, ?_⟩
    · exact fld_30_0 rfl (zc.kn.ev rfl) ⟨_, rfl, Below.refl _ _, optDef zβ rfl⟩
    refine ⟨⟨true, .none rfl, fun h w => optUndef h, fun zβ za zw zc => ?_⟩, ?_⟩
    · exact ld_3 rfl ((evt za 8).trans (optVal (zc.dep 2 8 (by kernel_rfl)) rfl rfl)) (bkeeps zc.below _ _ ((hB11.cell 0).trans rfl)) ⟨_, rfl, Below.refl _ _, optDef zβ rfl⟩
    refine ⟨⟨true, .none rfl, fun h w => optUndef h, fun zβ za zw zc => ?_⟩, ?_⟩
    · exact neq_3 rfl ((evt za 7).trans (optVal (zc.dep 1 7 (by kernel_rfl)) rfl rfl)) ((evt za 9).trans (optVal (zc.dep 3 9 (by kernel_rfl)) rfl rfl)) ⟨_, rfl, Below.refl _ _, optDef zβ rfl⟩
    refine ⟨⟨true, .none rfl, fun h w => optUndef h, fun zβ za zw zc => ?_⟩, ?_⟩
    · exact wp_move rfl ((evt za 10).trans (optVal (zc.dep 4 10 (by kernel_rfl)) rfl rfl)) ⟨_, rfl, Below.refl _ _, optDef zβ rfl⟩
    refine ⟨⟨_, .no (c := ((f : Int) != (g : Int))) (d := true) rfl (fun v w h => h), fun h w => optUndef h, fun zβ za zw zc => ?_⟩, ?_⟩
    · exact fld_30_1 rfl (zc.kn.ev rfl) ⟨_, rfl, Below.refl _ _, optDef zβ rfl⟩
    refine ⟨⟨_, .no (c := ((f : Int) != (g : Int))) (d := true) rfl (fun v w h => h), fun h w => optUndef h, fun zβ za zw zc => ?_⟩, ?_⟩
    · exact ld_28 rfl ((evt za 12).trans (optVal (zc.dep 6 12 (by kernel_rfl)) rfl zβ)) (bkeeps zc.below _ _ ((hB16.cell 1).trans rfl)) ⟨_, rfl, Below.refl _ _, optDef zβ rfl⟩
    refine ⟨⟨_, .no (c := ((f : Int) != (g : Int))) (d := true) rfl (fun v w h => h), fun h w => optUndef h, fun zβ za zw zc => ?_⟩, ?_⟩
    · exact len_28 rfl ((evt za 13).trans (optVal (zc.dep 7 13 (by kernel_rfl)) rfl zβ)) ⟨_, rfl, Below.refl _ _, optDef zβ rfl⟩
    refine ⟨⟨_, .no (c := ((f : Int) != (g : Int))) (d := true) rfl (fun v w h => h), fun h w => optUndef h, fun zβ za zw zc => ?_⟩, ?_⟩
    · exact fld_30_1 rfl (zc.kn.ev rfl) ⟨_, rfl, Below.refl _ _, optDef zβ rfl⟩
    refine ⟨⟨_, .no (c := ((f : Int) != (g : Int))) (d := true) rfl (fun v w h => h), fun h w => optUndef h, fun zβ za zw zc => ?_⟩, ?_⟩
    · exact ld_28 rfl ((evt za 15).trans (optVal (zc.dep 9 15 (by kernel_rfl)) rfl zβ)) (bkeeps zc.below _ _ ((hB11.cell 1).trans rfl)) ⟨_, rfl, Below.refl _ _, optDef zβ rfl⟩
    refine ⟨⟨_, .no (c := ((f : Int) != (g : Int))) (d := true) rfl (fun v w h => h), fun h w => optUndef h, fun zβ za zw zc => ?_⟩, ?_⟩
    · exact len_28 rfl ((evt za 16).trans (optVal (zc.dep 10 16 (by kernel_rfl)) rfl zβ)) ⟨_, rfl, Below.refl _ _, optDef zβ rfl⟩
    refine ⟨⟨_, .no (c := ((f : Int) != (g : Int))) (d := true) rfl (fun v w h => h), fun h w => optUndef h, fun zβ za zw zc => ?_⟩, ?_⟩
    · exact neq_3 rfl ((evt za 14).trans (optVal (zc.dep 8 14 (by kernel_rfl)) rfl zβ)) ((evt za 17).trans (optVal (zc.dep 11 17 (by kernel_rfl)) rfl zβ)) ⟨_, rfl, Below.refl _ _, optDef zβ rfl⟩
    refine ⟨⟨true, .none rfl, fun h w => optUndef h, fun zβ za zw zc => ?_⟩, ?_⟩
    · exact wp_or rfl ((evt za 11).trans (optVal (zc.dep 5 11 (by kernel_rfl)) rfl rfl)) (fun hp => ((evt za 18).trans (optVal (zc.dep 12 18 (by kernel_rfl)) rfl (bMkN zβ hp)))) ⟨_, rfl, Below.refl _ _, optDef zβ rfl⟩
    exact trivial
  · intro za w17 zh hb18 zu
    have zh := zh.cons (d := 19) (v := .bool ((((f : Int) != (g : Int)) || ((((l.length : Nat) : Int) : Int) != (((k.length : Nat) : Int) : Int))))) (optVal (zu 13 19 (by kernel_rfl)) rfl rfl)
    clear zu
    refine WE.go zh ?_
    refine WE.next ?_
    refine WC.cond rfl (fun h19 => ?_) (fun h19 => ?_)
    · have h19 : ((f : Int) ≠ (g : Int)) ∨ ((((l.length : Nat) : Int) : Int) ≠ (((k.length : Nat) : Int) : Int)) := by simpa using h19
      refine WC.seq ?_
      refine WC.region ?_
      refine WL.val _ rfl rfl rfl (fun za zC zh zk => wp_assign rfl (zh.ev rfl) zk) ?_
      refine WL.nil ?_
      refine WE.next ?_
      refine WC.ret ?_
      refine WE.thenRet ?_
      refine WE.ret1 rfl rfl ?_
      have hb20 : Below w.heap.size w w17 := (bstep (bstep hb5 hb12) hb18)
      exact ⟨_, rfl, congrArg Value.bool (by symm; rw [Bool.eq_false_iff]; intro e; have z := (T.same_iff _ _).1 e; simp only [T.mk.injEq] at z; obtain ⟨z1, z2⟩ := z; subst z2; omega), hb20⟩
    · have h19 : ¬ (((f : Int) ≠ (g : Int)) ∨ ((((l.length : Nat) : Int) : Int) ≠ (((k.length : Nat) : Int) : Int))) := by simpa using h19
      have hfg : f = g := by omega
      have hlk : l.length = k.length := by omega
      refine WC.skip ?_
      refine WE.next ?_
      refine WC.seq ?_
      refine WC.seq ?_
      refine WC.region ?_
      refine WL.val _ rfl rfl rfl (fun za zC zh zk => fld_30_1 rfl (zh.ev rfl) zk) ?_
      have hB21 := hB16.below hb18
      refine WL.val _ rfl rfl rfl (fun za zC zh zk => ld_28 rfl (zh.ev rfl) ((hB21.cell 1).trans rfl) zk) ?_
      refine WL.val (.int .i64 (((l.length : Nat) : Int))) rfl rfl rfl (fun za zC zh zk => len_28 rfl (zh.ev rfl) zk) ?_
      refine WL.val _ rfl rfl rfl (fun za zC zh zk => wp_move rfl (zh.ev rfl) zk) ?_
      refine WL.nil ?_
      refine WE.next ?_
      refine WC.block ?_
      refine WC.loop (X := Nat) (fun i => l.length - i) (fun i => [(0, .agg #[.int .i64 f, .slice a l.length c]), (1, .agg #[.int .i64 g, .slice a2 k.length c2]), (2, .pointer (some ⟨g2, 0, none⟩)), (3, .pointer (some ⟨g9, 0, none⟩)), (19, .bool ((((f : Int) != (g : Int)) || ((((l.length : Nat) : Int) : Int) != (((k.length : Nat) : Int) : Int))))), (22, .int .i64 (((l.length : Nat) : Int))), (23, .int .i64 (((i : Nat) : Int)))]) (fun i w22 => i ≤ l.length ∧ (∀ j, j < i → T.same (tget l j) (tget k j) = true) ∧ Below w.heap.size w w22 ∧ Blk w22 g2 30 #[.int .i64 f, .slice a l.length c] ∧ Blk w22 g9 30 #[.int .i64 g, .slice a2 k.length c2]) 0 ⟨rfl, rfl, rfl, rfl, rfl, rfl, rfl, trivial⟩ ?_ ?_
      · have hb23 : Below w.heap.size w w17 := (bstep (bstep hb5 hb12) hb18)
        have hB24 := hB11.below hb18
        exact ⟨Nat.zero_le _, fun j h => absurd h (Nat.not_lt_zero j), hb23, hB21, hB24⟩
      · rintro i w22 ⟨hi, hE, hb25, hB26, hB27⟩
        refine WC.seq ?_
        refine WC.region ?_
        refine WL.val (.bool ((decide ((((i : Nat) : Int) : Int) < (((l.length : Nat) : Int) : Int))))) rfl rfl rfl (fun za zC zh zk => lss_3 rfl (zh.ev rfl) (zh.ev rfl) zk) ?_
        refine WL.nil ?_
        refine WE.next ?_
        refine WC.seq ?_
        refine WC.cond rfl (fun h28 => ?_) (fun h28 => ?_)
        · have h28 : (((i : Nat) : Int) : Int) < (((l.length : Nat) : Int) : Int) := by simpa using h28
          refine WC.skip ?_
          refine WE.next ?_
          refine WC.seq ?_
          refine WC.block ?_
          refine WC.seq ?_
          refine WC.region ?_
          refine WL.val _ rfl rfl rfl (fun za zC zh zk => wp_move rfl (zh.ev rfl) zk) ?_
          refine WL.val _ rfl rfl rfl (fun za zC zh zk => wp_assign rfl (zh.ev rfl) zk) ?_
          refine WL.nil ?_
          refine WE.next ?_
          refine WC.seq ?_
          obtain ⟨b29, o30, A31, C32, ha33, hc34⟩ := IsTs.open hl
          obtain ⟨b35, o36, A37, C38, ha39, hc40⟩ := IsTs.open hl2
          refine WC.opt [(true, .val (.pointer (some ⟨g2, 1, none⟩))), (true, .val (.slice a l.length c)), (true, .val (.int .i64 (((i : Nat) : Int)))), (true, .val (.pointer (some ⟨b29, o30 + i * 2, none⟩))), (true, .val (.agg #[.int .i64 ((tget l i).f), .slice ((A31 i)) ((tget l i).args.length) ((C32 i))])), (true, .val (.pointer (some ⟨g9, 1, none⟩))), (true, .val (.slice a2 k.length c2)), (true, .val (.int .i64 (((i : Nat) : Int)))), (true, .val (.pointer (some ⟨b35, o36 + i * 2, none⟩))), (true, .val (.agg #[.int .i64 ((tget k i).f), .slice ((A37 i)) ((tget k i).args.length) ((C38 i))])), (true, .val (.bool ((T.same (tget l i) (tget k i))))), (true, .val (.bool ((!(T.same (tget l i) (tget k i))))))] [(0, .agg #[.int .i64 f, .slice a l.length c]), (1, .agg #[.int .i64 g, .slice a2 k.length c2]), (2, .pointer (some ⟨g2, 0, none⟩)), (3, .pointer (some ⟨g9, 0, none⟩)), (5, .int .i64 (((i : Nat) : Int))), (19, .bool ((((f : Int) != (g : Int)) || ((((l.length : Nat) : Int) : Int) != (((k.length : Nat) : Int) : Int))))), (22, .int .i64 (((l.length : Nat) : Int))), (23, .int .i64 (((i : Nat) : Int))), (24, .bool ((decide ((((i : Nat) : Int) : Int) < (((l.length : Nat) : Int) : Int)))))] ⟨rfl, rfl, rfl, rfl, rfl, rfl, rfl, rfl, rfl, trivial⟩ (by kernel_rfl) (by kernel_rfl) (by kernel_rfl) ?_ ?_
          · refine ⟨⟨true, .none rfl, fun h w => optUndef h, fun zβ za zw zc => ?_⟩, ?_⟩
            · exact fld_30_1 rfl (zc.kn.ev rfl) ⟨_, rfl, Below.refl _ _, optDef zβ rfl⟩
            refine ⟨⟨true, .none rfl, fun h w => optUndef h, fun zβ za zw zc => ?_⟩, ?_⟩
            · exact ld_28 rfl ((evt za 26).trans (optVal (zc.dep 0 26 (by kernel_rfl)) rfl rfl)) (bkeeps zc.below _ _ ((hB26.cell 1).trans rfl)) ⟨_, rfl, Below.refl _ _, optDef zβ rfl⟩
            refine ⟨⟨true, .none rfl, fun h w => optUndef h, fun zβ za zw zc => ?_⟩, ?_⟩
            · exact wp_move rfl (zc.kn.ev rfl) ⟨_, rfl, Below.refl _ _, optDef zβ rfl⟩
            refine ⟨⟨true, .none rfl, fun h w => optUndef h, fun zβ za zw zc => ?_⟩, ?_⟩
            · exact ix_28 (k := i) rfl ((evt za 27).trans (optVal (zc.dep 1 27 (by kernel_rfl)) rfl rfl)) (ha33 i (by first | omega | (simp; omega))) ((evt za 28).trans (optVal (zc.dep 2 28 (by kernel_rfl)) rfl rfl)) (by first | omega | (simp; omega)) ⟨_, rfl, Below.refl _ _, optDef zβ rfl⟩
            refine ⟨⟨true, .none rfl, fun h w => optUndef h, fun zβ za zw zc => ?_⟩, ?_⟩
            · exact ld_30 rfl ((evt za 29).trans (optVal (zc.dep 3 29 (by kernel_rfl)) rfl rfl)) (bkeeps (bstep hb25 zc.below) _ _ (hc34 i (by first | omega | (simp; omega))).1) (bkeeps (bstep hb25 zc.below) _ _ (hc34 i (by first | omega | (simp; omega))).2.1) ⟨_, rfl, Below.refl _ _, optDef zβ rfl⟩
            refine ⟨⟨true, .none rfl, fun h w => optUndef h, fun zβ za zw zc => ?_⟩, ?_⟩
            · exact fld_30_1 rfl (zc.kn.ev rfl) ⟨_, rfl, Below.refl _ _, optDef zβ rfl⟩
            refine ⟨⟨true, .none rfl, fun h w => optUndef h, fun zβ za zw zc => ?_⟩, ?_⟩
            · exact ld_28 rfl ((evt za 31).trans (optVal (zc.dep 5 31 (by kernel_rfl)) rfl rfl)) (bkeeps zc.below _ _ ((hB27.cell 1).trans rfl)) ⟨_, rfl, Below.refl _ _, optDef zβ rfl⟩
            refine ⟨⟨true, .none rfl, fun h w => optUndef h, fun zβ za zw zc => ?_⟩, ?_⟩
            · exact wp_move rfl (zc.kn.ev rfl) ⟨_, rfl, Below.refl _ _, optDef zβ rfl⟩
            refine ⟨⟨true, .none rfl, fun h w => optUndef h, fun zβ za zw zc => ?_⟩, ?_⟩
            · exact ix_28 (k := i) rfl ((evt za 32).trans (optVal (zc.dep 6 32 (by kernel_rfl)) rfl rfl)) (ha39 i (by first | omega | (simp; omega))) ((evt za 33).trans (optVal (zc.dep 7 33 (by kernel_rfl)) rfl rfl)) (by first | omega | (simp; omega)) ⟨_, rfl, Below.refl _ _, optDef zβ rfl⟩
            refine ⟨⟨true, .none rfl, fun h w => optUndef h, fun zβ za zw zc => ?_⟩, ?_⟩
            · exact ld_30 rfl ((evt za 34).trans (optVal (zc.dep 8 34 (by kernel_rfl)) rfl rfl)) (bkeeps (bstep hb25 zc.below) _ _ (hc40 i (by first | omega | (simp; omega))).1) (bkeeps (bstep hb25 zc.below) _ _ (hc40 i (by first | omega | (simp; omega))).2.1) ⟨_, rfl, Below.refl _ _, optDef zβ rfl⟩
            refine ⟨⟨true, .none rfl, fun h w => optUndef h, fun zβ za zw zc => ?_⟩, ?_⟩
            · exact wp_call (by kernel_rfl) rfl (hv2 ((evt za 30).trans (optVal (zc.dep 4 30 (by kernel_rfl)) rfl rfl)) ((evt za 35).trans (optVal (zc.dep 9 35 (by kernel_rfl)) rfl rfl))) (ih (tget l i) (tget_mem (by omega)) (tget k i) _ _ _ (IsT.below (bstep hb25 zc.below) (hc34 i (by first | omega | (simp; omega))).2.2) (IsT.below (bstep hb25 zc.below) (hc40 i (by first | omega | (simp; omega))).2.2)) (fun v w' h => ⟨v, rfl, h.2, optDef zβ h.1⟩)
            refine ⟨⟨true, .none rfl, fun h w => optUndef h, fun zβ za zw zc => ?_⟩, ?_⟩
            · exact wp_not rfl ((evt za 36).trans (optVal (zc.dep 10 36 (by kernel_rfl)) rfl rfl)) ⟨_, rfl, Below.refl _ _, optDef zβ rfl⟩
            exact trivial
          · intro za w42 zh hb43 zu
            have zh := zh.cons (d := 37) (v := .bool ((!(T.same (tget l i) (tget k i))))) (optVal (zu 11 37 (by kernel_rfl)) rfl rfl)
            clear zu
            refine WE.go zh ?_
            refine WE.next ?_
            refine WC.cond rfl (fun h44 => ?_) (fun h44 => ?_)
            · have h44 : ¬ ((T.same (tget l i) (tget k i)) = true) := by simpa using h44
              refine WC.seq ?_
              refine WC.region ?_
              refine WL.val _ rfl rfl rfl (fun za zC zh zk => wp_assign rfl (zh.ev rfl) zk) ?_
              refine WL.nil ?_
              refine WE.next ?_
              refine WC.ret ?_
              refine WE.blockRet ?_
              refine WE.thenRet ?_
              refine WE.thenRet ?_
              refine WE.blockRet ?_
              refine WE.thenRet ?_
              refine WE.ret1 rfl rfl ?_
              have hb45 : Below w.heap.size w w42 := (bstep hb25 hb43)
              exact ⟨_, rfl, congrArg Value.bool (by symm; rw [Bool.eq_false_iff]; intro e; have z := (T.same_iff _ _).1 e; simp only [T.mk.injEq] at z; obtain ⟨_, z2⟩ := z; subst z2; have z3 := T.same_refl (tget l i); have z4 := h44; simp [z3] at z4), hb45⟩
            · have h44 : ¬ (¬ ((T.same (tget l i) (tget k i)) = true)) := by simpa using h44
              refine WC.skip ?_
              refine WE.blockNormal ?_
              refine WE.next ?_
              refine WC.region ?_
              refine WL.val (.int .i64 ((((i + 1) : Nat) : Int))) rfl rfl rfl (fun za zC zh zk => addb_3 rfl (zh.ev rfl) (zh.ev rfl) (wrap_eq (by omega) (by omega) (by omega)) zk) ?_
              refine WL.val _ rfl rfl rfl (fun za zC zh zk => wp_move rfl (zh.ev rfl) zk) ?_
              refine WL.nil ?_
              refine WE.round (i + 1) ⟨rfl, rfl, rfl, rfl, rfl, rfl, rfl, trivial⟩ ?_ ?_
              · have hb46 : Below w.heap.size w w42 := (bstep hb25 hb43)
                have hB47 := hB26.below hb43
                have hB48 := hB27.below hb43
                exact ⟨by omega, fun j hj => by
                    by_cases e : j = i
                    · rw [e]; simpa using h44
                    · exact hE j (by omega), hb46, hB47, hB48⟩
              · omega
        · have h28 : ¬ ((((i : Nat) : Int) : Int) < (((l.length : Nat) : Int) : Int)) := by simpa using h28
          refine WC.exit ?_
          refine WE.thenExit ?_
          refine WE.thenExit ?_
          refine WE.blockIs rfl ?_
          refine WE.next ?_
          refine WC.seq ?_
          refine WC.region ?_
          refine WL.val _ rfl rfl rfl (fun za zC zh zk => wp_assign rfl (zh.ev rfl) zk) ?_
          refine WL.nil ?_
          refine WE.next ?_
          refine WC.ret ?_
          refine WE.ret1 rfl rfl ?_
          exact ⟨_, rfl, congrArg Value.bool ((T.same_iff _ _).2 (by rw [hfg, sameL_of hlk (fun j hj => hE j (by omega))])).symm, hb25⟩
end Go.Proofs.Ytmdpiafeiopimaa

namespace Go.Proofs.Ytmdpiafeiopimaa
open Go.RowKit Go
set_option linter.unusedVariables false
set_option linter.unusedSimpArgs false
/-- How two terms stand: the same only if they are. -/
def Od.ok2 (o : Od) (s t : T) : Int := if T.same s t = true then 2 else o.oc s t
set_option maxRecDepth 100000 in
theorem oknows1_any (o : Od) (s t : T) (w : World) (go : Nat) (v u : Value) (p1 p2 : Option Addr) (k1 k2 : Nat) (h1 : s.size ≤ 4294967296) (h2 : t.size ≤ 4294967296) (hB : Blk w go 27 #[.bool o.lpo, .slice p1 o.prec.length k1, .slice p2 o.weights.length k2, .int .i64 o.var]) (ho : IsOd w o (.agg #[.bool o.lpo, .slice p1 o.prec.length k1, .slice p2 o.weights.length k2, .int .i64 o.var])) (hv : IsT w s v) (hu : IsT w t u) :
    Calls Try.prog 43 #[v, u, .pointer (some ⟨go, 0, none⟩)] w (Ret fun v' w' => v' = .int .i64 (o.ok2 s t) ∧ Below w.heap.size w w') := by
  have hv0 := hv
  have hu0 := hu
  obtain ⟨_, a, c, rfl, _, _, _⟩ := hv.form
  obtain ⟨_, a2, c2, rfl, _, _, _⟩ := hu.form
  refine Calls.walk (l := [.agg #[.int .i64 s.f, .slice a s.args.length c], .agg #[.int .i64 t.f, .slice a2 t.args.length c2], .pointer (some ⟨go, 0, none⟩)]) Try.func43 rfl (by kernel_rfl) ?_
  refine WC.sub (K' := [(0, .agg #[.int .i64 s.f, .slice a s.args.length c]), (1, .agg #[.int .i64 t.f, .slice a2 t.args.length c2]), (2, .pointer (some ⟨go, 0, none⟩))]) ⟨rfl, rfl, rfl, trivial⟩ ?_
  refine WC.seq ?_
  refine WC.region ?_
  refine WL.step (post := NewBlk w 30 #[.int .i64 s.f, .slice a s.args.length c]) rfl rfl rfl (fun za zC zh zk => box_30 rfl (zh.ev rfl) (zk _ _ (newBlk _ _ _))) ?_
  rintro _ w1 ⟨g2, rfl, hg3, hB4, hb5, hz6⟩
  have hl7 : go < g2 := by have z1 := hB.lt; omega
  have hl8 : w.heap.size ≤ g2 := by omega
  refine WL.step (post := NewBlk w1 30 #[.int .i64 t.f, .slice a2 t.args.length c2]) rfl rfl rfl (fun za zC zh zk => box_30 rfl (zh.ev rfl) (zk _ _ (newBlk _ _ _))) ?_
  rintro _ w9 ⟨g10, rfl, hg11, hB12, hb13, hz14⟩
  have hl15 : go < g10 := by have z1 := hB.lt; have z2 := (hb5).size; omega
  have hl16 : g2 < g10 := by have z1 := hB4.lt; omega
  have hl17 : w.heap.size ≤ g10 := by have z2 := (hb5).size; omega
  refine WL.val _ rfl rfl rfl (fun za zC zh zk => wp_assign rfl (zh.ev rfl) zk) ?_
  refine WL.nil ?_
  refine WE.next ?_
  refine WC.seq ?_
  refine WC.seq ?_
  refine WC.region ?_
  have hB18 := hB4.below hb13
  refine WL.val _ rfl rfl rfl (fun za zC zh zk => ld_30 rfl (zh.ev rfl) ((hB18.cell 0).trans rfl) ((hB18.cell 1).trans rfl) zk) ?_
  refine WL.val _ rfl rfl rfl (fun za zC zh zk => ld_30 rfl (zh.ev rfl) ((hB12.cell 0).trans rfl) ((hB12.cell 1).trans rfl) zk) ?_
  have hb19 : Below w.heap.size w w9 := (bstep hb5 hb13)
  refine WL.call rfl rfl rfl (fun za zh zC => wp_call (by kernel_rfl) rfl (hv2 (zh.ev rfl) (zh.ev rfl))) (osame_any s t _ _ _ (hv0.below hb19) (hu0.below hb19)) ?_
  rintro _ w21 ⟨rfl, hq20⟩
  refine WL.nil ?_
  refine WE.next ?_
  refine WC.cond rfl (fun h22 => ?_) (fun h22 => ?_)
  · skip
    refine WC.seq ?_
    refine WC.region ?_
    refine WL.val _ rfl rfl rfl (fun za zC zh zk => wp_assign rfl (zh.ev rfl) zk) ?_
    refine WL.nil ?_
    refine WE.next ?_
    refine WC.ret ?_
    refine WE.thenRet ?_
    refine WE.ret1 rfl rfl ?_
    have hb23 : Below w.heap.size w w21 := (bstep hb19 hq20)
    exact ⟨_, rfl, congrArg (Value.int .i64) (by unfold Od.ok2; rw [if_pos h22]), hb23⟩
  · skip
    refine WC.skip ?_
    refine WE.next ?_
    refine WC.seq ?_
    refine WC.region ?_
    have hb25 : Below w.heap.size w w21 := (bstep hb19 hq20)
    have hB24 := hB.below hb25
    refine WL.val _ rfl rfl rfl (fun za zC zh zk => ld_27 rfl (zh.ev rfl) ((hB24.cell 0).trans rfl) ((hB24.cell 1).trans rfl) ((hB24.cell 2).trans rfl) ((hB24.cell 3).trans rfl) zk) ?_
    have hB26 := hB18.below hq20
    refine WL.val _ rfl rfl rfl (fun za zC zh zk => ld_30 rfl (zh.ev rfl) ((hB26.cell 0).trans rfl) ((hB26.cell 1).trans rfl) zk) ?_
    have hB27 := hB12.below hq20
    refine WL.val _ rfl rfl rfl (fun za zC zh zk => ld_30 rfl (zh.ev rfl) ((hB27.cell 0).trans rfl) ((hB27.cell 1).trans rfl) zk) ?_
    refine WL.call rfl rfl rfl (fun za zh zC => wp_call (by kernel_rfl) rfl (hv3 (zh.ev rfl) (zh.ev rfl) (zh.ev rfl))) (ocmp_any o s t _ _ _ _ h1 h2 (ho.below hb25) (hv0.below hb25) (hu0.below hb25)) ?_
    rintro _ w29 ⟨rfl, hq28⟩
    refine WL.val _ rfl rfl rfl (fun za zC zh zk => wp_assign rfl (zh.ev rfl) zk) ?_
    refine WL.nil ?_
    refine WE.next ?_
    refine WC.ret ?_
    refine WE.ret1 rfl rfl ?_
    have hb30 : Below w.heap.size w w29 := (bstep hb25 hq28)
    exact ⟨_, rfl, congrArg (Value.int .i64) (by unfold Od.ok2; rw [if_neg (by rw [h22]; exact Bool.false_ne_true)]), hb30⟩
end Go.Proofs.Ytmdpiafeiopimaa
