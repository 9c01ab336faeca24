/- The walks through the program's order of Knuth and Bendix: what a term weighs. -/
import Derived.Test.YtjkpecjlpgcalaaKboRef
namespace Go.Proofs.Ytjkpecjlpgcalaa
open Go.RowKit Go.Sort Go

theorem Box.grown {w w' : World} {b B : Nat} {vs : List Value} (h : Box w b vs) (hg : w.grownBy w' (some B)) (hne : b ≠ B) : Box w' b vs := fun i v hi => hg.cell (h i v hi) (by simpa using hne)
theorem gtrans {a b c : World} {B : Nat} (h : a.grownBy b (some B)) (k : b.grownBy c (some B)) : a.grownBy c (some B) :=
  ⟨k.os.trans h.os, k.tape.trans h.tape, k.output.trans h.output, Nat.le_trans h.size k.size, fun i hi hne => (k.block i (Nat.lt_of_lt_of_le hi h.size) hne).trans (h.block i hi hne)⟩
theorem galloc (w : World) (o : Obj) (B : Nat) : w.grownBy (w.alloc o) (some B) := World.grownBy_alloc _ _ _
theorem gset (w : World) (B i : Nat) (v : Value) : w.grownBy (w.setCell ⟨B, i, none⟩ v) (some B) :=
  ⟨rfl, rfl, rfl, by simp [World.setCell], fun k _ hne => Below.heap_setCell w ⟨B, i, none⟩ v k (by simpa using hne)⟩
theorem gbelow {w0 a b : World} {B : Nat} (h : Below w0.heap.size w0 a) (g : a.grownBy b (some B)) (hB : w0.heap.size ≤ B) : Below w0.heap.size w0 b :=
  h.grown g h.size (fun k hk => by cases hk; exact hB)
theorem gof {a b : World} (h : Below a.heap.size a b) (B : Nat) : a.grownBy b (some B) := ⟨h.os, h.tape, h.output, h.size, fun i hi _ => h.block i hi⟩



set_option maxRecDepth 100000 in
set_option maxHeartbeats 4000000 in
theorem weigh1_any (o : Od) (w0 : World) (t : T) : ∀ (v : Value), IsT w0 t v → o.knows t = true → ∀ (W : World) (x : Int) (Bo Bn Bw : Nat) (a3 a4 : Option Addr) (c3 c4 : Nat), Below w0.heap.size w0 W → w0.heap.size ≤ Bn → Bo ≠ Bn → Bw ≠ Bn →
    o.weights.length ≤ c4 → c4 ≤ maxLen → IsInts w0 o.weights a4 → I64 o.var → Box W Bo [.bool o.lpo, .slice a3 o.prec.length c3, .slice a4 o.weights.length c4, .int .i64 o.var] → Box W Bw [.func (.func 41) #[] #[.pointer (some ⟨Bo, 0, none⟩), .pointer (some ⟨Bn, 0, none⟩), .pointer (some ⟨Bw, 0, none⟩)]] →
    W.heap[Bn]? = some (.cells #[.int .i64 x] 3 (0, 0)) → 0 ≤ x → x ≤ 2147483647 →
    Calls Try.prog 41 #[v, .pointer (some ⟨Bo, 0, none⟩), .pointer (some ⟨Bn, 0, none⟩), .pointer (some ⟨Bw, 0, none⟩)] W fun e W' => e = .returned (.tuple #[]) ∧
      W'.heap[Bn]? = some (.cells #[.int .i64 (min (x + o.raw t) Od.most)] 3 (0, 0)) ∧ W.grownBy W' (some Bn) := by
  induction t using T.ind with
  | h f l ih =>
  intro v hv hk W x Bo Bn Bw a3 a4 c3 c4 hb hBn hon hwn n3 n4 p2 p3 hBo hBw hn hx0 hx1
  have hvv := p3
  obtain ⟨⟨hf1, hf2⟩, a, c, rfl, hc, hm, hl⟩ := hv
  unfold maxLen at hm n4
  have K := Od.knows_args hk
  obtain ⟨u0, u1, u2, u3⟩ := hBo.four
  have u0 := calloc u0
  have u1 := calloc u1
  have u2 := calloc u2
  have u3 := calloc u3
  have wf := calloc hBw.one
  have nf := calloc (cell_of_one hn)
  have cf : ∀ o, (W.alloc o).frozen? ⟨Bn, 0, none⟩ = false := fun o => free_of_one ((Below.heap_alloc _ _ _ (lt_of_block hn)).trans hn)
  have hn := Lib.hid hn
  have hb := Lib.hid hb
  have hBw0 := Lib.hid hBw
  have hBo0 := Lib.hid hBo
  have IHH := ih
  clear ih
  have ih := Lib.hid IHH
  clear IHH
  by_cases h0 : f < 0
  · obtain ⟨_, rfl⟩ := K.resolve_right (by omega)
    have hall : Hid (∀ a ∈ ([] : List T), o.knows a = true) := by unfold Hid; simp
    have ER := Lib.hid (show o.raw (.mk f []) = Od.clamp o.var + o.rawL [] by rw [Od.raw, Od.wsym, if_pos h0])
    generalize hll : ([] : List T) = l at *
    clear hll K
    obtain ⟨v1, v2⟩ := hvv
    rcases Int.lt_or_le o.var 0 with s1 | s1
    · go_enter Try.func41, Try.ntmps41
      go_wp2_with fail
      go_loopw [28] (fun i wr => ∃ (k : Nat) (y : Int), k ≤ l.length ∧ i = .int .i64 k ∧ 0 ≤ y ∧ y ≤ 2147483647 ∧ Hid (y = min (x + Od.clamp o.var + o.rawL (l.take k)) Od.most) ∧ W.grownBy wr (some Bn) ∧ wr.heap[Bn]? = some (.cells #[.int .i64 y] 3 (0, 0))) (fun i _ => l.length - (intOf i).toNat)
      case atStart =>
        refine ⟨0, _, Nat.zero_le _, rfl, ?_, ?_, ?_, gtrans (galloc _ _ _) (gset _ _ _ _), one_setCell ((Below.heap_alloc _ _ _ (lt_of_block hn.out)).trans hn.out)⟩
        · omega
        · omega
        · unfold Hid; simp only [List.take_zero, Od.rawL]; unfold Od.clamp Od.most; omega
      case round =>
        clear u0 u1 u2 u3 wf nf cf
        obtain ⟨k, y, hk, rfl, hy0, hy1, hy, hg, hn2⟩ := hrel
        have hb2 := gbelow hb.out hg hBn
        by_cases hlt : k < l.length
        · obtain ⟨b, oo, a', c', rfl, g1, g2, h3⟩ := hl.at2 hb2 k hlt
          have hmem := List.getElem_mem hlt
          have B2 := hBw0.out.grown hg hwn
          have B1 := hBo0.out.grown hg hon
          have wf := calloc B2.one
          have IH := fun W0 hW => ih.out l[k] hmem _ h3 (hall.out _ hmem) W0 y Bo Bn Bw a3 _ c3 c4 hW hBn hon hwn n3 n4 p2 p3
          have q5 := o.rawL_take_succ l k hlt
          have R := o.raw_nonneg l[k]
          have RL := o.rawL_nonneg (l.take k)
          have CL : 0 ≤ Od.clamp o.var := by unfold Od.clamp; omega
          have Hhb2 := Lib.hid hb2
          have HB1 := Lib.hid B1
          have HB2 := Lib.hid B2
          have Hhn2 := Lib.hid hn2
          have Hhg := Lib.hid hg
          have Hq5 := Lib.hid q5
          have Hhy := Lib.hid hy
          have Hh3 := Lib.hid h3
          have HR := Lib.hid R
          have HRL := Lib.hid RL
          have HCL := Lib.hid CL
          clear hb2 B1 B2 hn2 hg q5 hy h3 R RL CL
          clear hl
          go_wp2_with (go_at_call 41; refine (IH _ (bstep Hhb2.out (balloc _ _)) (HB1.out.alloc _) (HB2.out.alloc _) ((Below.heap_alloc _ _ _ (lt_of_block Hhn2.out)).trans Hhn2.out) (by omega) (by omega)).mono ?_; rintro e w' ⟨rfl, hn3, hg3⟩)
          have Hn3 := Lib.hid hn3
          clear hn3
          go_wp2_with fail
          go_roundw
          case rel =>
            refine ⟨k + 1, _, by omega, by go_num, ?_, ?_, ?_, gtrans Hhg.out (gtrans (galloc _ _ _) hg3), Hn3.out⟩
            · have := HR.out; unfold Od.most; omega
            · unfold Od.most; omega
            · have e1 := Hq5.out
              have e2 := Hhy.out
              have e3 := HR.out
              have e4 := HRL.out
              have e5 := HCL.out
              unfold Hid
              rw [e2, e1]
              generalize Od.clamp o.var = cw at *
              unfold Od.most
              omega
          case measure => simp [intOf]; omega
        · go_wp2_with fail
          go_end0
          obtain rfl : k = l.length := by omega
          refine ⟨rfl, ?_, hg⟩
          rw [hn2, hy.out, List.take_length, ER.out, Int.add_assoc]
    · rcases Int.lt_or_le 2147483647 o.var with s2 | s2
      · rcases Int.lt_or_le 0 x with s4 | s4
        · go_enter Try.func41, Try.ntmps41
          go_wp2_with fail
          go_loopw [28] (fun i wr => ∃ (k : Nat) (y : Int), k ≤ l.length ∧ i = .int .i64 k ∧ 0 ≤ y ∧ y ≤ 2147483647 ∧ Hid (y = min (x + Od.clamp o.var + o.rawL (l.take k)) Od.most) ∧ W.grownBy wr (some Bn) ∧ wr.heap[Bn]? = some (.cells #[.int .i64 y] 3 (0, 0))) (fun i _ => l.length - (intOf i).toNat)
          case atStart =>
            refine ⟨0, _, Nat.zero_le _, rfl, ?_, ?_, ?_, gtrans (galloc _ _ _) (gset _ _ _ _), one_setCell ((Below.heap_alloc _ _ _ (lt_of_block hn.out)).trans hn.out)⟩
            · omega
            · omega
            · unfold Hid; simp only [List.take_zero, Od.rawL]; unfold Od.clamp Od.most; omega
          case round =>
            clear u0 u1 u2 u3 wf nf cf
            obtain ⟨k, y, hk, rfl, hy0, hy1, hy, hg, hn2⟩ := hrel
            have hb2 := gbelow hb.out hg hBn
            by_cases hlt : k < l.length
            · obtain ⟨b, oo, a', c', rfl, g1, g2, h3⟩ := hl.at2 hb2 k hlt
              have hmem := List.getElem_mem hlt
              have B2 := hBw0.out.grown hg hwn
              have B1 := hBo0.out.grown hg hon
              have wf := calloc B2.one
              have IH := fun W0 hW => ih.out l[k] hmem _ h3 (hall.out _ hmem) W0 y Bo Bn Bw a3 _ c3 c4 hW hBn hon hwn n3 n4 p2 p3
              have q5 := o.rawL_take_succ l k hlt
              have R := o.raw_nonneg l[k]
              have RL := o.rawL_nonneg (l.take k)
              have CL : 0 ≤ Od.clamp o.var := by unfold Od.clamp; omega
              have Hhb2 := Lib.hid hb2
              have HB1 := Lib.hid B1
              have HB2 := Lib.hid B2
              have Hhn2 := Lib.hid hn2
              have Hhg := Lib.hid hg
              have Hq5 := Lib.hid q5
              have Hhy := Lib.hid hy
              have Hh3 := Lib.hid h3
              have HR := Lib.hid R
              have HRL := Lib.hid RL
              have HCL := Lib.hid CL
              clear hb2 B1 B2 hn2 hg q5 hy h3 R RL CL
              clear hl
              go_wp2_with (go_at_call 41; refine (IH _ (bstep Hhb2.out (balloc _ _)) (HB1.out.alloc _) (HB2.out.alloc _) ((Below.heap_alloc _ _ _ (lt_of_block Hhn2.out)).trans Hhn2.out) (by omega) (by omega)).mono ?_; rintro e w' ⟨rfl, hn3, hg3⟩)
              have Hn3 := Lib.hid hn3
              clear hn3
              go_wp2_with fail
              go_roundw
              case rel =>
                refine ⟨k + 1, _, by omega, by go_num, ?_, ?_, ?_, gtrans Hhg.out (gtrans (galloc _ _ _) hg3), Hn3.out⟩
                · have := HR.out; unfold Od.most; omega
                · unfold Od.most; omega
                · have e1 := Hq5.out
                  have e2 := Hhy.out
                  have e3 := HR.out
                  have e4 := HRL.out
                  have e5 := HCL.out
                  unfold Hid
                  rw [e2, e1]
                  generalize Od.clamp o.var = cw at *
                  unfold Od.most
                  omega
              case measure => simp [intOf]; omega
            · go_wp2_with fail
              go_end0
              obtain rfl : k = l.length := by omega
              refine ⟨rfl, ?_, hg⟩
              rw [hn2, hy.out, List.take_length, ER.out, Int.add_assoc]
        · go_enter Try.func41, Try.ntmps41
          go_wp2_with fail
          go_loopw [28] (fun i wr => ∃ (k : Nat) (y : Int), k ≤ l.length ∧ i = .int .i64 k ∧ 0 ≤ y ∧ y ≤ 2147483647 ∧ Hid (y = min (x + Od.clamp o.var + o.rawL (l.take k)) Od.most) ∧ W.grownBy wr (some Bn) ∧ wr.heap[Bn]? = some (.cells #[.int .i64 y] 3 (0, 0))) (fun i _ => l.length - (intOf i).toNat)
          case atStart =>
            refine ⟨0, _, Nat.zero_le _, rfl, ?_, ?_, ?_, gtrans (galloc _ _ _) (gset _ _ _ _), one_setCell ((Below.heap_alloc _ _ _ (lt_of_block hn.out)).trans hn.out)⟩
            · omega
            · omega
            · unfold Hid; simp only [List.take_zero, Od.rawL]; unfold Od.clamp Od.most; omega
          case round =>
            clear u0 u1 u2 u3 wf nf cf
            obtain ⟨k, y, hk, rfl, hy0, hy1, hy, hg, hn2⟩ := hrel
            have hb2 := gbelow hb.out hg hBn
            by_cases hlt : k < l.length
            · obtain ⟨b, oo, a', c', rfl, g1, g2, h3⟩ := hl.at2 hb2 k hlt
              have hmem := List.getElem_mem hlt
              have B2 := hBw0.out.grown hg hwn
              have B1 := hBo0.out.grown hg hon
              have wf := calloc B2.one
              have IH := fun W0 hW => ih.out l[k] hmem _ h3 (hall.out _ hmem) W0 y Bo Bn Bw a3 _ c3 c4 hW hBn hon hwn n3 n4 p2 p3
              have q5 := o.rawL_take_succ l k hlt
              have R := o.raw_nonneg l[k]
              have RL := o.rawL_nonneg (l.take k)
              have CL : 0 ≤ Od.clamp o.var := by unfold Od.clamp; omega
              have Hhb2 := Lib.hid hb2
              have HB1 := Lib.hid B1
              have HB2 := Lib.hid B2
              have Hhn2 := Lib.hid hn2
              have Hhg := Lib.hid hg
              have Hq5 := Lib.hid q5
              have Hhy := Lib.hid hy
              have Hh3 := Lib.hid h3
              have HR := Lib.hid R
              have HRL := Lib.hid RL
              have HCL := Lib.hid CL
              clear hb2 B1 B2 hn2 hg q5 hy h3 R RL CL
              clear hl
              go_wp2_with (go_at_call 41; refine (IH _ (bstep Hhb2.out (balloc _ _)) (HB1.out.alloc _) (HB2.out.alloc _) ((Below.heap_alloc _ _ _ (lt_of_block Hhn2.out)).trans Hhn2.out) (by omega) (by omega)).mono ?_; rintro e w' ⟨rfl, hn3, hg3⟩)
              have Hn3 := Lib.hid hn3
              clear hn3
              go_wp2_with fail
              go_roundw
              case rel =>
                refine ⟨k + 1, _, by omega, by go_num, ?_, ?_, ?_, gtrans Hhg.out (gtrans (galloc _ _ _) hg3), Hn3.out⟩
                · have := HR.out; unfold Od.most; omega
                · unfold Od.most; omega
                · have e1 := Hq5.out
                  have e2 := Hhy.out
                  have e3 := HR.out
                  have e4 := HRL.out
                  have e5 := HCL.out
                  unfold Hid
                  rw [e2, e1]
                  generalize Od.clamp o.var = cw at *
                  unfold Od.most
                  omega
              case measure => simp [intOf]; omega
            · go_wp2_with fail
              go_end0
              obtain rfl : k = l.length := by omega
              refine ⟨rfl, ?_, hg⟩
              rw [hn2, hy.out, List.take_length, ER.out, Int.add_assoc]
      · rcases Int.lt_or_le 2147483647 (x + o.var) with s3 | s3
        · go_enter Try.func41, Try.ntmps41
          go_wp2_with fail
          go_loopw [28] (fun i wr => ∃ (k : Nat) (y : Int), k ≤ l.length ∧ i = .int .i64 k ∧ 0 ≤ y ∧ y ≤ 2147483647 ∧ Hid (y = min (x + Od.clamp o.var + o.rawL (l.take k)) Od.most) ∧ W.grownBy wr (some Bn) ∧ wr.heap[Bn]? = some (.cells #[.int .i64 y] 3 (0, 0))) (fun i _ => l.length - (intOf i).toNat)
          case atStart =>
            refine ⟨0, _, Nat.zero_le _, rfl, ?_, ?_, ?_, gtrans (galloc _ _ _) (gset _ _ _ _), one_setCell ((Below.heap_alloc _ _ _ (lt_of_block hn.out)).trans hn.out)⟩
            · omega
            · omega
            · unfold Hid; simp only [List.take_zero, Od.rawL]; unfold Od.clamp Od.most; omega
          case round =>
            clear u0 u1 u2 u3 wf nf cf
            obtain ⟨k, y, hk, rfl, hy0, hy1, hy, hg, hn2⟩ := hrel
            have hb2 := gbelow hb.out hg hBn
            by_cases hlt : k < l.length
            · obtain ⟨b, oo, a', c', rfl, g1, g2, h3⟩ := hl.at2 hb2 k hlt
              have hmem := List.getElem_mem hlt
              have B2 := hBw0.out.grown hg hwn
              have B1 := hBo0.out.grown hg hon
              have wf := calloc B2.one
              have IH := fun W0 hW => ih.out l[k] hmem _ h3 (hall.out _ hmem) W0 y Bo Bn Bw a3 _ c3 c4 hW hBn hon hwn n3 n4 p2 p3
              have q5 := o.rawL_take_succ l k hlt
              have R := o.raw_nonneg l[k]
              have RL := o.rawL_nonneg (l.take k)
              have CL : 0 ≤ Od.clamp o.var := by unfold Od.clamp; omega
              have Hhb2 := Lib.hid hb2
              have HB1 := Lib.hid B1
              have HB2 := Lib.hid B2
              have Hhn2 := Lib.hid hn2
              have Hhg := Lib.hid hg
              have Hq5 := Lib.hid q5
              have Hhy := Lib.hid hy
              have Hh3 := Lib.hid h3
              have HR := Lib.hid R
              have HRL := Lib.hid RL
              have HCL := Lib.hid CL
              clear hb2 B1 B2 hn2 hg q5 hy h3 R RL CL
              clear hl
              go_wp2_with (go_at_call 41; refine (IH _ (bstep Hhb2.out (balloc _ _)) (HB1.out.alloc _) (HB2.out.alloc _) ((Below.heap_alloc _ _ _ (lt_of_block Hhn2.out)).trans Hhn2.out) (by omega) (by omega)).mono ?_; rintro e w' ⟨rfl, hn3, hg3⟩)
              have Hn3 := Lib.hid hn3
              clear hn3
              go_wp2_with fail
              go_roundw
              case rel =>
                refine ⟨k + 1, _, by omega, by go_num, ?_, ?_, ?_, gtrans Hhg.out (gtrans (galloc _ _ _) hg3), Hn3.out⟩
                · have := HR.out; unfold Od.most; omega
                · unfold Od.most; omega
                · have e1 := Hq5.out
                  have e2 := Hhy.out
                  have e3 := HR.out
                  have e4 := HRL.out
                  have e5 := HCL.out
                  unfold Hid
                  rw [e2, e1]
                  generalize Od.clamp o.var = cw at *
                  unfold Od.most
                  omega
              case measure => simp [intOf]; omega
            · go_wp2_with fail
              go_end0
              obtain rfl : k = l.length := by omega
              refine ⟨rfl, ?_, hg⟩
              rw [hn2, hy.out, List.take_length, ER.out, Int.add_assoc]
        · go_enter Try.func41, Try.ntmps41
          go_wp2_with fail
          go_loopw [28] (fun i wr => ∃ (k : Nat) (y : Int), k ≤ l.length ∧ i = .int .i64 k ∧ 0 ≤ y ∧ y ≤ 2147483647 ∧ Hid (y = min (x + Od.clamp o.var + o.rawL (l.take k)) Od.most) ∧ W.grownBy wr (some Bn) ∧ wr.heap[Bn]? = some (.cells #[.int .i64 y] 3 (0, 0))) (fun i _ => l.length - (intOf i).toNat)
          case atStart =>
            refine ⟨0, _, Nat.zero_le _, rfl, ?_, ?_, ?_, gtrans (galloc _ _ _) (gset _ _ _ _), one_setCell ((Below.heap_alloc _ _ _ (lt_of_block hn.out)).trans hn.out)⟩
            · omega
            · omega
            · unfold Hid; simp only [List.take_zero, Od.rawL]; unfold Od.clamp Od.most; omega
          case round =>
            clear u0 u1 u2 u3 wf nf cf
            obtain ⟨k, y, hk, rfl, hy0, hy1, hy, hg, hn2⟩ := hrel
            have hb2 := gbelow hb.out hg hBn
            by_cases hlt : k < l.length
            · obtain ⟨b, oo, a', c', rfl, g1, g2, h3⟩ := hl.at2 hb2 k hlt
              have hmem := List.getElem_mem hlt
              have B2 := hBw0.out.grown hg hwn
              have B1 := hBo0.out.grown hg hon
              have wf := calloc B2.one
              have IH := fun W0 hW => ih.out l[k] hmem _ h3 (hall.out _ hmem) W0 y Bo Bn Bw a3 _ c3 c4 hW hBn hon hwn n3 n4 p2 p3
              have q5 := o.rawL_take_succ l k hlt
              have R := o.raw_nonneg l[k]
              have RL := o.rawL_nonneg (l.take k)
              have CL : 0 ≤ Od.clamp o.var := by unfold Od.clamp; omega
              have Hhb2 := Lib.hid hb2
              have HB1 := Lib.hid B1
              have HB2 := Lib.hid B2
              have Hhn2 := Lib.hid hn2
              have Hhg := Lib.hid hg
              have Hq5 := Lib.hid q5
              have Hhy := Lib.hid hy
              have Hh3 := Lib.hid h3
              have HR := Lib.hid R
              have HRL := Lib.hid RL
              have HCL := Lib.hid CL
              clear hb2 B1 B2 hn2 hg q5 hy h3 R RL CL
              clear hl
              go_wp2_with (go_at_call 41; refine (IH _ (bstep Hhb2.out (balloc _ _)) (HB1.out.alloc _) (HB2.out.alloc _) ((Below.heap_alloc _ _ _ (lt_of_block Hhn2.out)).trans Hhn2.out) (by omega) (by omega)).mono ?_; rintro e w' ⟨rfl, hn3, hg3⟩)
              have Hn3 := Lib.hid hn3
              clear hn3
              go_wp2_with fail
              go_roundw
              case rel =>
                refine ⟨k + 1, _, by omega, by go_num, ?_, ?_, ?_, gtrans Hhg.out (gtrans (galloc _ _ _) hg3), Hn3.out⟩
                · have := HR.out; unfold Od.most; omega
                · unfold Od.most; omega
                · have e1 := Hq5.out
                  have e2 := Hhy.out
                  have e3 := HR.out
                  have e4 := HRL.out
                  have e5 := HCL.out
                  unfold Hid
                  rw [e2, e1]
                  generalize Od.clamp o.var = cw at *
                  unfold Od.most
                  omega
              case measure => simp [intOf]; omega
            · go_wp2_with fail
              go_end0
              obtain rfl : k = l.length := by omega
              refine ⟨rfl, ?_, hg⟩
              rw [hn2, hy.out, List.take_length, ER.out, Int.add_assoc]
  · obtain ⟨z0, z1, z2, hall⟩ := K.resolve_left (by omega)
    obtain ⟨b5, o5, rfl, g5, hi5⟩ := p2.at_ (bstep hb.out (balloc _ (.cells #[.int .i64 f, .slice a l.length c] 27))) f.toNat (by omega)
    have ER : o.raw (.mk f l) = Od.clamp (o.weights[f.toNat]'(by omega)) + o.rawL l := by rw [Od.raw, Od.wsym, if_neg h0]; simp [List.getD, show f.toNat < o.weights.length by omega]
    obtain ⟨hi5, hi6⟩ := hi5
    generalize o.weights[f.toNat]'(by omega) = wt at *
    have ER := Lib.hid ER
    have hall := Lib.hid hall
    clear K
    rcases Int.lt_or_le wt 0 with s1 | s1
    · go_enter Try.func41, Try.ntmps41
      go_wp2_with fail
      go_loopw [28] (fun i wr => ∃ (k : Nat) (y : Int), k ≤ l.length ∧ i = .int .i64 k ∧ 0 ≤ y ∧ y ≤ 2147483647 ∧ Hid (y = min (x + Od.clamp wt + o.rawL (l.take k)) Od.most) ∧ W.grownBy wr (some Bn) ∧ wr.heap[Bn]? = some (.cells #[.int .i64 y] 3 (0, 0))) (fun i _ => l.length - (intOf i).toNat)
      case atStart =>
        refine ⟨0, _, Nat.zero_le _, rfl, ?_, ?_, ?_, gtrans (galloc _ _ _) (gset _ _ _ _), one_setCell ((Below.heap_alloc _ _ _ (lt_of_block hn.out)).trans hn.out)⟩
        · omega
        · omega
        · unfold Hid; simp only [List.take_zero, Od.rawL]; unfold Od.clamp Od.most; omega
      case round =>
        clear u0 u1 u2 u3 wf nf cf
        obtain ⟨k, y, hk, rfl, hy0, hy1, hy, hg, hn2⟩ := hrel
        have hb2 := gbelow hb.out hg hBn
        by_cases hlt : k < l.length
        · obtain ⟨b, oo, a', c', rfl, g1, g2, h3⟩ := hl.at2 hb2 k hlt
          have hmem := List.getElem_mem hlt
          have B2 := hBw0.out.grown hg hwn
          have B1 := hBo0.out.grown hg hon
          have wf := calloc B2.one
          have IH := fun W0 hW => ih.out l[k] hmem _ h3 (hall.out _ hmem) W0 y Bo Bn Bw a3 _ c3 c4 hW hBn hon hwn n3 n4 p2 p3
          have q5 := o.rawL_take_succ l k hlt
          have R := o.raw_nonneg l[k]
          have RL := o.rawL_nonneg (l.take k)
          have CL : 0 ≤ Od.clamp wt := by unfold Od.clamp; omega
          have Hhb2 := Lib.hid hb2
          have HB1 := Lib.hid B1
          have HB2 := Lib.hid B2
          have Hhn2 := Lib.hid hn2
          have Hhg := Lib.hid hg
          have Hq5 := Lib.hid q5
          have Hhy := Lib.hid hy
          have Hh3 := Lib.hid h3
          have HR := Lib.hid R
          have HRL := Lib.hid RL
          have HCL := Lib.hid CL
          clear hb2 B1 B2 hn2 hg q5 hy h3 R RL CL
          clear hl
          go_wp2_with (go_at_call 41; refine (IH _ (bstep Hhb2.out (balloc _ _)) (HB1.out.alloc _) (HB2.out.alloc _) ((Below.heap_alloc _ _ _ (lt_of_block Hhn2.out)).trans Hhn2.out) (by omega) (by omega)).mono ?_; rintro e w' ⟨rfl, hn3, hg3⟩)
          have Hn3 := Lib.hid hn3
          clear hn3
          go_wp2_with fail
          go_roundw
          case rel =>
            refine ⟨k + 1, _, by omega, by go_num, ?_, ?_, ?_, gtrans Hhg.out (gtrans (galloc _ _ _) hg3), Hn3.out⟩
            · have := HR.out; unfold Od.most; omega
            · unfold Od.most; omega
            · have e1 := Hq5.out
              have e2 := Hhy.out
              have e3 := HR.out
              have e4 := HRL.out
              have e5 := HCL.out
              unfold Hid
              rw [e2, e1]
              generalize Od.clamp wt = cw at *
              unfold Od.most
              omega
          case measure => simp [intOf]; omega
        · go_wp2_with fail
          go_end0
          obtain rfl : k = l.length := by omega
          refine ⟨rfl, ?_, hg⟩
          rw [hn2, hy.out, List.take_length, ER.out, Int.add_assoc]
    · rcases Int.lt_or_le 2147483647 wt with s2 | s2
      · rcases Int.lt_or_le 0 x with s4 | s4
        · go_enter Try.func41, Try.ntmps41
          go_wp2_with fail
          go_loopw [28] (fun i wr => ∃ (k : Nat) (y : Int), k ≤ l.length ∧ i = .int .i64 k ∧ 0 ≤ y ∧ y ≤ 2147483647 ∧ Hid (y = min (x + Od.clamp wt + o.rawL (l.take k)) Od.most) ∧ W.grownBy wr (some Bn) ∧ wr.heap[Bn]? = some (.cells #[.int .i64 y] 3 (0, 0))) (fun i _ => l.length - (intOf i).toNat)
          case atStart =>
            refine ⟨0, _, Nat.zero_le _, rfl, ?_, ?_, ?_, gtrans (galloc _ _ _) (gset _ _ _ _), one_setCell ((Below.heap_alloc _ _ _ (lt_of_block hn.out)).trans hn.out)⟩
            · omega
            · omega
            · unfold Hid; simp only [List.take_zero, Od.rawL]; unfold Od.clamp Od.most; omega
          case round =>
            clear u0 u1 u2 u3 wf nf cf
            obtain ⟨k, y, hk, rfl, hy0, hy1, hy, hg, hn2⟩ := hrel
            have hb2 := gbelow hb.out hg hBn
            by_cases hlt : k < l.length
            · obtain ⟨b, oo, a', c', rfl, g1, g2, h3⟩ := hl.at2 hb2 k hlt
              have hmem := List.getElem_mem hlt
              have B2 := hBw0.out.grown hg hwn
              have B1 := hBo0.out.grown hg hon
              have wf := calloc B2.one
              have IH := fun W0 hW => ih.out l[k] hmem _ h3 (hall.out _ hmem) W0 y Bo Bn Bw a3 _ c3 c4 hW hBn hon hwn n3 n4 p2 p3
              have q5 := o.rawL_take_succ l k hlt
              have R := o.raw_nonneg l[k]
              have RL := o.rawL_nonneg (l.take k)
              have CL : 0 ≤ Od.clamp wt := by unfold Od.clamp; omega
              have Hhb2 := Lib.hid hb2
              have HB1 := Lib.hid B1
              have HB2 := Lib.hid B2
              have Hhn2 := Lib.hid hn2
              have Hhg := Lib.hid hg
              have Hq5 := Lib.hid q5
              have Hhy := Lib.hid hy
              have Hh3 := Lib.hid h3
              have HR := Lib.hid R
              have HRL := Lib.hid RL
              have HCL := Lib.hid CL
              clear hb2 B1 B2 hn2 hg q5 hy h3 R RL CL
              clear hl
              go_wp2_with (go_at_call 41; refine (IH _ (bstep Hhb2.out (balloc _ _)) (HB1.out.alloc _) (HB2.out.alloc _) ((Below.heap_alloc _ _ _ (lt_of_block Hhn2.out)).trans Hhn2.out) (by omega) (by omega)).mono ?_; rintro e w' ⟨rfl, hn3, hg3⟩)
              have Hn3 := Lib.hid hn3
              clear hn3
              go_wp2_with fail
              go_roundw
              case rel =>
                refine ⟨k + 1, _, by omega, by go_num, ?_, ?_, ?_, gtrans Hhg.out (gtrans (galloc _ _ _) hg3), Hn3.out⟩
                · have := HR.out; unfold Od.most; omega
                · unfold Od.most; omega
                · have e1 := Hq5.out
                  have e2 := Hhy.out
                  have e3 := HR.out
                  have e4 := HRL.out
                  have e5 := HCL.out
                  unfold Hid
                  rw [e2, e1]
                  generalize Od.clamp wt = cw at *
                  unfold Od.most
                  omega
              case measure => simp [intOf]; omega
            · go_wp2_with fail
              go_end0
              obtain rfl : k = l.length := by omega
              refine ⟨rfl, ?_, hg⟩
              rw [hn2, hy.out, List.take_length, ER.out, Int.add_assoc]
        · go_enter Try.func41, Try.ntmps41
          go_wp2_with fail
          go_loopw [28] (fun i wr => ∃ (k : Nat) (y : Int), k ≤ l.length ∧ i = .int .i64 k ∧ 0 ≤ y ∧ y ≤ 2147483647 ∧ Hid (y = min (x + Od.clamp wt + o.rawL (l.take k)) Od.most) ∧ W.grownBy wr (some Bn) ∧ wr.heap[Bn]? = some (.cells #[.int .i64 y] 3 (0, 0))) (fun i _ => l.length - (intOf i).toNat)
          case atStart =>
            refine ⟨0, _, Nat.zero_le _, rfl, ?_, ?_, ?_, gtrans (galloc _ _ _) (gset _ _ _ _), one_setCell ((Below.heap_alloc _ _ _ (lt_of_block hn.out)).trans hn.out)⟩
            · omega
            · omega
            · unfold Hid; simp only [List.take_zero, Od.rawL]; unfold Od.clamp Od.most; omega
          case round =>
            clear u0 u1 u2 u3 wf nf cf
            obtain ⟨k, y, hk, rfl, hy0, hy1, hy, hg, hn2⟩ := hrel
            have hb2 := gbelow hb.out hg hBn
            by_cases hlt : k < l.length
            · obtain ⟨b, oo, a', c', rfl, g1, g2, h3⟩ := hl.at2 hb2 k hlt
              have hmem := List.getElem_mem hlt
              have B2 := hBw0.out.grown hg hwn
              have B1 := hBo0.out.grown hg hon
              have wf := calloc B2.one
              have IH := fun W0 hW => ih.out l[k] hmem _ h3 (hall.out _ hmem) W0 y Bo Bn Bw a3 _ c3 c4 hW hBn hon hwn n3 n4 p2 p3
              have q5 := o.rawL_take_succ l k hlt
              have R := o.raw_nonneg l[k]
              have RL := o.rawL_nonneg (l.take k)
              have CL : 0 ≤ Od.clamp wt := by unfold Od.clamp; omega
              have Hhb2 := Lib.hid hb2
              have HB1 := Lib.hid B1
              have HB2 := Lib.hid B2
              have Hhn2 := Lib.hid hn2
              have Hhg := Lib.hid hg
              have Hq5 := Lib.hid q5
              have Hhy := Lib.hid hy
              have Hh3 := Lib.hid h3
              have HR := Lib.hid R
              have HRL := Lib.hid RL
              have HCL := Lib.hid CL
              clear hb2 B1 B2 hn2 hg q5 hy h3 R RL CL
              clear hl
              go_wp2_with (go_at_call 41; refine (IH _ (bstep Hhb2.out (balloc _ _)) (HB1.out.alloc _) (HB2.out.alloc _) ((Below.heap_alloc _ _ _ (lt_of_block Hhn2.out)).trans Hhn2.out) (by omega) (by omega)).mono ?_; rintro e w' ⟨rfl, hn3, hg3⟩)
              have Hn3 := Lib.hid hn3
              clear hn3
              go_wp2_with fail
              go_roundw
              case rel =>
                refine ⟨k + 1, _, by omega, by go_num, ?_, ?_, ?_, gtrans Hhg.out (gtrans (galloc _ _ _) hg3), Hn3.out⟩
                · have := HR.out; unfold Od.most; omega
                · unfold Od.most; omega
                · have e1 := Hq5.out
                  have e2 := Hhy.out
                  have e3 := HR.out
                  have e4 := HRL.out
                  have e5 := HCL.out
                  unfold Hid
                  rw [e2, e1]
                  generalize Od.clamp wt = cw at *
                  unfold Od.most
                  omega
              case measure => simp [intOf]; omega
            · go_wp2_with fail
              go_end0
              obtain rfl : k = l.length := by omega
              refine ⟨rfl, ?_, hg⟩
              rw [hn2, hy.out, List.take_length, ER.out, Int.add_assoc]
      · rcases Int.lt_or_le 2147483647 (x + wt) with s3 | s3
        · go_enter Try.func41, Try.ntmps41
          go_wp2_with fail
          go_loopw [28] (fun i wr => ∃ (k : Nat) (y : Int), k ≤ l.length ∧ i = .int .i64 k ∧ 0 ≤ y ∧ y ≤ 2147483647 ∧ Hid (y = min (x + Od.clamp wt + o.rawL (l.take k)) Od.most) ∧ W.grownBy wr (some Bn) ∧ wr.heap[Bn]? = some (.cells #[.int .i64 y] 3 (0, 0))) (fun i _ => l.length - (intOf i).toNat)
          case atStart =>
            refine ⟨0, _, Nat.zero_le _, rfl, ?_, ?_, ?_, gtrans (galloc _ _ _) (gset _ _ _ _), one_setCell ((Below.heap_alloc _ _ _ (lt_of_block hn.out)).trans hn.out)⟩
            · omega
            · omega
            · unfold Hid; simp only [List.take_zero, Od.rawL]; unfold Od.clamp Od.most; omega
          case round =>
            clear u0 u1 u2 u3 wf nf cf
            obtain ⟨k, y, hk, rfl, hy0, hy1, hy, hg, hn2⟩ := hrel
            have hb2 := gbelow hb.out hg hBn
            by_cases hlt : k < l.length
            · obtain ⟨b, oo, a', c', rfl, g1, g2, h3⟩ := hl.at2 hb2 k hlt
              have hmem := List.getElem_mem hlt
              have B2 := hBw0.out.grown hg hwn
              have B1 := hBo0.out.grown hg hon
              have wf := calloc B2.one
              have IH := fun W0 hW => ih.out l[k] hmem _ h3 (hall.out _ hmem) W0 y Bo Bn Bw a3 _ c3 c4 hW hBn hon hwn n3 n4 p2 p3
              have q5 := o.rawL_take_succ l k hlt
              have R := o.raw_nonneg l[k]
              have RL := o.rawL_nonneg (l.take k)
              have CL : 0 ≤ Od.clamp wt := by unfold Od.clamp; omega
              have Hhb2 := Lib.hid hb2
              have HB1 := Lib.hid B1
              have HB2 := Lib.hid B2
              have Hhn2 := Lib.hid hn2
              have Hhg := Lib.hid hg
              have Hq5 := Lib.hid q5
              have Hhy := Lib.hid hy
              have Hh3 := Lib.hid h3
              have HR := Lib.hid R
              have HRL := Lib.hid RL
              have HCL := Lib.hid CL
              clear hb2 B1 B2 hn2 hg q5 hy h3 R RL CL
              clear hl
              go_wp2_with (go_at_call 41; refine (IH _ (bstep Hhb2.out (balloc _ _)) (HB1.out.alloc _) (HB2.out.alloc _) ((Below.heap_alloc _ _ _ (lt_of_block Hhn2.out)).trans Hhn2.out) (by omega) (by omega)).mono ?_; rintro e w' ⟨rfl, hn3, hg3⟩)
              have Hn3 := Lib.hid hn3
              clear hn3
              go_wp2_with fail
              go_roundw
              case rel =>
                refine ⟨k + 1, _, by omega, by go_num, ?_, ?_, ?_, gtrans Hhg.out (gtrans (galloc _ _ _) hg3), Hn3.out⟩
                · have := HR.out; unfold Od.most; omega
                · unfold Od.most; omega
                · have e1 := Hq5.out
                  have e2 := Hhy.out
                  have e3 := HR.out
                  have e4 := HRL.out
                  have e5 := HCL.out
                  unfold Hid
                  rw [e2, e1]
                  generalize Od.clamp wt = cw at *
                  unfold Od.most
                  omega
              case measure => simp [intOf]; omega
            · go_wp2_with fail
              go_end0
              obtain rfl : k = l.length := by omega
              refine ⟨rfl, ?_, hg⟩
              rw [hn2, hy.out, List.take_length, ER.out, Int.add_assoc]
        · go_enter Try.func41, Try.ntmps41
          go_wp2_with fail
          go_loopw [28] (fun i wr => ∃ (k : Nat) (y : Int), k ≤ l.length ∧ i = .int .i64 k ∧ 0 ≤ y ∧ y ≤ 2147483647 ∧ Hid (y = min (x + Od.clamp wt + o.rawL (l.take k)) Od.most) ∧ W.grownBy wr (some Bn) ∧ wr.heap[Bn]? = some (.cells #[.int .i64 y] 3 (0, 0))) (fun i _ => l.length - (intOf i).toNat)
          case atStart =>
            refine ⟨0, _, Nat.zero_le _, rfl, ?_, ?_, ?_, gtrans (galloc _ _ _) (gset _ _ _ _), one_setCell ((Below.heap_alloc _ _ _ (lt_of_block hn.out)).trans hn.out)⟩
            · omega
            · omega
            · unfold Hid; simp only [List.take_zero, Od.rawL]; unfold Od.clamp Od.most; omega
          case round =>
            clear u0 u1 u2 u3 wf nf cf
            obtain ⟨k, y, hk, rfl, hy0, hy1, hy, hg, hn2⟩ := hrel
            have hb2 := gbelow hb.out hg hBn
            by_cases hlt : k < l.length
            · obtain ⟨b, oo, a', c', rfl, g1, g2, h3⟩ := hl.at2 hb2 k hlt
              have hmem := List.getElem_mem hlt
              have B2 := hBw0.out.grown hg hwn
              have B1 := hBo0.out.grown hg hon
              have wf := calloc B2.one
              have IH := fun W0 hW => ih.out l[k] hmem _ h3 (hall.out _ hmem) W0 y Bo Bn Bw a3 _ c3 c4 hW hBn hon hwn n3 n4 p2 p3
              have q5 := o.rawL_take_succ l k hlt
              have R := o.raw_nonneg l[k]
              have RL := o.rawL_nonneg (l.take k)
              have CL : 0 ≤ Od.clamp wt := by unfold Od.clamp; omega
              have Hhb2 := Lib.hid hb2
              have HB1 := Lib.hid B1
              have HB2 := Lib.hid B2
              have Hhn2 := Lib.hid hn2
              have Hhg := Lib.hid hg
              have Hq5 := Lib.hid q5
              have Hhy := Lib.hid hy
              have Hh3 := Lib.hid h3
              have HR := Lib.hid R
              have HRL := Lib.hid RL
              have HCL := Lib.hid CL
              clear hb2 B1 B2 hn2 hg q5 hy h3 R RL CL
              clear hl
              go_wp2_with (go_at_call 41; refine (IH _ (bstep Hhb2.out (balloc _ _)) (HB1.out.alloc _) (HB2.out.alloc _) ((Below.heap_alloc _ _ _ (lt_of_block Hhn2.out)).trans Hhn2.out) (by omega) (by omega)).mono ?_; rintro e w' ⟨rfl, hn3, hg3⟩)
              have Hn3 := Lib.hid hn3
              clear hn3
              go_wp2_with fail
              go_roundw
              case rel =>
                refine ⟨k + 1, _, by omega, by go_num, ?_, ?_, ?_, gtrans Hhg.out (gtrans (galloc _ _ _) hg3), Hn3.out⟩
                · have := HR.out; unfold Od.most; omega
                · unfold Od.most; omega
                · have e1 := Hq5.out
                  have e2 := Hhy.out
                  have e3 := HR.out
                  have e4 := HRL.out
                  have e5 := HCL.out
                  unfold Hid
                  rw [e2, e1]
                  generalize Od.clamp wt = cw at *
                  unfold Od.most
                  omega
              case measure => simp [intOf]; omega
            · go_wp2_with fail
              go_end0
              obtain rfl : k = l.length := by omega
              refine ⟨rfl, ?_, hg⟩
              rw [hn2, hy.out, List.take_length, ER.out, Int.add_assoc]

end Go.Proofs.Ytjkpecjlpgcalaa
