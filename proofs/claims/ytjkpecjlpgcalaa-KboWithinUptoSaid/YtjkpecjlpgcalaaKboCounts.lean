/- The walks through the program's order of Knuth and Bendix: how often variables stand. -/
import Derived.Test.YtjkpecjlpgcalaaKboWeigh
import Derived.Test.YtjkpecjlpgcalaaMapF
namespace Go.Proofs.Ytjkpecjlpgcalaa
open Go.RowKit Go.Sort Go.Maps Go

/-- A function on variables with a term's variables added so often. -/
def addF (F : Int → Int) (b : Int) (t : T) : Int → Int := fun v => F v + b * (if v < 0 then t.often v else 0 : Nat)
def addL (F : Int → Int) (b : Int) (l : List T) : Int → Int := fun v => F v + b * (if v < 0 then T.oftenL v l else 0 : Nat)
theorem addL_nil (F : Int → Int) (b : Int) : addL F b [] = F := by funext v; simp [addL, T.oftenL]
theorem addL_take_succ (F : Int → Int) (b : Int) (l : List T) (k : Nat) (h : k < l.length) : addF (addL F b (l.take k)) b l[k] = addL F b (l.take (k + 1)) := by
  funext v
  unfold addF addL
  rw [T.oftenL_take_succ v l k h]
  by_cases hv : v < 0
  · simp only [if_pos hv, Int.natCast_add, Int.mul_add]; omega
  · simp only [if_neg hv]; omega
theorem addF_mk_neg (F : Int → Int) (b f : Int) (l : List T) (h : f < 0) : addF F b (.mk f l) = addL (updF F f (F f + b)) b l := by
  funext v
  unfold addF addL updF
  rw [T.often]
  by_cases hv : v < 0
  · simp only [if_pos hv]
    by_cases e : v = f
    · subst e; simp only [if_true, Int.natCast_add, Int.mul_add]; simp; omega
    · simp only [if_neg e, if_neg (Ne.symm e), Nat.zero_add]
  · have : ¬ v = f := by omega
    simp only [if_neg hv, if_neg this]
theorem addF_mk_pos (F : Int → Int) (b f : Int) (l : List T) (h : ¬ f < 0) : addF F b (.mk f l) = addL F b l := by
  funext v
  unfold addF addL
  rw [T.often]
  by_cases hv : v < 0
  · have : ¬ f = v := by omega
    simp only [if_pos hv, if_neg this, Nat.zero_add]
  · simp only [if_neg hv]
theorem addL_bound {F : Int → Int} {K : Nat} (hF : ∀ v, -(K : Int) ≤ F v ∧ F v ≤ K) {b : Int} (hb : b = 1 ∨ b = -1) (l : List T) (v : Int) : -((K + T.sizeL l : Nat) : Int) ≤ addL F b l v ∧ addL F b l v ≤ (K + T.sizeL l : Nat) := by
  have h1 := hF v
  have h2 := (T.often_le v).2 l
  unfold addL
  split <;> rcases hb with rfl | rfl <;> omega


set_option maxRecDepth 100000 in
set_option maxHeartbeats 2000000 in
theorem counts1_any (w0 : World) (t : T) : ∀ (v : Value), IsT w0 t v → ∀ (W : World) (b : Int) (Bn Bm Bw K N : Nat) (D : DataW Unit) (F : Int → Int), Below w0.heap.size w0 W → w0.heap.size ≤ Bm → Bn ≠ Bm → Bw ≠ Bm →
    Box W Bn [.map (some Bm)] → Box W Bw [.func (.func 51) #[] #[.pointer (some ⟨Bn, 0, none⟩), .pointer (some ⟨Bw, 0, none⟩)]] →
    W.ownsMap Try.prog 3 (plainElem Try.prog 3) Bm N D → MapF D F → (∀ v, -(K : Int) ≤ F v ∧ F v ≤ K) → K + t.size ≤ 1099511627776 → N ≤ K → (b = 1 ∨ b = -1) →
    Calls Try.prog 51 #[v, .int .i64 b, .pointer (some ⟨Bn, 0, none⟩), .pointer (some ⟨Bw, 0, none⟩)] W fun e W' => e = .returned (.tuple #[]) ∧
      ∃ (N' : Nat) (D' : DataW Unit), N' ≤ K + t.size ∧ W'.ownsMap Try.prog 3 (plainElem Try.prog 3) Bm N' D' ∧ MapF D' (addF F b t) ∧ W.grownBy W' (some Bm) := by
  induction t using T.ind with
  | h f l ih =>
  intro v hv W b Bn Bm Bw K N D F hbw hBm hnm hwm hBn hBw hown hMF hF hK hNK hb
  obtain ⟨⟨hf1, hf2⟩, a, c, rfl, hc, hm, hl⟩ := hv
  unfold maxLen at hm
  rw [T.size] at hK ⊢
  have m0 := calloc hBn.one
  have wf := calloc hBw.one
  have hbw := Lib.hid hbw
  have hBw0 := Lib.hid hBw
  have hBn0 := Lib.hid hBn
  have hbb := Lib.hid hb
  have IHH := ih
  clear ih
  have ih := Lib.hid IHH
  clear IHH
  have hb1 : -1 ≤ b ∧ b ≤ 1 := by omega
  obtain ⟨hb1, hb2⟩ := hb1
  by_cases h0 : f < 0
  · have EF := Lib.hid (addF_mk_neg F b f l h0).symm
    have hFf := hF f
    obtain ⟨hFf1, hFf2⟩ := hFf
    have hFK : ∀ v, -((K + 1 : Nat) : Int) ≤ updF F f (F f + b) v ∧ updF F f (F f + b) v ≤ (K + 1 : Nat) := by
      intro v
      have := hF v
      unfold updF
      split <;> omega
    have hkey : keyOf Try.prog 3 (.int .i64 f) = some (.int .i64 f) := keyOf_int_mk Try.underlying3 (i64_mk hf1 hf2)
    have HM := Lib.hid (hown.isMap)
    have hmlt := hown.lt
    have HhFK := Lib.hid hFK
    have HhMF := Lib.hid hMF
    have Hhown := Lib.hid hown
    have Hhkey := Lib.hid hkey
    have HhF := Lib.hid hF
    clear hFK hMF hown hkey hF
    have hFK := HhFK
    clear HhFK hBw hBn hb
    go_enter Try.func51, Try.ntmps51
    go_wp2_with (first
      | (at_lookup; refine wpList_lookup_own_int _ rfl _ _ 78 rfl 3 3 .i64 lawInt Try.underlying78 Try.underlying3 (zeroInt _) Bm N _ rfl (Hhown.out.alloc _) _ _ rfl Hhkey.out ?_; intro c hat hwc; obtain rfl : c = F f := mapF_eq HhMF.out (i64_mk hf1 hf2) hat; clear hat hwc)
      | (at_mapUpdate; refine wpList_mapUpdate_own _ rfl _ _ _ 78 rfl 3 3 lawInt Try.underlying78 _ Bm N _ rfl (Hhown.out.alloc _) (by unfold maxLen; omega) _ _ _ rfl rfl Hhkey.out _ [] (plainElem_int Try.underlying3 (i64_mk (by omega) (by omega))) ?_; intro w1 hown1 hgrow1; obtain ⟨x0, x1⟩ := (Box.grown (Box.new W [.int .i64 f, .slice a l.length c] 27) hgrow1 (by omega)).two))
    have hg1 := gtrans (galloc W _ _) hgrow1
    have HM1 := mapF_put HM.out HhMF.out (f := f) (x := F f + b)
    have Hhown1 := Lib.hid hown1
    have Hhg1 := Lib.hid hg1
    have HHM1 := Lib.hid HM1
    clear hown1 hg1 HM1
    clear hgrow1
    go_loopw [20] (fun i wr => ∃ (k N : Nat) (D : DataW Unit), k ≤ l.length ∧ i = .int .i64 k ∧ N ≤ (K + 1) + T.sizeL (l.take k) ∧ wr.ownsMap Try.prog 3 (plainElem Try.prog 3) Bm N D ∧ MapF D (addL (updF F f (F f + b)) b (l.take k)) ∧ W.grownBy wr (some Bm)) (fun i _ => l.length - (intOf i).toNat)
    case round =>
      clear m0 wf
      obtain ⟨k, N, D, hk, rfl, hN, hown, hMF, hg⟩ := hrel
      have hb2 := gbelow hbw.out hg hBm
      by_cases hlt : k < l.length
      · obtain ⟨bb, oo, a', c', rfl, g1, g2, h3⟩ := hl.at2 hb2 k hlt
        have hmem := List.getElem_mem hlt
        have B2 := hBw0.out.grown hg hwm
        have B1 := hBn0.out.grown hg hnm
        have wf := calloc B2.one
        have e1 := T.sizeL_take_succ l k hlt
        have e2 := T.sizeL_take_le l (k + 1)
        have IH := fun W0 hW => ih.out l[k] hmem _ h3 W0 b Bn Bm Bw ((K + 1) + T.sizeL (l.take k)) N D (addL (updF F f (F f + b)) b (l.take k)) hW hBm hnm hwm
        have BD := addL_bound hFK.out hbb.out (l.take k)
        have q5 := addL_take_succ (updF F f (F f + b)) b l k hlt
        have Hhb2 := Lib.hid hb2
        have HB1 := Lib.hid B1
        have HB2 := Lib.hid B2
        have Hhg := Lib.hid hg
        have Hh3 := Lib.hid h3
        have Hhown := Lib.hid hown
        have HhMF := Lib.hid hMF
        have HBD := Lib.hid BD
        have Hq5 := Lib.hid q5
        clear hb2 B1 B2 hg h3 hown hMF BD q5
        clear hl
        go_wp2_with (go_at_call 51; refine (IH _ (bstep Hhb2.out (balloc _ _)) (HB1.out.alloc _) (HB2.out.alloc _) (Hhown.out.alloc _) HhMF.out HBD.out (by omega) (by omega) hbb.out).mono ?_; rintro e w' ⟨rfl, N2, D2, hN2, hown2, hMF2, hg2⟩)
        have Hown2 := Lib.hid hown2
        have HMF2 := Lib.hid hMF2
        clear hown2 hMF2
        go_wp2_with fail
        go_roundw
        case rel => exact ⟨k + 1, N2, D2, by omega, by go_num, by omega, Hown2.out, Hq5.out ▸ HMF2.out, gtrans Hhg.out (gtrans (galloc _ _ _) hg2)⟩
        case measure => simp [intOf]; omega
      · obtain rfl : k = l.length := by omega
        rw [List.take_length] at hMF hN
        have Hhown := Lib.hid hown
        have HhMF := Lib.hid hMF
        have Hhg := Lib.hid hg
        clear hown hMF hg
        go_wp2_with fail
        go_end0
        exact ⟨rfl, N, D, by omega, Hhown.out, EF.out ▸ HhMF.out, Hhg.out⟩
    case atStart => exact ⟨0, N + 1, _, Nat.zero_le _, rfl, by omega, Hhown1.out, by rw [List.take_zero, addL_nil]; exact HHM1.out, Hhg1.out⟩
  · have EF := Lib.hid (addF_mk_pos F b f l h0).symm
    have hFK := Lib.hid hF
    have HhMF := Lib.hid hMF
    have Hhown := Lib.hid hown
    clear hMF hown
    clear hF hBw hBn hb
    go_enter Try.func51, Try.ntmps51
    go_wp2_with fail
    go_loopw [20] (fun i wr => ∃ (k N : Nat) (D : DataW Unit), k ≤ l.length ∧ i = .int .i64 k ∧ N ≤ K + T.sizeL (l.take k) ∧ wr.ownsMap Try.prog 3 (plainElem Try.prog 3) Bm N D ∧ MapF D (addL F b (l.take k)) ∧ W.grownBy wr (some Bm)) (fun i _ => l.length - (intOf i).toNat)
    case round =>
      clear m0 wf
      obtain ⟨k, N, D, hk, rfl, hN, hown, hMF, hg⟩ := hrel
      have hb2 := gbelow hbw.out hg hBm
      by_cases hlt : k < l.length
      · obtain ⟨bb, oo, a', c', rfl, g1, g2, h3⟩ := hl.at2 hb2 k hlt
        have hmem := List.getElem_mem hlt
        have B2 := hBw0.out.grown hg hwm
        have B1 := hBn0.out.grown hg hnm
        have wf := calloc B2.one
        have e1 := T.sizeL_take_succ l k hlt
        have e2 := T.sizeL_take_le l (k + 1)
        have IH := fun W0 hW => ih.out l[k] hmem _ h3 W0 b Bn Bm Bw (K + T.sizeL (l.take k)) N D (addL F b (l.take k)) hW hBm hnm hwm
        have BD := addL_bound hFK.out hbb.out (l.take k)
        have q5 := addL_take_succ F b l k hlt
        have Hhb2 := Lib.hid hb2
        have HB1 := Lib.hid B1
        have HB2 := Lib.hid B2
        have Hhg := Lib.hid hg
        have Hh3 := Lib.hid h3
        have Hhown := Lib.hid hown
        have HhMF := Lib.hid hMF
        have HBD := Lib.hid BD
        have Hq5 := Lib.hid q5
        clear hb2 B1 B2 hg h3 hown hMF BD q5
        clear hl
        go_wp2_with (go_at_call 51; refine (IH _ (bstep Hhb2.out (balloc _ _)) (HB1.out.alloc _) (HB2.out.alloc _) (Hhown.out.alloc _) HhMF.out HBD.out (by omega) (by omega) hbb.out).mono ?_; rintro e w' ⟨rfl, N2, D2, hN2, hown2, hMF2, hg2⟩)
        have Hown2 := Lib.hid hown2
        have HMF2 := Lib.hid hMF2
        clear hown2 hMF2
        go_wp2_with fail
        go_roundw
        case rel => exact ⟨k + 1, N2, D2, by omega, by go_num, by omega, Hown2.out, Hq5.out ▸ HMF2.out, gtrans Hhg.out (gtrans (galloc _ _ _) hg2)⟩
        case measure => simp [intOf]; omega
      · obtain rfl : k = l.length := by omega
        rw [List.take_length] at hMF hN
        have Hhown := Lib.hid hown
        have HhMF := Lib.hid hMF
        have Hhg := Lib.hid hg
        clear hown hMF hg
        go_wp2_with fail
        go_end0
        exact ⟨rfl, N, D, by omega, Hhown.out, EF.out ▸ HhMF.out, Hhg.out⟩
    case atStart => exact ⟨0, N, D, Nat.zero_le _, rfl, by omega, Hhown.out.alloc _, by rw [List.take_zero, addL_nil]; exact HhMF.out, galloc _ _ _⟩

end Go.Proofs.Ytjkpecjlpgcalaa
