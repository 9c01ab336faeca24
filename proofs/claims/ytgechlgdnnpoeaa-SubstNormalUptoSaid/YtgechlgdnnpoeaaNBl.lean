/- The walk through the law SubstNormal. -/
import Derived.Test.YtgechlgdnnpoeaaNBi
import Derived.Test.YtgechlgdnnpoeaaNBk
import Derived.Test.YtgechlgdnnpoeaaNBf
import Derived.Test.YtgechlgdnnpoeaaNBj
import Derived.Test.YtgechlgdnnpoeaaNBg

/- A clause and its normal form: the document. -/
namespace Go.Proofs.Ytgechlgdnnpoeaa
open Go.RowKit Go
set_option linter.unusedVariables false
set_option linter.unusedSimpArgs false

set_option linter.unnecessarySimpa false

theorem clRn_names2 {l : List Li} {k : Nat} (h : k < l.length) : (clRn (l.take (k + 1)) []).2 = ((lget l k).r.rn ((lget l k).l.rn (clRn (l.take k) []).2).2).2 := by rw [clRn_take h]; rfl
/-- What the document's Normal answers. -/
def RNormIs (cl : List Li) (w' : World) (v' : Value) : Prop := ∃ (oa : Option Addr) (oc : Nat) (sa : Option Addr) (sc : Nat) (R : List Bd), v' = .tuple #[.slice oa cl.length oc, .slice sa R.length sc] ∧ IsLs w' (clRn cl []).1 oa ∧ IsBs w' R sa ∧ SubOf ((nmAll (clRn cl []).2 0).take (clRn cl []).2.length) R
set_option maxRecDepth 100000 in
set_option maxHeartbeats 2000000 in
theorem rnormal_any (cl : List Li) (w : World) (a : Option Addr) (c : Nat) (hC : IsCl w cl a c) (hsz : clSz cl ≤ 4294967296) (hcl : cl.length ≤ 1048576) : Calls Try.prog 24 #[.slice a cl.length c] w (Ret fun v' w' => RNormIs cl w' v' ∧ Below w.heap.size w w') := by
  have hclen := hC.len
  have hccap := hC.cap
  unfold maxLen at hccap
  have hnd := clRn_nd cl [] List.nodup_nil
  refine Calls.walk (l := [.slice a cl.length c]) Try.func24 rfl (by kernel_rfl) ?_
  refine WC.sub (K' := [(0, .slice a cl.length c)]) ⟨rfl, trivial⟩ ?_
  refine WC.seq ?_
  refine WC.region ?_
  refine WL.val (.slice none 0 0) rfl rfl rfl (fun za zC zh zk => wp_assign rfl (zh.ev rfl) zk) ?_
  refine WL.val (.slice none 0 0) rfl rfl rfl (fun za zC zh zk => wp_assign rfl (zh.ev rfl) zk) ?_
  refine WL.nil (WE.sub (K' := [(0, .slice a cl.length c), (2, .slice none 0 0), (3, .slice none 0 0)]) ⟨rfl, rfl, rfl, trivial⟩ ?_)
  refine WE.next ?_
  refine WC.seq ?_
  refine WC.region ?_
  refine WL.val (.slice none 0 0) rfl rfl rfl (fun za zC zh zk => wp_assign rfl (zh.ev rfl) zk) ?_
  refine WL.nil (WE.sub (K' := [(0, .slice a cl.length c), (2, .slice none 0 0), (3, .slice none 0 0), (4, .slice none 0 0)]) ⟨rfl, rfl, rfl, rfl, trivial⟩ ?_)
  refine WE.next ?_
  refine WC.seq ?_
  refine WC.seq ?_
  refine WC.region ?_
  refine WL.val (.int .i64 0) rfl rfl rfl (fun za zC zh zk => wp_assign rfl (zh.ev rfl) zk) ?_
  refine WL.nil (WE.sub (K' := [(0, .slice a cl.length c), (2, .slice none 0 0), (3, .slice none 0 0), (4, .slice none 0 0), (5, .int .i64 0)]) ⟨rfl, rfl, rfl, rfl, rfl, trivial⟩ ?_)
  refine WE.next ?_
  refine WC.block ?_
  have hst0 : RowD eltI (fun _ => False) w 3 none 0 (([] : List Int)).length (([] : List Int)) := RowD.nil
  refine WC.loop (X := Nat × Option Addr × Nat) (fun x => cl.length - x.1) (fun x => [(0, .slice a cl.length c), (2, .slice none 0 0), (3, .slice none 0 0), (4, .slice x.2.1 ((clRn (cl.take x.1) []).2.length) x.2.2), (5, .int .i64 (((x.1 : Nat) : Int)))]) (fun x w1 => x.1 ≤ cl.length ∧ (∀ b, (Value.slice x.2.1 ((clRn (cl.take x.1) []).2).length x.2.2).ownBlock = some b → w.heap.size ≤ b) ∧ (∀ v ∈ (clRn (cl.take x.1) []).2, I64 v) ∧ Below w.heap.size w w1 ∧ RowD eltI (fun _ => False) (w1) 3 x.2.1 x.2.2 ((clRn (cl.take x.1) []).2).length ((clRn (cl.take x.1) []).2)) ((0, none, 0)) ⟨rfl, rfl, rfl, rfl, rfl, trivial⟩ ?_ ?_
  · exact ⟨Nat.zero_le _, (fun b q => nomatch q), (fun v hv => nomatch hv), (Below.refl _ _), hst0⟩
  · rintro x w1 ⟨hk, hown, hIk, hb2, ho3⟩
    refine WC.seq ?_
    refine WC.seq ?_
    refine WC.region ?_
    refine WL.val (.int .i64 (((x.1 : Nat) : Int))) rfl rfl rfl (fun za zC zh zk => wp_move rfl (zh.ev rfl) zk) ?_
    refine WL.val (.slice a cl.length c) rfl rfl rfl (fun za zC zh zk => wp_move rfl (zh.ev rfl) zk) ?_
    refine WL.val (.int .i64 (((cl.length : Nat) : Int))) rfl rfl rfl (fun za zC zh zk => len_42 rfl (zh.ev rfl) zk) ?_
    refine WL.val (.bool ((decide ((((x.1 : Nat) : Int) : Int) < (((cl.length : Nat) : Int) : Int))))) rfl rfl rfl (fun za zC zh zk => lss_3 rfl (zh.ev rfl) (zh.ev rfl) zk) ?_
    refine WL.nil (WE.sub (K' := [(0, .slice a cl.length c), (2, .slice none 0 0), (3, .slice none 0 0), (4, .slice x.2.1 ((clRn (cl.take x.1) []).2.length) x.2.2), (5, .int .i64 (((x.1 : Nat) : Int))), (13, .bool ((decide ((((x.1 : Nat) : Int) : Int) < (((cl.length : Nat) : Int) : Int)))))]) ⟨rfl, rfl, rfl, rfl, rfl, rfl, trivial⟩ ?_)
    refine WE.next ?_
    refine WC.cond rfl (fun h4 => ?_) (fun h4 => ?_)
    · have h4 : (((x.1 : Nat) : Int) : Int) < (((cl.length : Nat) : Int) : Int) := by simpa using h4
      refine WC.skip ?_
      refine WE.next ?_
      refine WC.seq ?_
      refine WC.block ?_
      refine WC.seq ?_
      refine WC.region ?_
      refine WL.val (.slice x.2.1 ((clRn (cl.take x.1) []).2.length) x.2.2) rfl rfl rfl (fun za zC zh zk => wp_move rfl (zh.ev rfl) zk) ?_
      refine WL.val (.slice a cl.length c) rfl rfl rfl (fun za zC zh zk => wp_move rfl (zh.ev rfl) zk) ?_
      refine WL.val (.int .i64 (((x.1 : Nat) : Int))) rfl rfl rfl (fun za zC zh zk => wp_move rfl (zh.ev rfl) zk) ?_
      obtain ⟨b5, o6, A7, C8, A9, C10, ha11, hc12⟩ := InRow.openL hC.rows
      refine WL.val (.pointer (some ⟨b5, o6 + x.1 * 5, none⟩)) rfl rfl rfl (fun za zC zh zk => ix_42 (k := x.1) rfl (zh.ev rfl) (ha11 x.1 (by first | omega | (simp; omega))) (zh.ev rfl) (by first | omega | (simp; omega)) zk) ?_
      refine WL.val (.pointer (some ⟨b5, o6 + x.1 * 5 + 1, none⟩)) rfl rfl rfl (fun za zC zh zk => fld_44_1 rfl (zh.ev rfl) zk) ?_
      refine WL.val (.agg #[.int .i64 ((lget cl x.1).l.f), .slice ((A7 x.1)) ((lget cl x.1).l.args.length) ((C8 x.1))]) rfl rfl rfl (fun za zC zh zk => ld_32 rfl (zh.ev rfl) (bkeeps hb2 _ _ (hc12 x.1 (by first | omega | (simp; omega))).2.1) (bkeeps hb2 _ _ (hc12 x.1 (by first | omega | (simp; omega))).2.2.1) zk) ?_
      have hnm9 := clRn_names (cl.take x.1) []
      have hsz1 := clSz_take (l := cl) (k := x.1) (by omega)
      have hsz2 := clSz_le (l := cl) (k := x.1 + 1)
      have hrl1 := T.rn_len (lget cl x.1).l (clRn (cl.take x.1) []).2
      simp only [List.length_nil] at hnm9
      have hpl := hC.pl (k := x.1) (by omega)
      have hpr := hC.pr (k := x.1) (by omega)
      have hT1 := IsT.inT (InT.isT (hc12 x.1 (by first | omega | (simp; omega))).2.2.2.2.2.1)
      have hw13 : w.heap.size ≤ w1.heap.size := hb2.size
      refine WL.call rfl rfl rfl (fun za zh zC => wp_call (by kernel_rfl) rfl (hv2 (zh.ev rfl) (zh.ev rfl))) (order_any (lget cl x.1).l ((clRn (cl.take x.1) []).2) (fun b => b < w.heap.size) _ _ _ _ ho3 (InT.below hb2 hT1) (fun b q => ⟨fun q2 => by have z := hown _ q2; omega, by omega⟩) (by omega) (by omega) hIk) ?_
      rintro hv1v w14 ⟨⟨ra1, rc1, hv1, hr1, ho1, hI1⟩, hc1⟩
      subst hv1
      have hb15 := chg_below hb2 hc1 (fun b hb => (fun h => by have z := hown _ h; omega))
      have ho1w : ∀ b, (Value.slice ra1 ((T.rn (lget cl x.1).l (clRn (cl.take x.1) []).2).2).length rc1).ownBlock = some b → w.heap.size ≤ b := fun b q => (ho1 b q).elim (hown b) (fun q => by omega)
      refine WL.val (.slice ra1 ((T.rn (lget cl x.1).l (clRn (cl.take x.1) []).2).2.length) rc1) rfl rfl rfl (fun za zC zh zk => wp_assign rfl (zh.ev rfl) zk) ?_
      refine WL.nil (WE.sub (K' := [(0, .slice a cl.length c), (2, .slice none 0 0), (3, .slice none 0 0), (4, .slice ra1 ((T.rn (lget cl x.1).l (clRn (cl.take x.1) []).2).2.length) rc1), (5, .int .i64 (((x.1 : Nat) : Int))), (13, .bool ((decide ((((x.1 : Nat) : Int) : Int) < (((cl.length : Nat) : Int) : Int)))))]) ⟨rfl, rfl, rfl, rfl, rfl, rfl, trivial⟩ ?_)
      refine WE.next ?_
      refine WC.region ?_
      refine WL.val (.slice ra1 ((T.rn (lget cl x.1).l (clRn (cl.take x.1) []).2).2.length) rc1) rfl rfl rfl (fun za zC zh zk => wp_move rfl (zh.ev rfl) zk) ?_
      refine WL.val (.slice a cl.length c) rfl rfl rfl (fun za zC zh zk => wp_move rfl (zh.ev rfl) zk) ?_
      refine WL.val (.int .i64 (((x.1 : Nat) : Int))) rfl rfl rfl (fun za zC zh zk => wp_move rfl (zh.ev rfl) zk) ?_
      refine WL.val (.pointer (some ⟨b5, o6 + x.1 * 5, none⟩)) rfl rfl rfl (fun za zC zh zk => ix_42 (k := x.1) rfl (zh.ev rfl) (ha11 x.1 (by first | omega | (simp; omega))) (zh.ev rfl) (by first | omega | (simp; omega)) zk) ?_
      refine WL.val (.pointer (some ⟨b5, o6 + x.1 * 5 + 3, none⟩)) rfl rfl rfl (fun za zC zh zk => fld_44_2 rfl (zh.ev rfl) zk) ?_
      refine WL.val (.agg #[.int .i64 ((lget cl x.1).r.f), .slice ((A9 x.1)) ((lget cl x.1).r.args.length) ((C10 x.1))]) rfl rfl rfl (fun za zC zh zk => ld_32 rfl (zh.ev rfl) (bkeeps hb15 _ _ (hc12 x.1 (by first | omega | (simp; omega))).2.2.2.1) (bkeeps hb15 _ _ (hc12 x.1 (by first | omega | (simp; omega))).2.2.2.2.1) zk) ?_
      have hT2 := IsT.inT (InT.isT (hc12 x.1 (by first | omega | (simp; omega))).2.2.2.2.2.2)
      have hw16 : w.heap.size ≤ w14.heap.size := hb15.size
      refine WL.call rfl rfl rfl (fun za zh zC => wp_call (by kernel_rfl) rfl (hv2 (zh.ev rfl) (zh.ev rfl))) (order_any (lget cl x.1).r ((T.rn (lget cl x.1).l (clRn (cl.take x.1) []).2).2) (fun b => b < w.heap.size) _ _ _ _ hr1 (InT.below hb15 hT2) (fun b q => ⟨fun q2 => by have z := ho1w _ q2; omega, by omega⟩) (by omega) (by omega) hI1) ?_
      rintro hv2v w17 ⟨⟨ra2, rc2, hv2, hr2, ho2, hI2⟩, hc2⟩
      rw [← clRn_names2 (l := cl) (k := x.1) (by omega)] at hv2 hr2 ho2 hI2
      subst hv2
      have hb18 := chg_below hb15 hc2 (fun b hb => (fun h => by have z := ho1w _ h; omega))
      have ho2w : ∀ b, (Value.slice ra2 ((clRn (cl.take (x.1 + 1)) []).2).length rc2).ownBlock = some b → w.heap.size ≤ b := fun b q => (ho2 b q).elim (ho1w b) (fun q => by omega)
      refine WL.val (.slice ra2 ((clRn (cl.take (x.1 + 1)) []).2.length) rc2) rfl rfl rfl (fun za zC zh zk => wp_assign rfl (zh.ev rfl) zk) ?_
      refine WL.nil (WE.sub (K' := [(0, .slice a cl.length c), (2, .slice none 0 0), (3, .slice none 0 0), (4, .slice ra2 ((clRn (cl.take (x.1 + 1)) []).2.length) rc2), (5, .int .i64 (((x.1 : Nat) : Int))), (13, .bool ((decide ((((x.1 : Nat) : Int) : Int) < (((cl.length : Nat) : Int) : Int)))))]) ⟨rfl, rfl, rfl, rfl, rfl, rfl, trivial⟩ ?_)
      refine WE.blockNormal ?_
      refine WE.next ?_
      refine WC.region ?_
      refine WL.val (.int .i64 (((x.1 : Nat) : Int))) rfl rfl rfl (fun za zC zh zk => wp_move rfl (zh.ev rfl) zk) ?_
      refine WL.val (.int .i64 ((((x.1 + 1) : Nat) : Int))) rfl rfl rfl (fun za zC zh zk => addb_3 rfl (zh.ev rfl) (zh.ev rfl) (wrap_eq (by omega) (by omega) (by omega)) zk) ?_
      refine WL.val (.int .i64 ((((x.1 + 1) : Nat) : Int))) rfl rfl rfl (fun za zC zh zk => wp_assign rfl (zh.ev rfl) zk) ?_
      refine WL.nil (WE.sub (K' := [(0, .slice a cl.length c), (2, .slice none 0 0), (3, .slice none 0 0), (4, .slice ra2 ((clRn (cl.take (x.1 + 1)) []).2.length) rc2), (5, .int .i64 ((((x.1 + 1) : Nat) : Int))), (13, .bool ((decide ((((x.1 : Nat) : Int) : Int) < (((cl.length : Nat) : Int) : Int)))))]) ⟨rfl, rfl, rfl, rfl, rfl, rfl, trivial⟩ ?_)
      refine WE.round ((x.1 + 1, ra2, rc2)) ⟨rfl, rfl, rfl, rfl, rfl, trivial⟩ ?_ ?_
      · exact ⟨by (try dsimp only); omega, ho2w, hI2, hb18, (by dsimp only; exact hr2)⟩
      · (try dsimp only); omega
    · have h4 : ¬ ((((x.1 : Nat) : Int) : Int) < (((cl.length : Nat) : Int) : Int)) := by simpa using h4
      refine WC.exit ?_
      refine WE.thenExit ?_
      refine WE.thenExit ?_
      refine WE.blockIs rfl ?_
      refine WE.next ?_
      refine WC.seq ?_
      refine WC.region ?_
      refine WL.val (.slice none 0 0) rfl rfl rfl (fun za zC zh zk => wp_assign rfl (zh.ev rfl) zk) ?_
      refine WL.nil (WE.sub (K' := [(0, .slice a cl.length c), (2, .slice none 0 0), (3, .slice none 0 0), (4, .slice x.2.1 ((clRn (cl.take x.1) []).2.length) x.2.2), (5, .int .i64 (((x.1 : Nat) : Int))), (6, .slice none 0 0), (13, .bool ((decide ((((x.1 : Nat) : Int) : Int) < (((cl.length : Nat) : Int) : Int)))))]) ⟨rfl, rfl, rfl, rfl, rfl, rfl, rfl, trivial⟩ ?_)
      refine WE.next ?_
      refine WC.seq ?_
      refine WC.seq ?_
      refine WC.region ?_
      refine WL.val (.int .i64 0) rfl rfl rfl (fun za zC zh zk => wp_assign rfl (zh.ev rfl) zk) ?_
      refine WL.nil (WE.sub (K' := [(0, .slice a cl.length c), (2, .slice none 0 0), (3, .slice none 0 0), (4, .slice x.2.1 ((clRn (cl.take x.1) []).2.length) x.2.2), (5, .int .i64 (((x.1 : Nat) : Int))), (6, .slice none 0 0), (7, .int .i64 0), (13, .bool ((decide ((((x.1 : Nat) : Int) : Int) < (((cl.length : Nat) : Int) : Int)))))]) ⟨rfl, rfl, rfl, rfl, rfl, rfl, rfl, rfl, trivial⟩ ?_)
      refine WE.next ?_
      refine WC.block ?_
      rw [List.take_of_length_le (show cl.length ≤ x.1 by omega)] at hIk hown
      have hNr0 := ho3
      rw [List.take_of_length_le (show cl.length ≤ x.1 by omega)] at hNr0
      have hNri := hNr0.inRow.1
      have hnm1 := clRn_names cl []
      simp only [List.length_nil] at hnm1
      have hal := nmAll_len (clRn cl []).2 0
      have hvar := nmAll_var (clRn cl []).2 0
      have hNl : (clRn (cl.take x.1) []).2.length = (clRn cl []).2.length := by rw [List.take_of_length_le (by omega)]
      have hl19 : w.heap.size ≤ w1.heap.size := (hb2).size
      have hR20 : RowE eltB w1 w1.heap.size 56 none 0 0 [] := RowE.nil
      refine WC.loop (X := RX) (fun z => (clRn cl []).2.length - z.i) (fun z => [(0, .slice a cl.length c), (2, .slice none 0 0), (3, .slice none 0 0), (4, .slice x.2.1 ((clRn (cl.take x.1) []).2.length) x.2.2), (5, .int .i64 (((x.1 : Nat) : Int))), (6, .slice z.a z.n z.c), (7, .int .i64 (((z.i : Nat) : Int))), (13, .bool ((decide ((((x.1 : Nat) : Int) : Int) < (((cl.length : Nat) : Int) : Int)))))]) (fun z w21 => z.i ≤ (clRn cl []).2.length ∧ w1.heap.size ≤ (w21).heap.size ∧ SubOf ((nmAll (clRn cl []).2 0).take z.i) z.L ∧ Below w.heap.size w w21 ∧ Below w1.heap.size w1 w21 ∧ RowE eltB (w21) w1.heap.size 56 z.a z.c z.n z.L) (⟨0, none, 0, 0, []⟩) ⟨rfl, rfl, rfl, rfl, rfl, rfl, rfl, rfl, trivial⟩ ?_ ?_
      · exact ⟨Nat.zero_le _, Nat.le_refl _, subOf_nil, hb2, (Below.refl _ _), hR20⟩
      · rintro z w21 ⟨hk1, hBw, hso, hb22, hb23, ho24⟩
        have hLl := hso.length_le
        have hLl2 : z.L.length ≤ z.i := by have z := hso.length_le; simp at z; omega
        refine WC.seq ?_
        refine WC.seq ?_
        refine WC.region ?_
        refine WL.val (.int .i64 (((z.i : Nat) : Int))) rfl rfl rfl (fun za zC zh zk => wp_move rfl (zh.ev rfl) zk) ?_
        refine WL.val (.slice x.2.1 ((clRn (cl.take x.1) []).2.length) x.2.2) rfl rfl rfl (fun za zC zh zk => wp_move rfl (zh.ev rfl) zk) ?_
        refine WL.val (.int .i64 ((((clRn (cl.take x.1) []).2.length : Nat) : Int))) rfl rfl rfl (fun za zC zh zk => len_76 rfl (zh.ev rfl) zk) ?_
        refine WL.val (.bool ((decide ((((z.i : Nat) : Int) : Int) < ((((clRn (cl.take x.1) []).2.length : Nat) : Int) : Int))))) rfl rfl rfl (fun za zC zh zk => lss_3 rfl (zh.ev rfl) (zh.ev rfl) zk) ?_
        refine WL.nil (WE.sub (K' := [(0, .slice a cl.length c), (2, .slice none 0 0), (3, .slice none 0 0), (4, .slice x.2.1 ((clRn (cl.take x.1) []).2.length) x.2.2), (5, .int .i64 (((x.1 : Nat) : Int))), (6, .slice z.a z.n z.c), (7, .int .i64 (((z.i : Nat) : Int))), (13, .bool ((decide ((((x.1 : Nat) : Int) : Int) < (((cl.length : Nat) : Int) : Int))))), (33, .bool ((decide ((((z.i : Nat) : Int) : Int) < ((((clRn (cl.take x.1) []).2.length : Nat) : Int) : Int)))))]) ⟨rfl, rfl, rfl, rfl, rfl, rfl, rfl, rfl, rfl, trivial⟩ ?_)
        refine WE.next ?_
        refine WC.cond rfl (fun h25 => ?_) (fun h25 => ?_)
        · have h25 : (((z.i : Nat) : Int) : Int) < ((((clRn (cl.take x.1) []).2.length : Nat) : Int) : Int) := by simpa using h25
          refine WC.skip ?_
          refine WE.next ?_
          refine WC.seq ?_
          refine WC.block ?_
          refine WC.seq ?_
          refine WC.seq ?_
          have hX : (dget (nmAll (clRn cl []).2 0) z.i) = ⟨(clRn cl []).2.getD z.i 0, .mk (-1 - (z.i : Int)) []⟩ := nmAll_dget (by omega)
          have hX1 : (dget (nmAll (clRn cl []).2 0) z.i).var = (clRn cl []).2.getD z.i 0 := by rw [hX]
          have hX2 : (dget (nmAll (clRn cl []).2 0) z.i).t = .mk (-1 - (z.i : Int)) [] := by rw [hX]
          have hX3 : (dget (nmAll (clRn cl []).2 0) z.i).itself = decide ((clRn cl []).2.getD z.i 0 = (z.i : Int)) := by rw [hX, Bool.eq_iff_iff]; simp [Bd.itself, T.f, T.args]; omega
          have hi64 : I64 ((clRn cl []).2.getD z.i 0) := hIk _ (by rw [List.getD_eq_getElem?_getD, List.getElem?_eq_getElem (by omega)]; exact List.getElem_mem _)
          have hi64x : I64 (dget (nmAll (clRn cl []).2 0) z.i).var := by rw [hX1]; exact hi64
          refine WC.region ?_
          refine WL.val (.slice x.2.1 ((clRn (cl.take x.1) []).2.length) x.2.2) rfl rfl rfl (fun za zC zh zk => wp_move rfl (zh.ev rfl) zk) ?_
          refine WL.val (.int .i64 (((z.i : Nat) : Int))) rfl rfl rfl (fun za zC zh zk => wp_move rfl (zh.ev rfl) zk) ?_
          obtain ⟨b26, o27, ha28, hc29⟩ := InRow.openI (hNri.below hb23)
          refine WL.val (.pointer (some ⟨b26, o27 + z.i, none⟩)) rfl rfl rfl (fun za zC zh zk => ix_76 (k := z.i) rfl (zh.ev rfl) (ha28 z.i (by omega)) (zh.ev rfl) (by first | omega | (simp; omega)) zk) ?_
          refine WL.val (.int .i64 ((List.getD ((clRn cl []).2) z.i 0))) rfl rfl rfl (fun za zC zh zk => ld_3 rfl (zh.ev rfl) (hc29 z.i (by omega)) zk) ?_
          refine WL.val (.int .i64 (((z.i : Nat) : Int))) rfl rfl rfl (fun za zC zh zk => wp_move rfl (zh.ev rfl) zk) ?_
          refine WL.val (.bool ((((List.getD ((clRn cl []).2) z.i 0) : Int) != (((z.i : Nat) : Int) : Int)))) rfl rfl rfl (fun za zC zh zk => neq_3 rfl (zh.ev rfl) (zh.ev rfl) zk) ?_
          refine WL.nil (WE.sub (K' := [(0, .slice a cl.length c), (2, .slice none 0 0), (3, .slice none 0 0), (4, .slice x.2.1 ((clRn (cl.take x.1) []).2.length) x.2.2), (5, .int .i64 (((x.1 : Nat) : Int))), (6, .slice z.a z.n z.c), (7, .int .i64 (((z.i : Nat) : Int))), (13, .bool ((decide ((((x.1 : Nat) : Int) : Int) < (((cl.length : Nat) : Int) : Int))))), (33, .bool ((decide ((((z.i : Nat) : Int) : Int) < ((((clRn (cl.take x.1) []).2.length : Nat) : Int) : Int))))), (41, .bool ((((List.getD ((clRn cl []).2) z.i 0) : Int) != (((z.i : Nat) : Int) : Int))))]) ⟨rfl, rfl, rfl, rfl, rfl, rfl, rfl, rfl, rfl, rfl, trivial⟩ ?_)
          refine WE.next ?_
          refine WC.cond rfl (fun h30 => ?_) (fun h30 => ?_)
          · have h30 : ((List.getD ((clRn cl []).2) z.i 0) : Int) ≠ (((z.i : Nat) : Int) : Int) := by simpa using h30
            have hns : ¬ (dget (nmAll (clRn cl []).2 0) z.i).itself = true := fun q => by rw [hX3, decide_eq_true_eq] at q; omega
            have hSlt : ∀ b, (fun b => (Value.slice z.a z.n z.c).ownBlock = some b) b → b < w21.heap.size := fun b h => (ho24.lt b h).2
            have hSlo : ∀ b, (fun b => (Value.slice z.a z.n z.c).ownBlock = some b) b → w1.heap.size ≤ b ∧ b < w21.heap.size := fun b h => ho24.lt b h
            have hBW : w1.heap.size ≤ w21.heap.size := by have z1 := hBw; omega
            have hlL : z.n = (z.L).length := ho24.len
            refine WC.tail3 (S := ((fun b => (Value.slice z.a z.n z.c).ownBlock = some b))) [(true, .val (.slice z.a z.n z.c)), (true, .val (.slice x.2.1 ((clRn (cl.take x.1) []).2.length) x.2.2)), (true, .val (.int .i64 (((z.i : Nat) : Int)))), (true, .val (.pointer (some ⟨b26, o27 + z.i, none⟩))), (true, .val (.int .i64 ((List.getD ((clRn cl []).2) z.i 0)))), (true, .val (.int .i64 (((z.i : Nat) : Int)))), (true, .val (.int .i64 ((-1 - (z.i : Int))))), (true, .val (.agg #[.int .i64 ((-1 - (z.i : Int))), .slice none 0 0])), (true, .val (.agg #[.int .i64 ((List.getD ((clRn cl []).2) z.i 0)), .int .i64 ((-1 - (z.i : Int))), .slice none 0 0])), (true, .mem (fun v w' => OneRow eltB w21 56 (dget (nmAll (clRn cl []).2 0) z.i) v w') (fun v w w' hc h => h.chg hc hSlt)), (true, .val undef), (true, .val undef)] [(0, .slice a cl.length c), (2, .slice none 0 0), (3, .slice none 0 0), (4, .slice x.2.1 ((clRn (cl.take x.1) []).2.length) x.2.2), (5, .int .i64 (((x.1 : Nat) : Int))), (7, .int .i64 (((z.i : Nat) : Int))), (13, .bool ((decide ((((x.1 : Nat) : Int) : Int) < (((cl.length : Nat) : Int) : Int))))), (33, .bool ((decide ((((z.i : Nat) : Int) : Int) < ((((clRn (cl.take x.1) []).2.length : Nat) : Int) : Int))))), (41, .bool ((((List.getD ((clRn cl []).2) z.i 0) : Int) != (((z.i : Nat) : Int) : Int))))] 10 11 ((z.n + 1)) 52 6 (fun ra rc wz => RowE eltB wz w1.heap.size 56 ra rc (z.n + 1) ((z.L ++ [(dget (nmAll (clRn cl []).2 0) z.i)]))) (by decide) (fun ra rc w w' hb h => h.below hb) ⟨rfl, rfl, rfl, rfl, rfl, rfl, rfl, rfl, rfl, trivial⟩ (by kernel_rfl) (by kernel_rfl) (by kernel_rfl) (by kernel_rfl) (by kernel_rfl) (by kernel_rfl) ?_ ?_
            · refine ⟨.inl ⟨rfl, true, .none rfl, (fun gg b h => by cases h), fun h w => optUndef h, fun zβ za zw zc => ?_⟩, ?_⟩
              · exact wp_move rfl ((show za.eval (.tmp 6) = za.tmps.getD 6 undef from rfl).trans (zc.old 6 _ rfl (by kernel_rfl))) ⟨_, rfl, Below.refl _ _, optDef zβ rfl⟩
              refine ⟨.inl ⟨rfl, true, .none rfl, (fun gg b h => by cases h), fun h w => optUndef h, fun zβ za zw zc => ?_⟩, ?_⟩
              · exact wp_move rfl (zc.kn.ev rfl) ⟨_, rfl, Below.refl _ _, optDef zβ rfl⟩
              refine ⟨.inl ⟨rfl, true, .none rfl, (fun gg b h => by cases h), fun h w => optUndef h, fun zβ za zw zc => ?_⟩, ?_⟩
              · exact wp_move rfl (zc.kn.ev rfl) ⟨_, rfl, Below.refl _ _, optDef zβ rfl⟩
              refine ⟨.inl ⟨rfl, true, .none rfl, (fun gg b h => by cases h), fun h w => optUndef h, fun zβ za zw zc => ?_⟩, ?_⟩
              · exact ix_76 (k := z.i) rfl ((show za.eval (.tmp 43) = za.tmps.getD 43 undef from rfl).trans (optSVal (zc.dep 1 43 (by kernel_rfl) (by decide)) rfl rfl)) (ha28 z.i (by omega)) ((show za.eval (.tmp 44) = za.tmps.getD 44 undef from rfl).trans (optSVal (zc.dep 2 44 (by kernel_rfl) (by decide)) rfl rfl)) (by first | omega | (simp; omega)) ⟨_, rfl, Below.refl _ _, optDef zβ rfl⟩
              refine ⟨.inl ⟨rfl, true, .none rfl, (fun gg b h => by cases h), fun h w => optUndef h, fun zβ za zw zc => ?_⟩, ?_⟩
              · exact ld_3 rfl ((show za.eval (.tmp 45) = za.tmps.getD 45 undef from rfl).trans (optSVal (zc.dep 3 45 (by kernel_rfl) (by decide)) rfl rfl)) (bkeeps (zc.early (by kernel_rfl)) _ _ (hc29 z.i (by omega))) ⟨_, rfl, Below.refl _ _, optDef zβ rfl⟩
              refine ⟨.inl ⟨rfl, true, .none rfl, (fun gg b h => by cases h), fun h w => optUndef h, fun zβ za zw zc => ?_⟩, ?_⟩
              · exact wp_move rfl (zc.kn.ev rfl) ⟨_, rfl, Below.refl _ _, optDef zβ rfl⟩
              refine ⟨.inl ⟨rfl, true, .none rfl, (fun gg b h => by cases h), fun h w => optUndef h, fun zβ za zw zc => ?_⟩, ?_⟩
              · exact subb_3 rfl (zc.kn.ev rfl) ((show za.eval (.tmp 47) = za.tmps.getD 47 undef from rfl).trans (optSVal (zc.dep 5 47 (by kernel_rfl) (by decide)) rfl rfl)) (wrap_eq rfl (by omega) (by omega)) ⟨_, rfl, Below.refl _ _, optDef zβ rfl⟩
              refine ⟨.inl ⟨rfl, true, .none rfl, (fun gg b h => by cases h), fun h w => optUndef h, fun zβ za zw zc => ?_⟩, ?_⟩
              · exact build_32_0 rfl ((show za.eval (.tmp 48) = za.tmps.getD 48 undef from rfl).trans (optSVal (zc.dep 6 48 (by kernel_rfl) (by decide)) rfl rfl)) ⟨_, rfl, Below.refl _ _, optDef zβ rfl⟩
              refine ⟨.inl ⟨rfl, true, .none rfl, (fun gg b h => by cases h), fun h w => optUndef h, fun zβ za zw zc => ?_⟩, ?_⟩
              · exact build_56_0_1 rfl ((show za.eval (.tmp 46) = za.tmps.getD 46 undef from rfl).trans (optSVal (zc.dep 4 46 (by kernel_rfl) (by decide)) rfl rfl)) ((show za.eval (.tmp 49) = za.tmps.getD 49 undef from rfl).trans (optSVal (zc.dep 7 49 (by kernel_rfl) (by decide)) rfl rfl)) ⟨_, rfl, Below.refl _ _, optDef zβ rfl⟩
              refine ⟨.inl ⟨rfl, true, .none rfl, (fun gg b h => by cases h), fun h w => optUndef h, fun zβ za zw zc => ?_⟩, ?_⟩
              · exact row_23_1 rfl ((show za.eval (.tmp 50) = za.tmps.getD 50 undef from rfl).trans (optSVal (zc.dep 8 50 (by kernel_rfl) (by decide)) rfl rfl)) ⟨_, rfl, balloc _ _, optDef zβ ⟨_, [.int .i64 ((clRn cl []).2.getD z.i 0), .int .i64 (-1 - (z.i : Int)), .slice none 0 0], rfl, zc.chg.size, Blk.new' rfl, ⟨_, _, by rw [hX1], hi64x, by rw [hX2]; exact inT_leaf (by unfold I64; omega)⟩⟩⟩
              refine ⟨.inr (.inl ⟨rfl, rfl, fun za zw zc => ?_⟩), ?_⟩
              · obtain ⟨g1, cs, e1, hg1, hB1, hin⟩ := (optSMem (zc.dep 9 51 (by kernel_rfl) (by decide)) rfl rfl)
                exact wp_appE (E := eltB) (size := 3) (bytes := 40) (z := .agg #[.int .i64 0, .int .i64 0, .slice none 0 0]) rfl Try.underlying23 (by kernel_rfl) rfl (by decide) rfl ((show za.eval (.tmp 42) = za.tmps.getD 42 undef from rfl).trans (optSVal (zc.dep 0 42 (by kernel_rfl) (by decide)) rfl rfl)) ((show za.eval (.tmp 51) = za.tmps.getD 51 undef from rfl).trans e1) (ho24.below zc.below) hB1 (eltB.mono (fun b hb _ => ⟨by omega, fun e => by have z := (ho24.lt b e).2; omega⟩) hin) (by omega) (by omega) (by have z := zc.below.size; omega) (fun ra rc w' h1 h2 _ => ⟨ra, rc, rfl, h1, h2⟩)
              refine ⟨.inr (.inr ⟨rfl, rfl, 52, by kernel_rfl, rfl⟩), ?_⟩
              exact trivial
            · intro za w31 ra34 rc35 zh zv zv2 hG32 hc33 zu
              have zh := zh.cons (d := 6) zv2
              have hb36 := chg_below hb22 hc33 (fun b hb => (fun h => by have h := hSlo _ h; (try dsimp only at *); omega))
              have hb37 := chg_below hb23 hc33 (fun b hb => (fun h => by have h := hSlo _ h; (try dsimp only at *); omega))
              clear zu
              refine (show WE _ [(0, .slice a cl.length c), (2, .slice none 0 0), (3, .slice none 0 0), (4, .slice x.2.1 ((clRn (cl.take x.1) []).2.length) x.2.2), (5, .int .i64 (((x.1 : Nat) : Int))), (6, .slice ra34 ((z.n + 1)) rc35), (7, .int .i64 (((z.i : Nat) : Int))), (13, .bool ((decide ((((x.1 : Nat) : Int) : Int) < (((cl.length : Nat) : Int) : Int))))), (33, .bool ((decide ((((z.i : Nat) : Int) : Int) < ((((clRn (cl.take x.1) []).2.length : Nat) : Int) : Int))))), (41, .bool ((((List.getD ((clRn cl []).2) z.i 0) : Int) != (((z.i : Nat) : Int) : Int))))] w31 _ .normal from ?_) za (zh.sub ⟨rfl, rfl, rfl, rfl, rfl, rfl, rfl, rfl, rfl, rfl, trivial⟩)
              refine WE.next ?_
              refine WC.seq ?_
              have hnl := hG32.len
              have hxn : z.n = z.L.length := by simp at hnl; omega
              obtain ⟨gr, hgr⟩ : ∃ gr, ra34 = some ⟨gr, 0, none⟩ := by
                rcases hG32.nilOr with ⟨_, e, _⟩ | q
                · omega
                · exact q
              subst hgr
              have hgr := hG32.lt gr own_some
              have hgB : w.heap.size ≤ w1.heap.size := hb2.size
              have hgN : w1.heap.size ≤ w1.heap.size := Nat.le_refl _
              refine WC.region ?_
              refine WL.val (.slice ((some ⟨gr, 0, none⟩)) ((z.n + 1)) rc35) rfl rfl rfl (fun za zC zh zk => wp_move rfl (zh.ev rfl) zk) ?_
              refine WL.val (.int .i64 ((((z.n + 1) : Nat) : Int))) rfl rfl rfl (fun za zC zh zk => len_23 rfl (zh.ev rfl) zk) ?_
              refine WL.val (.int .i64 (((z.L.length : Nat) : Int))) rfl rfl rfl (fun za zC zh zk => subb_3 rfl (zh.ev rfl) (zh.ev rfl) (wrap_eq (by omega) (by omega) (by omega)) zk) ?_
              refine WL.val (.int .i64 (((z.L.length : Nat) : Int))) rfl rfl rfl (fun za zC zh zk => wp_assign rfl (zh.ev rfl) zk) ?_
              refine WL.nil (WE.sub (K' := [(0, .slice a cl.length c), (2, .slice none 0 0), (3, .slice none 0 0), (4, .slice x.2.1 ((clRn (cl.take x.1) []).2.length) x.2.2), (5, .int .i64 (((x.1 : Nat) : Int))), (6, .slice ((some ⟨gr, 0, none⟩)) ((z.n + 1)) rc35), (7, .int .i64 (((z.i : Nat) : Int))), (8, .int .i64 (((z.L.length : Nat) : Int))), (13, .bool ((decide ((((x.1 : Nat) : Int) : Int) < (((cl.length : Nat) : Int) : Int))))), (33, .bool ((decide ((((z.i : Nat) : Int) : Int) < ((((clRn (cl.take x.1) []).2.length : Nat) : Int) : Int))))), (41, .bool ((((List.getD ((clRn cl []).2) z.i 0) : Int) != (((z.i : Nat) : Int) : Int))))]) ⟨rfl, rfl, rfl, rfl, rfl, rfl, rfl, rfl, rfl, rfl, rfl, trivial⟩ ?_)
              refine WE.next ?_
              refine WC.block ?_
              have hst9 : RowE eltB w31 w1.heap.size 56 (some ⟨gr, 0, none⟩) rc35 (z.n + 1) (insAt z.L z.L.length (dget (nmAll (clRn cl []).2 0) z.i)) := by rw [insAt_end]; exact hG32
              refine WC.loop (X := Nat) (fun j => j) (fun j => [(0, .slice a cl.length c), (2, .slice none 0 0), (3, .slice none 0 0), (4, .slice x.2.1 ((clRn (cl.take x.1) []).2.length) x.2.2), (5, .int .i64 (((x.1 : Nat) : Int))), (6, .slice ((some ⟨gr, 0, none⟩)) ((z.n + 1)) rc35), (7, .int .i64 (((z.i : Nat) : Int))), (8, .int .i64 (((j : Nat) : Int))), (13, .bool ((decide ((((x.1 : Nat) : Int) : Int) < (((cl.length : Nat) : Int) : Int))))), (33, .bool ((decide ((((z.i : Nat) : Int) : Int) < ((((clRn (cl.take x.1) []).2.length : Nat) : Int) : Int))))), (41, .bool ((((List.getD ((clRn cl []).2) z.i 0) : Int) != (((z.i : Nat) : Int) : Int))))]) (fun j w38 => j ≤ z.L.length ∧ w31.heap.size ≤ (w38).heap.size ∧ (∀ k, j ≤ k → k < z.L.length → (dget (nmAll (clRn cl []).2 0) z.i).var < (dget z.L k).var) ∧ Below w.heap.size w w38 ∧ Below w1.heap.size w1 w38 ∧ RowE eltB (w38) w1.heap.size 56 (some ⟨gr, 0, none⟩) rc35 (z.n + 1) ((insAt z.L j (dget (nmAll (clRn cl []).2 0) z.i)))) z.L.length ⟨rfl, rfl, rfl, rfl, rfl, rfl, rfl, rfl, rfl, rfl, rfl, trivial⟩ ?_ ?_
              · exact ⟨Nat.le_refl _, Nat.le_refl _, fun k h1 h2 => by omega, hb36, hb37, hst9⟩
              · rintro j w38 ⟨hj, hBw3, hjr, hb39, hb40, ho41⟩
                have hPl := insAt_len (x := (dget (nmAll (clRn cl []).2 0) z.i)) hj
                have hgl2 := (ho41.lt gr own_some).2
                have hcp := ho41.inRow
                have hcp3 := hcp.2.2.2
                unfold maxLen at hcp3
                refine WC.seq ?_
                refine WC.seq ?_
                obtain ⟨A42, C43, hc44⟩ := ho41.cells
                refine WC.opt [(true, .val (.int .i64 (((j : Nat) : Int)))), (true, .val (.bool ((decide ((0 : Int) < (((j : Nat) : Int) : Int)))))), (true, .val (.bool ((decide ((0 : Int) < (((j : Nat) : Int) : Int)))))), ((true && (decide ((0 : Int) < (((j : Nat) : Int) : Int)))), .val (.slice ((some ⟨gr, 0, none⟩)) ((z.n + 1)) rc35)), ((true && (decide ((0 : Int) < (((j : Nat) : Int) : Int)))), .val (.int .i64 (((j : Nat) : Int)))), ((true && (decide ((0 : Int) < (((j : Nat) : Int) : Int)))), .val (.pointer (some ⟨gr, 0 + j * 3, none⟩))), ((true && (decide ((0 : Int) < (((j : Nat) : Int) : Int)))), .val (.pointer (some ⟨gr, 0 + j * 3, none⟩))), ((true && (decide ((0 : Int) < (((j : Nat) : Int) : Int)))), .val (.int .i64 ((dget ((insAt z.L j (dget (nmAll (clRn cl []).2 0) z.i))) j).var))), ((true && (decide ((0 : Int) < (((j : Nat) : Int) : Int)))), .val (.slice ((some ⟨gr, 0, none⟩)) ((z.n + 1)) rc35)), ((true && (decide ((0 : Int) < (((j : Nat) : Int) : Int)))), .val (.int .i64 (((j : Nat) : Int)))), ((true && (decide ((0 : Int) < (((j : Nat) : Int) : Int)))), .val (.int .i64 ((((j - 1) : Nat) : Int)))), ((true && (decide ((0 : Int) < (((j : Nat) : Int) : Int)))), .val (.pointer (some ⟨gr, 0 + ((j - 1)) * 3, none⟩))), ((true && (decide ((0 : Int) < (((j : Nat) : Int) : Int)))), .val (.pointer (some ⟨gr, 0 + ((j - 1)) * 3, none⟩))), ((true && (decide ((0 : Int) < (((j : Nat) : Int) : Int)))), .val (.int .i64 ((dget ((insAt z.L j (dget (nmAll (clRn cl []).2 0) z.i))) ((j - 1))).var))), ((true && (decide ((0 : Int) < (((j : Nat) : Int) : Int)))), .val (.bool ((decide (((dget ((insAt z.L j (dget (nmAll (clRn cl []).2 0) z.i))) j).var : Int) < ((dget ((insAt z.L j (dget (nmAll (clRn cl []).2 0) z.i))) ((j - 1))).var : Int)))))), (true, .val (.bool (((decide ((0 : Int) < (((j : Nat) : Int) : Int))) && (decide (((dget ((insAt z.L j (dget (nmAll (clRn cl []).2 0) z.i))) j).var : Int) < ((dget ((insAt z.L j (dget (nmAll (clRn cl []).2 0) z.i))) ((j - 1))).var : Int)))))))] [(0, .slice a cl.length c), (2, .slice none 0 0), (3, .slice none 0 0), (4, .slice x.2.1 ((clRn (cl.take x.1) []).2.length) x.2.2), (5, .int .i64 (((x.1 : Nat) : Int))), (6, .slice ((some ⟨gr, 0, none⟩)) ((z.n + 1)) rc35), (7, .int .i64 (((z.i : Nat) : Int))), (8, .int .i64 (((j : Nat) : Int))), (13, .bool ((decide ((((x.1 : Nat) : Int) : Int) < (((cl.length : Nat) : Int) : Int))))), (33, .bool ((decide ((((z.i : Nat) : Int) : Int) < ((((clRn (cl.take x.1) []).2.length : Nat) : Int) : Int))))), (41, .bool ((((List.getD ((clRn cl []).2) z.i 0) : Int) != (((z.i : Nat) : Int) : Int))))] ⟨rfl, rfl, rfl, rfl, rfl, rfl, rfl, rfl, rfl, rfl, rfl, trivial⟩ (by kernel_rfl) (by kernel_rfl) (by kernel_rfl) ?_ ?_
                · refine ⟨⟨true, .none rfl, fun h w => optUndef h, fun zβ za zw zc => ?_⟩, ?_⟩
                  · exact wp_move rfl (zc.kn.ev rfl) ⟨_, rfl, Below.refl _ _, optDef zβ rfl⟩
                  refine ⟨⟨true, .none rfl, fun h w => optUndef h, fun zβ za zw zc => ?_⟩, ?_⟩
                  · exact gtr_3 rfl ((show za.eval (.tmp 56) = za.tmps.getD 56 undef from rfl).trans (optVal (zc.dep 0 56 (by kernel_rfl)) rfl rfl)) (zc.kn.ev rfl) ⟨_, rfl, Below.refl _ _, optDef zβ rfl⟩
                  refine ⟨⟨true, .none rfl, fun h w => optUndef h, fun zβ za zw zc => ?_⟩, ?_⟩
                  · exact wp_move rfl ((show za.eval (.tmp 57) = za.tmps.getD 57 undef from rfl).trans (optVal (zc.dep 1 57 (by kernel_rfl)) rfl rfl)) ⟨_, rfl, Below.refl _ _, optDef zβ rfl⟩
                  refine ⟨⟨(true && (decide ((0 : Int) < (((j : Nat) : Int) : Int)))), .yes (c := (decide ((0 : Int) < (((j : Nat) : Int) : Int)))) (d := true) rfl (fun v w h => h), fun h w => optUndef h, fun zβ za zw zc => ?_⟩, ?_⟩
                  · exact wp_move rfl (zc.kn.ev rfl) ⟨_, rfl, Below.refl _ _, optDef zβ rfl⟩
                  refine ⟨⟨(true && (decide ((0 : Int) < (((j : Nat) : Int) : Int)))), .yes (c := (decide ((0 : Int) < (((j : Nat) : Int) : Int)))) (d := true) rfl (fun v w h => h), fun h w => optUndef h, fun zβ za zw zc => ?_⟩, ?_⟩
                  · exact wp_move rfl (zc.kn.ev rfl) ⟨_, rfl, Below.refl _ _, optDef zβ rfl⟩
                  refine ⟨⟨(true && (decide ((0 : Int) < (((j : Nat) : Int) : Int)))), .yes (c := (decide ((0 : Int) < (((j : Nat) : Int) : Int)))) (d := true) rfl (fun v w h => h), fun h w => optUndef h, fun zβ za zw zc => ?_⟩, ?_⟩
                  · exact ix_23 (k := j) rfl ((show za.eval (.tmp 59) = za.tmps.getD 59 undef from rfl).trans (optVal (zc.dep 3 59 (by kernel_rfl)) rfl zβ)) rfl ((show za.eval (.tmp 60) = za.tmps.getD 60 undef from rfl).trans (optVal (zc.dep 4 60 (by kernel_rfl)) rfl zβ)) (by first | omega | (have zz := zβ; simp only [Bool.and_eq_true, Bool.or_eq_true, Bool.true_and, Bool.not_eq_true', Bool.or_eq_false_iff, Bool.and_eq_false_iff, beq_eq_false_iff_ne, ne_eq, beq_iff_eq, decide_eq_true_eq, decide_eq_false_iff_not, bne_iff_ne] at zz; omega)) ⟨_, rfl, Below.refl _ _, optDef zβ rfl⟩
                  refine ⟨⟨(true && (decide ((0 : Int) < (((j : Nat) : Int) : Int)))), .yes (c := (decide ((0 : Int) < (((j : Nat) : Int) : Int)))) (d := true) rfl (fun v w h => h), fun h w => optUndef h, fun zβ za zw zc => ?_⟩, ?_⟩
                  · exact fld_56_0 rfl ((show za.eval (.tmp 61) = za.tmps.getD 61 undef from rfl).trans (optVal (zc.dep 5 61 (by kernel_rfl)) rfl zβ)) ⟨_, rfl, Below.refl _ _, optDef zβ rfl⟩
                  refine ⟨⟨(true && (decide ((0 : Int) < (((j : Nat) : Int) : Int)))), .yes (c := (decide ((0 : Int) < (((j : Nat) : Int) : Int)))) (d := true) rfl (fun v w h => h), fun h w => optUndef h, fun zβ za zw zc => ?_⟩, ?_⟩
                  · exact ld_3 rfl ((show za.eval (.tmp 62) = za.tmps.getD 62 undef from rfl).trans (optVal (zc.dep 6 62 (by kernel_rfl)) rfl zβ)) (bkeeps zc.below _ _ (hc44 j (by first | omega | (have zz := zβ; simp only [Bool.and_eq_true, Bool.or_eq_true, Bool.true_and, Bool.not_eq_true', Bool.or_eq_false_iff, Bool.and_eq_false_iff, beq_eq_false_iff_ne, ne_eq, beq_iff_eq, decide_eq_true_eq, decide_eq_false_iff_not, bne_iff_ne] at zz; omega))).1) ⟨_, rfl, Below.refl _ _, optDef zβ rfl⟩
                  refine ⟨⟨(true && (decide ((0 : Int) < (((j : Nat) : Int) : Int)))), .yes (c := (decide ((0 : Int) < (((j : Nat) : Int) : Int)))) (d := true) rfl (fun v w h => h), fun h w => optUndef h, fun zβ za zw zc => ?_⟩, ?_⟩
                  · exact wp_move rfl (zc.kn.ev rfl) ⟨_, rfl, Below.refl _ _, optDef zβ rfl⟩
                  refine ⟨⟨(true && (decide ((0 : Int) < (((j : Nat) : Int) : Int)))), .yes (c := (decide ((0 : Int) < (((j : Nat) : Int) : Int)))) (d := true) rfl (fun v w h => h), fun h w => optUndef h, fun zβ za zw zc => ?_⟩, ?_⟩
                  · exact wp_move rfl (zc.kn.ev rfl) ⟨_, rfl, Below.refl _ _, optDef zβ rfl⟩
                  refine ⟨⟨(true && (decide ((0 : Int) < (((j : Nat) : Int) : Int)))), .yes (c := (decide ((0 : Int) < (((j : Nat) : Int) : Int)))) (d := true) rfl (fun v w h => h), fun h w => optUndef h, fun zβ za zw zc => ?_⟩, ?_⟩
                  · exact subb_3 rfl ((show za.eval (.tmp 65) = za.tmps.getD 65 undef from rfl).trans (optVal (zc.dep 9 65 (by kernel_rfl)) rfl zβ)) (zc.kn.ev rfl) (wrap_eq (by have z := zβ; simp at z; omega) (by omega) (by omega)) ⟨_, rfl, Below.refl _ _, optDef zβ rfl⟩
                  refine ⟨⟨(true && (decide ((0 : Int) < (((j : Nat) : Int) : Int)))), .yes (c := (decide ((0 : Int) < (((j : Nat) : Int) : Int)))) (d := true) rfl (fun v w h => h), fun h w => optUndef h, fun zβ za zw zc => ?_⟩, ?_⟩
                  · exact ix_23 (k := (j - 1)) rfl ((show za.eval (.tmp 64) = za.tmps.getD 64 undef from rfl).trans (optVal (zc.dep 8 64 (by kernel_rfl)) rfl zβ)) rfl ((show za.eval (.tmp 66) = za.tmps.getD 66 undef from rfl).trans (optVal (zc.dep 10 66 (by kernel_rfl)) rfl zβ)) (by first | omega | (have zz := zβ; simp only [Bool.and_eq_true, Bool.or_eq_true, Bool.true_and, Bool.not_eq_true', Bool.or_eq_false_iff, Bool.and_eq_false_iff, beq_eq_false_iff_ne, ne_eq, beq_iff_eq, decide_eq_true_eq, decide_eq_false_iff_not, bne_iff_ne] at zz; omega)) ⟨_, rfl, Below.refl _ _, optDef zβ rfl⟩
                  refine ⟨⟨(true && (decide ((0 : Int) < (((j : Nat) : Int) : Int)))), .yes (c := (decide ((0 : Int) < (((j : Nat) : Int) : Int)))) (d := true) rfl (fun v w h => h), fun h w => optUndef h, fun zβ za zw zc => ?_⟩, ?_⟩
                  · exact fld_56_0 rfl ((show za.eval (.tmp 67) = za.tmps.getD 67 undef from rfl).trans (optVal (zc.dep 11 67 (by kernel_rfl)) rfl zβ)) ⟨_, rfl, Below.refl _ _, optDef zβ rfl⟩
                  refine ⟨⟨(true && (decide ((0 : Int) < (((j : Nat) : Int) : Int)))), .yes (c := (decide ((0 : Int) < (((j : Nat) : Int) : Int)))) (d := true) rfl (fun v w h => h), fun h w => optUndef h, fun zβ za zw zc => ?_⟩, ?_⟩
                  · exact ld_3 rfl ((show za.eval (.tmp 68) = za.tmps.getD 68 undef from rfl).trans (optVal (zc.dep 12 68 (by kernel_rfl)) rfl zβ)) (bkeeps zc.below _ _ (hc44 ((j - 1)) (by first | omega | (have zz := zβ; simp only [Bool.and_eq_true, Bool.or_eq_true, Bool.true_and, Bool.not_eq_true', Bool.or_eq_false_iff, Bool.and_eq_false_iff, beq_eq_false_iff_ne, ne_eq, beq_iff_eq, decide_eq_true_eq, decide_eq_false_iff_not, bne_iff_ne] at zz; omega))).1) ⟨_, rfl, Below.refl _ _, optDef zβ rfl⟩
                  refine ⟨⟨(true && (decide ((0 : Int) < (((j : Nat) : Int) : Int)))), .yes (c := (decide ((0 : Int) < (((j : Nat) : Int) : Int)))) (d := true) rfl (fun v w h => h), fun h w => optUndef h, fun zβ za zw zc => ?_⟩, ?_⟩
                  · exact lss_3 rfl ((show za.eval (.tmp 63) = za.tmps.getD 63 undef from rfl).trans (optVal (zc.dep 7 63 (by kernel_rfl)) rfl zβ)) ((show za.eval (.tmp 69) = za.tmps.getD 69 undef from rfl).trans (optVal (zc.dep 13 69 (by kernel_rfl)) rfl zβ)) ⟨_, rfl, Below.refl _ _, optDef zβ rfl⟩
                  refine ⟨⟨true, .none rfl, fun h w => optUndef h, fun zβ za zw zc => ?_⟩, ?_⟩
                  · exact wp_and rfl ((show za.eval (.tmp 58) = za.tmps.getD 58 undef from rfl).trans (optVal (zc.dep 2 58 (by kernel_rfl)) rfl rfl)) (fun hp => ((show za.eval (.tmp 70) = za.tmps.getD 70 undef from rfl).trans (optVal (zc.dep 14 70 (by kernel_rfl)) rfl (bMk zβ hp)))) ⟨_, rfl, Below.refl _ _, optDef zβ rfl⟩
                  exact trivial
                · intro za w45 zh hb46 zu
                  have zh := zh.cons (d := 71) (v := .bool (((decide ((0 : Int) < (((j : Nat) : Int) : Int))) && (decide (((dget ((insAt z.L j (dget (nmAll (clRn cl []).2 0) z.i))) j).var : Int) < ((dget ((insAt z.L j (dget (nmAll (clRn cl []).2 0) z.i))) ((j - 1))).var : Int)))))) (optVal (zu 15 71 (by kernel_rfl)) rfl rfl)
                  clear zu
                  refine (show WE _ [(0, .slice a cl.length c), (2, .slice none 0 0), (3, .slice none 0 0), (4, .slice x.2.1 ((clRn (cl.take x.1) []).2.length) x.2.2), (5, .int .i64 (((x.1 : Nat) : Int))), (6, .slice ((some ⟨gr, 0, none⟩)) ((z.n + 1)) rc35), (7, .int .i64 (((z.i : Nat) : Int))), (8, .int .i64 (((j : Nat) : Int))), (13, .bool ((decide ((((x.1 : Nat) : Int) : Int) < (((cl.length : Nat) : Int) : Int))))), (33, .bool ((decide ((((z.i : Nat) : Int) : Int) < ((((clRn (cl.take x.1) []).2.length : Nat) : Int) : Int))))), (41, .bool ((((List.getD ((clRn cl []).2) z.i 0) : Int) != (((z.i : Nat) : Int) : Int)))), (71, .bool (((decide ((0 : Int) < (((j : Nat) : Int) : Int))) && (decide (((dget ((insAt z.L j (dget (nmAll (clRn cl []).2 0) z.i))) j).var : Int) < ((dget ((insAt z.L j (dget (nmAll (clRn cl []).2 0) z.i))) ((j - 1))).var : Int))))))] w45 _ .normal from ?_) za (zh.sub ⟨rfl, rfl, rfl, rfl, rfl, rfl, rfl, rfl, rfl, rfl, rfl, rfl, trivial⟩)
                  refine WE.next ?_
                  refine WC.cond rfl (fun h47 => ?_) (fun h47 => ?_)
                  · have h47 : ((0 : Int) < (((j : Nat) : Int) : Int)) ∧ (((dget ((insAt z.L j (dget (nmAll (clRn cl []).2 0) z.i))) j).var : Int) < ((dget ((insAt z.L j (dget (nmAll (clRn cl []).2 0) z.i))) ((j - 1))).var : Int)) := by simpa using h47
                    have hgo9 := h47
                    have hsw : (dget (nmAll (clRn cl []).2 0) z.i).var < (dget z.L (j - 1)).var := by have z := hgo9.2; rw [dget_ins_at hj, dget_ins_lt (by omega) hj] at z; exact z
                    refine WC.skip ?_
                    refine WE.next ?_
                    refine WC.seq ?_
                    refine WC.block ?_
                    refine WC.seq ?_
                    refine WC.region ?_
                    refine WL.val (.slice ((some ⟨gr, 0, none⟩)) ((z.n + 1)) rc35) rfl rfl rfl (fun za zC zh zk => wp_move rfl (zh.ev rfl) zk) ?_
                    refine WL.val (.int .i64 (((j : Nat) : Int))) rfl rfl rfl (fun za zC zh zk => wp_move rfl (zh.ev rfl) zk) ?_
                    refine WL.val (.pointer (some ⟨gr, 0 + j * 3, none⟩)) rfl rfl rfl (fun za zC zh zk => ix_23 (k := j) rfl (zh.ev rfl) rfl (zh.ev rfl) (by first | omega | (simp; omega)) zk) ?_
                    refine WL.val (.agg #[.int .i64 ((dget ((insAt z.L j (dget (nmAll (clRn cl []).2 0) z.i))) j).var), .int .i64 ((dget ((insAt z.L j (dget (nmAll (clRn cl []).2 0) z.i))) j).t.f), .slice ((A42 j)) ((dget ((insAt z.L j (dget (nmAll (clRn cl []).2 0) z.i))) j).t.args.length) ((C43 j))]) rfl rfl rfl (fun za zC zh zk => ld_56 rfl (zh.ev rfl) (bkeeps hb46 _ _ (hc44 j (by first | omega | (simp; omega))).1) (bkeeps hb46 _ _ (hc44 j (by first | omega | (simp; omega))).2.1) (bkeeps hb46 _ _ (hc44 j (by first | omega | (simp; omega))).2.2.1) zk) ?_
                    refine WL.step (post := NewBlk w45 56 #[.int .i64 0, .int .i64 0, .slice none 0 0]) rfl rfl rfl (fun za zC zh zk => alloc_56 rfl (zk _ _ (newBlk _ _ _))) ?_
                    rintro _ w48 ⟨g49, rfl, hg50, hB51, hb52, hz53⟩
                    have hb54 : Below w.heap.size w w45 := (bstep hb39 hb46)
                    have hl55 : w.heap.size ≤ g49 := by have z2 := (hb54).size; omega
                    have hb56 : Below w1.heap.size w1 w45 := (bstep hb40 hb46)
                    have hl57 : w1.heap.size ≤ g49 := by have z2 := (hb56).size; omega
                    have hl58 : w38.heap.size ≤ g49 := by have z2 := (hb46).size; omega
                    refine WL.step (post := fun _ w' => Upd g49 w48 w' ∧ Blk w' g49 56 #[.int .i64 ((dget ((insAt z.L j (dget (nmAll (clRn cl []).2 0) z.i))) j).var), .int .i64 ((dget ((insAt z.L j (dget (nmAll (clRn cl []).2 0) z.i))) j).t.f), .slice ((A42 j)) ((dget ((insAt z.L j (dget (nmAll (clRn cl []).2 0) z.i))) j).t.args.length) ((C43 j))]) rfl rfl rfl (fun za zC zh zk => st_56 rfl (zh.ev rfl) (zh.ev rfl) rfl rfl rfl hB51 (by first | decide | simp) (fun v => zk v _ ⟨((Upd.at_ _ _ _ _).trans (Upd.at_ _ _ _ _)).trans (Upd.at_ _ _ _ _), ((hB51.set_ 0 _).set_ 1 _).set_ 2 _⟩)) ?_
                    rintro v62 w59 ⟨hu60, hB61⟩
                    have hb63 : Below w.heap.size w w48 := (bstep hb54 hb52)
                    have hb64 : Below w1.heap.size w1 w48 := (bstep hb56 hb52)
                    have hb65 : Below w38.heap.size w38 w48 := (bstep hb46 hb52)
                    have hb66 := upd_below hb63 hu60 (by omega)
                    have hb67 := upd_below hb64 hu60 (by omega)
                    have hb68 := upd_below hb65 hu60 (by omega)
                    refine WL.nil (WE.sub (K' := [(0, .slice a cl.length c), (2, .slice none 0 0), (3, .slice none 0 0), (4, .slice x.2.1 ((clRn (cl.take x.1) []).2.length) x.2.2), (5, .int .i64 (((x.1 : Nat) : Int))), (6, .slice ((some ⟨gr, 0, none⟩)) ((z.n + 1)) rc35), (7, .int .i64 (((z.i : Nat) : Int))), (8, .int .i64 (((j : Nat) : Int))), (9, .pointer (some ⟨g49, 0, none⟩)), (13, .bool ((decide ((((x.1 : Nat) : Int) : Int) < (((cl.length : Nat) : Int) : Int))))), (33, .bool ((decide ((((z.i : Nat) : Int) : Int) < ((((clRn (cl.take x.1) []).2.length : Nat) : Int) : Int))))), (41, .bool ((((List.getD ((clRn cl []).2) z.i 0) : Int) != (((z.i : Nat) : Int) : Int)))), (71, .bool (((decide ((0 : Int) < (((j : Nat) : Int) : Int))) && (decide (((dget ((insAt z.L j (dget (nmAll (clRn cl []).2 0) z.i))) j).var : Int) < ((dget ((insAt z.L j (dget (nmAll (clRn cl []).2 0) z.i))) ((j - 1))).var : Int))))))]) ⟨rfl, rfl, rfl, rfl, rfl, rfl, rfl, rfl, rfl, rfl, rfl, rfl, rfl, trivial⟩ ?_)
                    refine WE.next ?_
                    refine WC.seq ?_
                    refine WC.region ?_
                    refine WL.val (.slice ((some ⟨gr, 0, none⟩)) ((z.n + 1)) rc35) rfl rfl rfl (fun za zC zh zk => wp_move rfl (zh.ev rfl) zk) ?_
                    refine WL.val (.int .i64 (((j : Nat) : Int))) rfl rfl rfl (fun za zC zh zk => wp_move rfl (zh.ev rfl) zk) ?_
                    refine WL.val (.slice ((some ⟨gr, 0, none⟩)) ((z.n + 1)) rc35) rfl rfl rfl (fun za zC zh zk => wp_move rfl (zh.ev rfl) zk) ?_
                    refine WL.val (.int .i64 (((j : Nat) : Int))) rfl rfl rfl (fun za zC zh zk => wp_move rfl (zh.ev rfl) zk) ?_
                    refine WL.val (.int .i64 ((((j - 1) : Nat) : Int))) rfl rfl rfl (fun za zC zh zk => subb_3 rfl (zh.ev rfl) (zh.ev rfl) (wrap_eq (by omega) (by omega) (by omega)) zk) ?_
                    refine WL.val (.pointer (some ⟨gr, 0 + ((j - 1)) * 3, none⟩)) rfl rfl rfl (fun za zC zh zk => ix_23 (k := (j - 1)) rfl (zh.ev rfl) rfl (zh.ev rfl) (by first | omega | (simp; omega)) zk) ?_
                    refine WL.val (.agg #[.int .i64 ((dget ((insAt z.L j (dget (nmAll (clRn cl []).2 0) z.i))) ((j - 1))).var), .int .i64 ((dget ((insAt z.L j (dget (nmAll (clRn cl []).2 0) z.i))) ((j - 1))).t.f), .slice ((A42 ((j - 1)))) ((dget ((insAt z.L j (dget (nmAll (clRn cl []).2 0) z.i))) ((j - 1))).t.args.length) ((C43 ((j - 1))))]) rfl rfl rfl (fun za zC zh zk => ld_56 rfl (zh.ev rfl) (bkeeps hb68 _ _ (hc44 ((j - 1)) (by first | omega | (simp; omega))).1) (bkeeps hb68 _ _ (hc44 ((j - 1)) (by first | omega | (simp; omega))).2.1) (bkeeps hb68 _ _ (hc44 ((j - 1)) (by first | omega | (simp; omega))).2.2.1) zk) ?_
                    refine WL.val (.pointer (some ⟨gr, 0 + j * 3, none⟩)) rfl rfl rfl (fun za zC zh zk => ix_23 (k := j) rfl (zh.ev rfl) rfl (zh.ev rfl) (by first | omega | (simp; omega)) zk) ?_
                    have ho69 := ho41.below hb68
                    have hs79 : Chg ((fun b => b = gr)) w38 w59 := (Chg.trans2 (Chg.refl ((fun b => b = gr)) _) (Chg.ofBelow (S := fun k => k < 0) hb68) (fun i h1 h2 => by first | exact h2 | exact .inl ⟨h2, h1⟩ | exact .inl h2 | exact .inr h2 | exact .inr (.inl h2) | exact .inr (.inr h2) | ((try dsimp only at *); omega)))
                    obtain ⟨cu74, ds75, hb76, _, _, _, _, _, hs77, _, _⟩ := ho69.open3
                    have hin78 := InT.chg (hc44 ((j - 1)) (by first | omega | (simp; omega))).2.2.2.1 hs79 (fun b q e => q.2 e)
                    refine WL.step (post := fun _ w' => Upd gr w59 w' ∧ RowE eltB w' w1.heap.size 56 (some ⟨gr, 0, none⟩) rc35 (z.n + 1) (((insAt z.L j (dget (nmAll (clRn cl []).2 0) z.i)).set j (dget ((insAt z.L j (dget (nmAll (clRn cl []).2 0) z.i))) ((j - 1)))))) rfl rfl rfl (fun za zC zh zk => st_56 rfl (zh.ev rfl) (zh.ev rfl) rfl rfl rfl hb76 (by omega) (fun v => zk v _ ⟨((Upd.at_ _ _ _ _).trans (Upd.at_ _ _ _ _)).trans (Upd.at_ _ _ _ _), ho69.store3 (by omega) (hc44 ((j - 1)) (by first | omega | (simp; omega))).2.2.2.2 hin78⟩)) ?_
                    rintro v73 w70 ⟨hu71, hr72⟩
                    have hb80 := upd_below hb66 hu71 (by omega)
                    have hb81 := upd_below hb67 hu71 (by omega)
                    have hB82 := upd_blk hB61 hu71 (by omega)
                    refine WL.nil (WE.sub (K' := [(0, .slice a cl.length c), (2, .slice none 0 0), (3, .slice none 0 0), (4, .slice x.2.1 ((clRn (cl.take x.1) []).2.length) x.2.2), (5, .int .i64 (((x.1 : Nat) : Int))), (6, .slice ((some ⟨gr, 0, none⟩)) ((z.n + 1)) rc35), (7, .int .i64 (((z.i : Nat) : Int))), (8, .int .i64 (((j : Nat) : Int))), (9, .pointer (some ⟨g49, 0, none⟩)), (13, .bool ((decide ((((x.1 : Nat) : Int) : Int) < (((cl.length : Nat) : Int) : Int))))), (33, .bool ((decide ((((z.i : Nat) : Int) : Int) < ((((clRn (cl.take x.1) []).2.length : Nat) : Int) : Int))))), (41, .bool ((((List.getD ((clRn cl []).2) z.i 0) : Int) != (((z.i : Nat) : Int) : Int)))), (71, .bool (((decide ((0 : Int) < (((j : Nat) : Int) : Int))) && (decide (((dget ((insAt z.L j (dget (nmAll (clRn cl []).2 0) z.i))) j).var : Int) < ((dget ((insAt z.L j (dget (nmAll (clRn cl []).2 0) z.i))) ((j - 1))).var : Int))))))]) ⟨rfl, rfl, rfl, rfl, rfl, rfl, rfl, rfl, rfl, rfl, rfl, rfl, rfl, trivial⟩ ?_)
                    refine WE.next ?_
                    refine WC.region ?_
                    refine WL.val (.slice ((some ⟨gr, 0, none⟩)) ((z.n + 1)) rc35) rfl rfl rfl (fun za zC zh zk => wp_move rfl (zh.ev rfl) zk) ?_
                    refine WL.val (.int .i64 (((j : Nat) : Int))) rfl rfl rfl (fun za zC zh zk => wp_move rfl (zh.ev rfl) zk) ?_
                    refine WL.val (.int .i64 ((((j - 1) : Nat) : Int))) rfl rfl rfl (fun za zC zh zk => subb_3 rfl (zh.ev rfl) (zh.ev rfl) (wrap_eq (by omega) (by omega) (by omega)) zk) ?_
                    refine WL.val (.agg #[.int .i64 ((dget ((insAt z.L j (dget (nmAll (clRn cl []).2 0) z.i))) j).var), .int .i64 ((dget ((insAt z.L j (dget (nmAll (clRn cl []).2 0) z.i))) j).t.f), .slice ((A42 j)) ((dget ((insAt z.L j (dget (nmAll (clRn cl []).2 0) z.i))) j).t.args.length) ((C43 j))]) rfl rfl rfl (fun za zC zh zk => ld_56 rfl (zh.ev rfl) ((hB82.cell 0).trans rfl) ((hB82.cell 1).trans rfl) ((hB82.cell 2).trans rfl) zk) ?_
                    obtain ⟨A83, C84, hc85⟩ := hr72.cells
                    refine WL.val (.pointer (some ⟨gr, 0 + ((j - 1)) * 3, none⟩)) rfl rfl rfl (fun za zC zh zk => ix_23 (k := (j - 1)) rfl (zh.ev rfl) rfl (zh.ev rfl) (by first | omega | (simp; omega)) zk) ?_
                    have hs95 : Chg ((fun b => b = gr)) w38 w70 := (Chg.trans2 (Chg.trans2 (Chg.refl ((fun b => b = gr)) _) (Chg.ofBelow (S := fun k => k < 0) hb68) (fun i h1 h2 => by first | exact h2 | exact .inl ⟨h2, h1⟩ | exact .inl h2 | exact .inr h2 | exact .inr (.inl h2) | exact .inr (.inr h2) | ((try dsimp only at *); omega))) (Chg.ofUpd (S := fun k => k = gr) hu71 rfl) (fun i h1 h2 => by first | exact h2 | exact .inl ⟨h2, h1⟩ | exact .inl h2 | exact .inr h2 | exact .inr (.inl h2) | exact .inr (.inr h2) | ((try dsimp only at *); omega)))
                    obtain ⟨cu90, ds91, hb92, _, _, _, _, _, hs93, _, _⟩ := hr72.open3
                    have hin94 := InT.chg (hc44 j (by first | omega | (simp; omega))).2.2.2.1 hs95 (fun b q e => q.2 e)
                    refine WL.step (post := fun _ w' => Upd gr w70 w' ∧ RowE eltB w' w1.heap.size 56 (some ⟨gr, 0, none⟩) rc35 (z.n + 1) ((((insAt z.L j (dget (nmAll (clRn cl []).2 0) z.i)).set j (dget ((insAt z.L j (dget (nmAll (clRn cl []).2 0) z.i))) ((j - 1)))).set (j - 1) (dget ((insAt z.L j (dget (nmAll (clRn cl []).2 0) z.i))) j)))) rfl rfl rfl (fun za zC zh zk => st_56 rfl (zh.ev rfl) (zh.ev rfl) rfl rfl rfl hb92 (by omega) (fun v => zk v _ ⟨((Upd.at_ _ _ _ _).trans (Upd.at_ _ _ _ _)).trans (Upd.at_ _ _ _ _), hr72.store3 (by omega) (hc44 j (by first | omega | (simp; omega))).2.2.2.2 hin94⟩)) ?_
                    rintro v89 w86 ⟨hu87, hr88⟩
                    have hb96 := upd_below hb80 hu87 (by omega)
                    have hb97 := upd_below hb81 hu87 (by omega)
                    have hB98 := upd_blk hB82 hu87 (by omega)
                    refine WL.nil (WE.sub (K' := [(0, .slice a cl.length c), (2, .slice none 0 0), (3, .slice none 0 0), (4, .slice x.2.1 ((clRn (cl.take x.1) []).2.length) x.2.2), (5, .int .i64 (((x.1 : Nat) : Int))), (6, .slice ((some ⟨gr, 0, none⟩)) ((z.n + 1)) rc35), (7, .int .i64 (((z.i : Nat) : Int))), (8, .int .i64 (((j : Nat) : Int))), (9, .pointer (some ⟨g49, 0, none⟩)), (13, .bool ((decide ((((x.1 : Nat) : Int) : Int) < (((cl.length : Nat) : Int) : Int))))), (33, .bool ((decide ((((z.i : Nat) : Int) : Int) < ((((clRn (cl.take x.1) []).2.length : Nat) : Int) : Int))))), (41, .bool ((((List.getD ((clRn cl []).2) z.i 0) : Int) != (((z.i : Nat) : Int) : Int)))), (71, .bool (((decide ((0 : Int) < (((j : Nat) : Int) : Int))) && (decide (((dget ((insAt z.L j (dget (nmAll (clRn cl []).2 0) z.i))) j).var : Int) < ((dget ((insAt z.L j (dget (nmAll (clRn cl []).2 0) z.i))) ((j - 1))).var : Int))))))]) ⟨rfl, rfl, rfl, rfl, rfl, rfl, rfl, rfl, rfl, rfl, rfl, rfl, rfl, trivial⟩ ?_)
                    refine WE.blockNormal ?_
                    refine WE.next ?_
                    refine WC.region ?_
                    refine WL.val (.int .i64 (((j : Nat) : Int))) rfl rfl rfl (fun za zC zh zk => wp_move rfl (zh.ev rfl) zk) ?_
                    refine WL.val (.int .i64 ((((j - 1) : Nat) : Int))) rfl rfl rfl (fun za zC zh zk => subb_3 rfl (zh.ev rfl) (zh.ev rfl) (wrap_eq (by omega) (by omega) (by omega)) zk) ?_
                    refine WL.val (.int .i64 ((((j - 1) : Nat) : Int))) rfl rfl rfl (fun za zC zh zk => wp_assign rfl (zh.ev rfl) zk) ?_
                    refine WL.nil (WE.sub (K' := [(0, .slice a cl.length c), (2, .slice none 0 0), (3, .slice none 0 0), (4, .slice x.2.1 ((clRn (cl.take x.1) []).2.length) x.2.2), (5, .int .i64 (((x.1 : Nat) : Int))), (6, .slice ((some ⟨gr, 0, none⟩)) ((z.n + 1)) rc35), (7, .int .i64 (((z.i : Nat) : Int))), (8, .int .i64 ((((j - 1) : Nat) : Int))), (9, .pointer (some ⟨g49, 0, none⟩)), (13, .bool ((decide ((((x.1 : Nat) : Int) : Int) < (((cl.length : Nat) : Int) : Int))))), (33, .bool ((decide ((((z.i : Nat) : Int) : Int) < ((((clRn (cl.take x.1) []).2.length : Nat) : Int) : Int))))), (41, .bool ((((List.getD ((clRn cl []).2) z.i 0) : Int) != (((z.i : Nat) : Int) : Int)))), (71, .bool (((decide ((0 : Int) < (((j : Nat) : Int) : Int))) && (decide (((dget ((insAt z.L j (dget (nmAll (clRn cl []).2 0) z.i))) j).var : Int) < ((dget ((insAt z.L j (dget (nmAll (clRn cl []).2 0) z.i))) ((j - 1))).var : Int))))))]) ⟨rfl, rfl, rfl, rfl, rfl, rfl, rfl, rfl, rfl, rfl, rfl, rfl, rfl, trivial⟩ ?_)
                    refine WE.round (j - 1) ⟨rfl, rfl, rfl, rfl, rfl, rfl, rfl, rfl, rfl, rfl, rfl, trivial⟩ ?_ ?_
                    · exact ⟨by omega, (Nat.le_trans (Nat.le_trans (Nat.le_trans hBw3 hb68.size) (Nat.le_of_eq hu71.size.symm)) (Nat.le_of_eq hu87.size.symm)), fun k h1 h2 => by rcases Nat.lt_or_ge k j with q | q; (obtain rfl : k = j - 1 := by omega); exact hsw; exact hjr k q h2, hb96, hb97, (by rw [← ins_swap (x := (dget (nmAll (clRn cl []).2 0) z.i)) (by omega) hj]; exact hr88)⟩
                    · omega
                  · have h47 : ¬ (((0 : Int) < (((j : Nat) : Int) : Int)) ∧ (((dget ((insAt z.L j (dget (nmAll (clRn cl []).2 0) z.i))) j).var : Int) < ((dget ((insAt z.L j (dget (nmAll (clRn cl []).2 0) z.i))) ((j - 1))).var : Int))) := by simpa using h47
                    have hgo9 := h47
                    have hstop : ¬ (0 < j ∧ (dget (nmAll (clRn cl []).2 0) z.i).var < (dget z.L (j - 1)).var) := fun q => hgo9 ⟨by omega, by rw [dget_ins_at hj, dget_ins_lt (by omega) hj]; exact q.2⟩
                    refine WC.exit ?_
                    refine WE.thenExit ?_
                    refine WE.thenExit ?_
                    refine WE.blockIs rfl ?_
                    refine WE.blockNormal ?_
                    refine WE.next ?_
                    refine WC.region ?_
                    refine WL.val (.int .i64 (((z.i : Nat) : Int))) rfl rfl rfl (fun za zC zh zk => wp_move rfl (zh.ev rfl) zk) ?_
                    refine WL.val (.int .i64 ((((z.i + 1) : Nat) : Int))) rfl rfl rfl (fun za zC zh zk => addb_3 rfl (zh.ev rfl) (zh.ev rfl) (wrap_eq (by omega) (by omega) (by omega)) zk) ?_
                    refine WL.val (.int .i64 ((((z.i + 1) : Nat) : Int))) rfl rfl rfl (fun za zC zh zk => wp_assign rfl (zh.ev rfl) zk) ?_
                    refine WL.nil (WE.sub (K' := [(0, .slice a cl.length c), (2, .slice none 0 0), (3, .slice none 0 0), (4, .slice x.2.1 ((clRn (cl.take x.1) []).2.length) x.2.2), (5, .int .i64 (((x.1 : Nat) : Int))), (6, .slice ((some ⟨gr, 0, none⟩)) ((z.n + 1)) rc35), (7, .int .i64 ((((z.i + 1) : Nat) : Int))), (8, .int .i64 (((j : Nat) : Int))), (13, .bool ((decide ((((x.1 : Nat) : Int) : Int) < (((cl.length : Nat) : Int) : Int))))), (33, .bool ((decide ((((z.i : Nat) : Int) : Int) < ((((clRn (cl.take x.1) []).2.length : Nat) : Int) : Int))))), (41, .bool ((((List.getD ((clRn cl []).2) z.i 0) : Int) != (((z.i : Nat) : Int) : Int)))), (71, .bool (((decide ((0 : Int) < (((j : Nat) : Int) : Int))) && (decide (((dget ((insAt z.L j (dget (nmAll (clRn cl []).2 0) z.i))) j).var : Int) < ((dget ((insAt z.L j (dget (nmAll (clRn cl []).2 0) z.i))) ((j - 1))).var : Int))))))]) ⟨rfl, rfl, rfl, rfl, rfl, rfl, rfl, rfl, rfl, rfl, rfl, rfl, trivial⟩ ?_)
                    refine WE.round (⟨z.i + 1, (some ⟨gr, 0, none⟩), rc35, (z.n + 1), (insAt z.L j (dget (nmAll (clRn cl []).2 0) z.i))⟩) ⟨rfl, rfl, rfl, rfl, rfl, rfl, rfl, rfl, trivial⟩ ?_ ?_
                    · have hb99 : Below w.heap.size w w45 := (bstep hb39 hb46)
                      have hb100 : Below w1.heap.size w1 w45 := (bstep hb40 hb46)
                      have ho101 := ho41.below hb46
                      exact ⟨by (try dsimp only); omega, (Nat.le_trans hb40.size hb46.size), subOf_ins hso (by rw [hvar]; exact hnd) (by omega) hns hj hjr hstop, hb99, hb100, ho101⟩
                    · (try dsimp only); omega
          · have h30 : ¬ (((List.getD ((clRn cl []).2) z.i 0) : Int) ≠ (((z.i : Nat) : Int) : Int)) := by simpa using h30
            refine WC.skip ?_
            refine WE.next ?_
            refine WC.seq ?_
            have hnl : z.n = z.L.length := ho24.len
            refine WC.region ?_
            refine WL.val (.slice z.a z.n z.c) rfl rfl rfl (fun za zC zh zk => wp_move rfl (zh.ev rfl) zk) ?_
            refine WL.val (.int .i64 (((z.n : Nat) : Int))) rfl rfl rfl (fun za zC zh zk => len_23 rfl (zh.ev rfl) zk) ?_
            refine WL.val (.int .i64 ((((z.n : Nat) : Int) - 1))) rfl rfl rfl (fun za zC zh zk => subb_3 rfl (zh.ev rfl) (zh.ev rfl) (wrap_eq rfl (by omega) (by omega)) zk) ?_
            refine WL.val (.int .i64 ((((z.n : Nat) : Int) - 1))) rfl rfl rfl (fun za zC zh zk => wp_assign rfl (zh.ev rfl) zk) ?_
            refine WL.nil (WE.sub (K' := [(0, .slice a cl.length c), (2, .slice none 0 0), (3, .slice none 0 0), (4, .slice x.2.1 ((clRn (cl.take x.1) []).2.length) x.2.2), (5, .int .i64 (((x.1 : Nat) : Int))), (6, .slice z.a z.n z.c), (7, .int .i64 (((z.i : Nat) : Int))), (8, .int .i64 ((((z.n : Nat) : Int) - 1))), (13, .bool ((decide ((((x.1 : Nat) : Int) : Int) < (((cl.length : Nat) : Int) : Int))))), (33, .bool ((decide ((((z.i : Nat) : Int) : Int) < ((((clRn (cl.take x.1) []).2.length : Nat) : Int) : Int))))), (41, .bool ((((List.getD ((clRn cl []).2) z.i 0) : Int) != (((z.i : Nat) : Int) : Int))))]) ⟨rfl, rfl, rfl, rfl, rfl, rfl, rfl, rfl, rfl, rfl, rfl, trivial⟩ ?_)
            refine WE.next ?_
            refine WC.block ?_
            refine WC.loop (X := Nat) (fun j => j) (fun j => [(0, .slice a cl.length c), (2, .slice none 0 0), (3, .slice none 0 0), (4, .slice x.2.1 ((clRn (cl.take x.1) []).2.length) x.2.2), (5, .int .i64 (((x.1 : Nat) : Int))), (6, .slice z.a z.n z.c), (7, .int .i64 (((z.i : Nat) : Int))), (8, .int .i64 ((((z.n : Nat) : Int) - 1))), (13, .bool ((decide ((((x.1 : Nat) : Int) : Int) < (((cl.length : Nat) : Int) : Int))))), (33, .bool ((decide ((((z.i : Nat) : Int) : Int) < ((((clRn (cl.take x.1) []).2.length : Nat) : Int) : Int))))), (41, .bool ((((List.getD ((clRn cl []).2) z.i 0) : Int) != (((z.i : Nat) : Int) : Int))))]) (fun j w102 => w1.heap.size ≤ (w102).heap.size ∧ Below w.heap.size w w102 ∧ Below w1.heap.size w1 w102 ∧ RowE eltB (w102) w1.heap.size 56 z.a z.c z.n z.L) 0 ⟨rfl, rfl, rfl, rfl, rfl, rfl, rfl, rfl, rfl, rfl, rfl, trivial⟩ ?_ ?_
            · exact ⟨hBw, hb22, hb23, ho24⟩
            · rintro j w102 ⟨hBw4, hb103, hb104, ho105⟩
              have hin9 := ho105.inRow.1
              have hcp9 := ho105.inRow.2.2.2
              unfold maxLen at hcp9
              refine WC.seq ?_
              refine WC.seq ?_
              obtain ⟨b106, o107, A108, C109, ha110, hc111⟩ := InRow.openB hin9
              refine WC.opt [(true, .val (.int .i64 ((((z.n : Nat) : Int) - 1)))), (true, .val (.bool ((decide ((0 : Int) < ((((z.n : Nat) : Int) - 1) : Int)))))), (true, .val (.bool ((decide ((0 : Int) < ((((z.n : Nat) : Int) - 1) : Int)))))), ((true && (decide ((0 : Int) < ((((z.n : Nat) : Int) - 1) : Int)))), .val (.slice z.a z.n z.c)), ((true && (decide ((0 : Int) < ((((z.n : Nat) : Int) - 1) : Int)))), .val (.int .i64 ((((z.n : Nat) : Int) - 1)))), ((true && (decide ((0 : Int) < ((((z.n : Nat) : Int) - 1) : Int)))), .val (.pointer (some ⟨b106, o107 + ((z.n - 1)) * 3, none⟩))), ((true && (decide ((0 : Int) < ((((z.n : Nat) : Int) - 1) : Int)))), .val (.pointer (some ⟨b106, o107 + ((z.n - 1)) * 3, none⟩))), ((true && (decide ((0 : Int) < ((((z.n : Nat) : Int) - 1) : Int)))), .val (.int .i64 ((dget z.L ((z.n - 1))).var))), ((true && (decide ((0 : Int) < ((((z.n : Nat) : Int) - 1) : Int)))), .val (.slice z.a z.n z.c)), ((true && (decide ((0 : Int) < ((((z.n : Nat) : Int) - 1) : Int)))), .val (.int .i64 ((((z.n : Nat) : Int) - 1)))), ((true && (decide ((0 : Int) < ((((z.n : Nat) : Int) - 1) : Int)))), .val (.int .i64 ((((z.n : Nat) : Int) - 1 - 1)))), ((true && (decide ((0 : Int) < ((((z.n : Nat) : Int) - 1) : Int)))), .val (.pointer (some ⟨b106, o107 + ((z.n - 2)) * 3, none⟩))), ((true && (decide ((0 : Int) < ((((z.n : Nat) : Int) - 1) : Int)))), .val (.pointer (some ⟨b106, o107 + ((z.n - 2)) * 3, none⟩))), ((true && (decide ((0 : Int) < ((((z.n : Nat) : Int) - 1) : Int)))), .val (.int .i64 ((dget z.L ((z.n - 2))).var))), ((true && (decide ((0 : Int) < ((((z.n : Nat) : Int) - 1) : Int)))), .val (.bool ((decide (((dget z.L ((z.n - 1))).var : Int) < ((dget z.L ((z.n - 2))).var : Int)))))), (true, .val (.bool (((decide ((0 : Int) < ((((z.n : Nat) : Int) - 1) : Int))) && (decide (((dget z.L ((z.n - 1))).var : Int) < ((dget z.L ((z.n - 2))).var : Int)))))))] [(0, .slice a cl.length c), (2, .slice none 0 0), (3, .slice none 0 0), (4, .slice x.2.1 ((clRn (cl.take x.1) []).2.length) x.2.2), (5, .int .i64 (((x.1 : Nat) : Int))), (6, .slice z.a z.n z.c), (7, .int .i64 (((z.i : Nat) : Int))), (8, .int .i64 ((((z.n : Nat) : Int) - 1))), (13, .bool ((decide ((((x.1 : Nat) : Int) : Int) < (((cl.length : Nat) : Int) : Int))))), (33, .bool ((decide ((((z.i : Nat) : Int) : Int) < ((((clRn (cl.take x.1) []).2.length : Nat) : Int) : Int))))), (41, .bool ((((List.getD ((clRn cl []).2) z.i 0) : Int) != (((z.i : Nat) : Int) : Int))))] ⟨rfl, rfl, rfl, rfl, rfl, rfl, rfl, rfl, rfl, rfl, rfl, trivial⟩ (by kernel_rfl) (by kernel_rfl) (by kernel_rfl) ?_ ?_
              · refine ⟨⟨true, .none rfl, fun h w => optUndef h, fun zβ za zw zc => ?_⟩, ?_⟩
                · exact wp_move rfl (zc.kn.ev rfl) ⟨_, rfl, Below.refl _ _, optDef zβ rfl⟩
                refine ⟨⟨true, .none rfl, fun h w => optUndef h, fun zβ za zw zc => ?_⟩, ?_⟩
                · exact gtr_3 rfl ((show za.eval (.tmp 56) = za.tmps.getD 56 undef from rfl).trans (optVal (zc.dep 0 56 (by kernel_rfl)) rfl rfl)) (zc.kn.ev rfl) ⟨_, rfl, Below.refl _ _, optDef zβ rfl⟩
                refine ⟨⟨true, .none rfl, fun h w => optUndef h, fun zβ za zw zc => ?_⟩, ?_⟩
                · exact wp_move rfl ((show za.eval (.tmp 57) = za.tmps.getD 57 undef from rfl).trans (optVal (zc.dep 1 57 (by kernel_rfl)) rfl rfl)) ⟨_, rfl, Below.refl _ _, optDef zβ rfl⟩
                refine ⟨⟨(true && (decide ((0 : Int) < ((((z.n : Nat) : Int) - 1) : Int)))), .yes (c := (decide ((0 : Int) < ((((z.n : Nat) : Int) - 1) : Int)))) (d := true) rfl (fun v w h => h), fun h w => optUndef h, fun zβ za zw zc => ?_⟩, ?_⟩
                · exact wp_move rfl (zc.kn.ev rfl) ⟨_, rfl, Below.refl _ _, optDef zβ rfl⟩
                refine ⟨⟨(true && (decide ((0 : Int) < ((((z.n : Nat) : Int) - 1) : Int)))), .yes (c := (decide ((0 : Int) < ((((z.n : Nat) : Int) - 1) : Int)))) (d := true) rfl (fun v w h => h), fun h w => optUndef h, fun zβ za zw zc => ?_⟩, ?_⟩
                · exact wp_move rfl (zc.kn.ev rfl) ⟨_, rfl, Below.refl _ _, optDef zβ rfl⟩
                refine ⟨⟨(true && (decide ((0 : Int) < ((((z.n : Nat) : Int) - 1) : Int)))), .yes (c := (decide ((0 : Int) < ((((z.n : Nat) : Int) - 1) : Int)))) (d := true) rfl (fun v w h => h), fun h w => optUndef h, fun zβ za zw zc => ?_⟩, ?_⟩
                · exact ix_23 (k := (z.n - 1)) rfl ((show za.eval (.tmp 59) = za.tmps.getD 59 undef from rfl).trans (optVal (zc.dep 3 59 (by kernel_rfl)) rfl zβ)) (ha110 ((z.n - 1)) (by first | omega | (have zz := zβ; simp only [Bool.and_eq_true, Bool.or_eq_true, Bool.true_and, Bool.not_eq_true', Bool.or_eq_false_iff, Bool.and_eq_false_iff, beq_eq_false_iff_ne, ne_eq, beq_iff_eq, decide_eq_true_eq, decide_eq_false_iff_not, bne_iff_ne] at zz; omega))) (((show za.eval (.tmp 60) = za.tmps.getD 60 undef from rfl).trans (optVal (zc.dep 4 60 (by kernel_rfl)) rfl zβ)).trans (congrArg (Value.int .i64) (by have z := zβ; simp at z; omega))) (by first | omega | (have zz := zβ; simp only [Bool.and_eq_true, Bool.or_eq_true, Bool.true_and, Bool.not_eq_true', Bool.or_eq_false_iff, Bool.and_eq_false_iff, beq_eq_false_iff_ne, ne_eq, beq_iff_eq, decide_eq_true_eq, decide_eq_false_iff_not, bne_iff_ne] at zz; omega)) ⟨_, rfl, Below.refl _ _, optDef zβ rfl⟩
                refine ⟨⟨(true && (decide ((0 : Int) < ((((z.n : Nat) : Int) - 1) : Int)))), .yes (c := (decide ((0 : Int) < ((((z.n : Nat) : Int) - 1) : Int)))) (d := true) rfl (fun v w h => h), fun h w => optUndef h, fun zβ za zw zc => ?_⟩, ?_⟩
                · exact fld_56_0 rfl ((show za.eval (.tmp 61) = za.tmps.getD 61 undef from rfl).trans (optVal (zc.dep 5 61 (by kernel_rfl)) rfl zβ)) ⟨_, rfl, Below.refl _ _, optDef zβ rfl⟩
                refine ⟨⟨(true && (decide ((0 : Int) < ((((z.n : Nat) : Int) - 1) : Int)))), .yes (c := (decide ((0 : Int) < ((((z.n : Nat) : Int) - 1) : Int)))) (d := true) rfl (fun v w h => h), fun h w => optUndef h, fun zβ za zw zc => ?_⟩, ?_⟩
                · exact ld_3 rfl ((show za.eval (.tmp 62) = za.tmps.getD 62 undef from rfl).trans (optVal (zc.dep 6 62 (by kernel_rfl)) rfl zβ)) (bkeeps zc.below _ _ (hc111 ((z.n - 1)) (by first | omega | (have zz := zβ; simp only [Bool.and_eq_true, Bool.or_eq_true, Bool.true_and, Bool.not_eq_true', Bool.or_eq_false_iff, Bool.and_eq_false_iff, beq_eq_false_iff_ne, ne_eq, beq_iff_eq, decide_eq_true_eq, decide_eq_false_iff_not, bne_iff_ne] at zz; omega))).1) ⟨_, rfl, Below.refl _ _, optDef zβ rfl⟩
                refine ⟨⟨(true && (decide ((0 : Int) < ((((z.n : Nat) : Int) - 1) : Int)))), .yes (c := (decide ((0 : Int) < ((((z.n : Nat) : Int) - 1) : Int)))) (d := true) rfl (fun v w h => h), fun h w => optUndef h, fun zβ za zw zc => ?_⟩, ?_⟩
                · exact wp_move rfl (zc.kn.ev rfl) ⟨_, rfl, Below.refl _ _, optDef zβ rfl⟩
                refine ⟨⟨(true && (decide ((0 : Int) < ((((z.n : Nat) : Int) - 1) : Int)))), .yes (c := (decide ((0 : Int) < ((((z.n : Nat) : Int) - 1) : Int)))) (d := true) rfl (fun v w h => h), fun h w => optUndef h, fun zβ za zw zc => ?_⟩, ?_⟩
                · exact wp_move rfl (zc.kn.ev rfl) ⟨_, rfl, Below.refl _ _, optDef zβ rfl⟩
                refine ⟨⟨(true && (decide ((0 : Int) < ((((z.n : Nat) : Int) - 1) : Int)))), .yes (c := (decide ((0 : Int) < ((((z.n : Nat) : Int) - 1) : Int)))) (d := true) rfl (fun v w h => h), fun h w => optUndef h, fun zβ za zw zc => ?_⟩, ?_⟩
                · exact subb_3 rfl ((show za.eval (.tmp 65) = za.tmps.getD 65 undef from rfl).trans (optVal (zc.dep 9 65 (by kernel_rfl)) rfl zβ)) (zc.kn.ev rfl) (wrap_eq rfl (by have z := zβ; simp at z; omega) (by omega)) ⟨_, rfl, Below.refl _ _, optDef zβ rfl⟩
                refine ⟨⟨(true && (decide ((0 : Int) < ((((z.n : Nat) : Int) - 1) : Int)))), .yes (c := (decide ((0 : Int) < ((((z.n : Nat) : Int) - 1) : Int)))) (d := true) rfl (fun v w h => h), fun h w => optUndef h, fun zβ za zw zc => ?_⟩, ?_⟩
                · exact ix_23 (k := (z.n - 2)) rfl ((show za.eval (.tmp 64) = za.tmps.getD 64 undef from rfl).trans (optVal (zc.dep 8 64 (by kernel_rfl)) rfl zβ)) (ha110 ((z.n - 2)) (by first | omega | (have zz := zβ; simp only [Bool.and_eq_true, Bool.or_eq_true, Bool.true_and, Bool.not_eq_true', Bool.or_eq_false_iff, Bool.and_eq_false_iff, beq_eq_false_iff_ne, ne_eq, beq_iff_eq, decide_eq_true_eq, decide_eq_false_iff_not, bne_iff_ne] at zz; omega))) (((show za.eval (.tmp 66) = za.tmps.getD 66 undef from rfl).trans (optVal (zc.dep 10 66 (by kernel_rfl)) rfl zβ)).trans (congrArg (Value.int .i64) (by have z := zβ; simp at z; omega))) (by first | omega | (have zz := zβ; simp only [Bool.and_eq_true, Bool.or_eq_true, Bool.true_and, Bool.not_eq_true', Bool.or_eq_false_iff, Bool.and_eq_false_iff, beq_eq_false_iff_ne, ne_eq, beq_iff_eq, decide_eq_true_eq, decide_eq_false_iff_not, bne_iff_ne] at zz; omega)) ⟨_, rfl, Below.refl _ _, optDef zβ rfl⟩
                refine ⟨⟨(true && (decide ((0 : Int) < ((((z.n : Nat) : Int) - 1) : Int)))), .yes (c := (decide ((0 : Int) < ((((z.n : Nat) : Int) - 1) : Int)))) (d := true) rfl (fun v w h => h), fun h w => optUndef h, fun zβ za zw zc => ?_⟩, ?_⟩
                · exact fld_56_0 rfl ((show za.eval (.tmp 67) = za.tmps.getD 67 undef from rfl).trans (optVal (zc.dep 11 67 (by kernel_rfl)) rfl zβ)) ⟨_, rfl, Below.refl _ _, optDef zβ rfl⟩
                refine ⟨⟨(true && (decide ((0 : Int) < ((((z.n : Nat) : Int) - 1) : Int)))), .yes (c := (decide ((0 : Int) < ((((z.n : Nat) : Int) - 1) : Int)))) (d := true) rfl (fun v w h => h), fun h w => optUndef h, fun zβ za zw zc => ?_⟩, ?_⟩
                · exact ld_3 rfl ((show za.eval (.tmp 68) = za.tmps.getD 68 undef from rfl).trans (optVal (zc.dep 12 68 (by kernel_rfl)) rfl zβ)) (bkeeps zc.below _ _ (hc111 ((z.n - 2)) (by first | omega | (have zz := zβ; simp only [Bool.and_eq_true, Bool.or_eq_true, Bool.true_and, Bool.not_eq_true', Bool.or_eq_false_iff, Bool.and_eq_false_iff, beq_eq_false_iff_ne, ne_eq, beq_iff_eq, decide_eq_true_eq, decide_eq_false_iff_not, bne_iff_ne] at zz; omega))).1) ⟨_, rfl, Below.refl _ _, optDef zβ rfl⟩
                refine ⟨⟨(true && (decide ((0 : Int) < ((((z.n : Nat) : Int) - 1) : Int)))), .yes (c := (decide ((0 : Int) < ((((z.n : Nat) : Int) - 1) : Int)))) (d := true) rfl (fun v w h => h), fun h w => optUndef h, fun zβ za zw zc => ?_⟩, ?_⟩
                · exact lss_3 rfl ((show za.eval (.tmp 63) = za.tmps.getD 63 undef from rfl).trans (optVal (zc.dep 7 63 (by kernel_rfl)) rfl zβ)) ((show za.eval (.tmp 69) = za.tmps.getD 69 undef from rfl).trans (optVal (zc.dep 13 69 (by kernel_rfl)) rfl zβ)) ⟨_, rfl, Below.refl _ _, optDef zβ rfl⟩
                refine ⟨⟨true, .none rfl, fun h w => optUndef h, fun zβ za zw zc => ?_⟩, ?_⟩
                · exact wp_and rfl ((show za.eval (.tmp 58) = za.tmps.getD 58 undef from rfl).trans (optVal (zc.dep 2 58 (by kernel_rfl)) rfl rfl)) (fun hp => ((show za.eval (.tmp 70) = za.tmps.getD 70 undef from rfl).trans (optVal (zc.dep 14 70 (by kernel_rfl)) rfl (bMk zβ hp)))) ⟨_, rfl, Below.refl _ _, optDef zβ rfl⟩
                exact trivial
              · intro za w112 zh hb113 zu
                have zh := zh.cons (d := 71) (v := .bool (((decide ((0 : Int) < ((((z.n : Nat) : Int) - 1) : Int))) && (decide (((dget z.L ((z.n - 1))).var : Int) < ((dget z.L ((z.n - 2))).var : Int)))))) (optVal (zu 15 71 (by kernel_rfl)) rfl rfl)
                clear zu
                refine (show WE _ [(0, .slice a cl.length c), (2, .slice none 0 0), (3, .slice none 0 0), (4, .slice x.2.1 ((clRn (cl.take x.1) []).2.length) x.2.2), (5, .int .i64 (((x.1 : Nat) : Int))), (6, .slice z.a z.n z.c), (7, .int .i64 (((z.i : Nat) : Int))), (8, .int .i64 ((((z.n : Nat) : Int) - 1))), (13, .bool ((decide ((((x.1 : Nat) : Int) : Int) < (((cl.length : Nat) : Int) : Int))))), (33, .bool ((decide ((((z.i : Nat) : Int) : Int) < ((((clRn (cl.take x.1) []).2.length : Nat) : Int) : Int))))), (41, .bool ((((List.getD ((clRn cl []).2) z.i 0) : Int) != (((z.i : Nat) : Int) : Int)))), (71, .bool (((decide ((0 : Int) < ((((z.n : Nat) : Int) - 1) : Int))) && (decide (((dget z.L ((z.n - 1))).var : Int) < ((dget z.L ((z.n - 2))).var : Int))))))] w112 _ .normal from ?_) za (zh.sub ⟨rfl, rfl, rfl, rfl, rfl, rfl, rfl, rfl, rfl, rfl, rfl, rfl, trivial⟩)
                refine WE.next ?_
                refine WC.cond rfl (fun h114 => ?_) (fun h114 => ?_)
                · have h114 : ((0 : Int) < ((((z.n : Nat) : Int) - 1) : Int)) ∧ (((dget z.L ((z.n - 1))).var : Int) < ((dget z.L ((z.n - 2))).var : Int)) := by simpa using h114
                  exfalso
                  have z1 := h114
                  have z2 := List.pairwise_iff_getElem.1 hso.sorted (z.n - 2) (z.n - 1) (by omega) (by omega) (by omega)
                  rw [dget_lt (by omega), dget_lt (by omega)] at z1
                  omega
                · have h114 : ¬ (((0 : Int) < ((((z.n : Nat) : Int) - 1) : Int)) ∧ (((dget z.L ((z.n - 1))).var : Int) < ((dget z.L ((z.n - 2))).var : Int))) := by simpa using h114
                  refine WC.exit ?_
                  refine WE.thenExit ?_
                  refine WE.thenExit ?_
                  refine WE.blockIs rfl ?_
                  refine WE.blockNormal ?_
                  refine WE.next ?_
                  refine WC.region ?_
                  refine WL.val (.int .i64 (((z.i : Nat) : Int))) rfl rfl rfl (fun za zC zh zk => wp_move rfl (zh.ev rfl) zk) ?_
                  refine WL.val (.int .i64 ((((z.i + 1) : Nat) : Int))) rfl rfl rfl (fun za zC zh zk => addb_3 rfl (zh.ev rfl) (zh.ev rfl) (wrap_eq (by omega) (by omega) (by omega)) zk) ?_
                  refine WL.val (.int .i64 ((((z.i + 1) : Nat) : Int))) rfl rfl rfl (fun za zC zh zk => wp_assign rfl (zh.ev rfl) zk) ?_
                  refine WL.nil (WE.sub (K' := [(0, .slice a cl.length c), (2, .slice none 0 0), (3, .slice none 0 0), (4, .slice x.2.1 ((clRn (cl.take x.1) []).2.length) x.2.2), (5, .int .i64 (((x.1 : Nat) : Int))), (6, .slice z.a z.n z.c), (7, .int .i64 ((((z.i + 1) : Nat) : Int))), (8, .int .i64 ((((z.n : Nat) : Int) - 1))), (13, .bool ((decide ((((x.1 : Nat) : Int) : Int) < (((cl.length : Nat) : Int) : Int))))), (33, .bool ((decide ((((z.i : Nat) : Int) : Int) < ((((clRn (cl.take x.1) []).2.length : Nat) : Int) : Int))))), (41, .bool ((((List.getD ((clRn cl []).2) z.i 0) : Int) != (((z.i : Nat) : Int) : Int)))), (71, .bool (((decide ((0 : Int) < ((((z.n : Nat) : Int) - 1) : Int))) && (decide (((dget z.L ((z.n - 1))).var : Int) < ((dget z.L ((z.n - 2))).var : Int))))))]) ⟨rfl, rfl, rfl, rfl, rfl, rfl, rfl, rfl, rfl, rfl, rfl, rfl, trivial⟩ ?_)
                  refine WE.round (⟨z.i + 1, z.a, z.c, z.n, z.L⟩) ⟨rfl, rfl, rfl, rfl, rfl, rfl, rfl, rfl, trivial⟩ ?_ ?_
                  · have hb115 : Below w.heap.size w w112 := (bstep hb103 hb113)
                    have hb116 : Below w1.heap.size w1 w112 := (bstep hb104 hb113)
                    have ho117 := ho105.below hb113
                    exact ⟨by (try dsimp only); omega, (Nat.le_trans hb104.size hb113.size), subOf_skip hso (by omega) (by rw [hX3, decide_eq_true_eq]; omega), hb115, hb116, ho117⟩
                  · (try dsimp only); omega
        · have h25 : ¬ ((((z.i : Nat) : Int) : Int) < ((((clRn (cl.take x.1) []).2.length : Nat) : Int) : Int)) := by simpa using h25
          refine WC.exit ?_
          refine WE.thenExit ?_
          refine WE.thenExit ?_
          refine WE.blockIs rfl ?_
          refine WE.next ?_
          refine WC.seq ?_
          refine WC.region ?_
          refine WL.val (.slice a cl.length c) rfl rfl rfl (fun za zC zh zk => wp_move rfl (zh.ev rfl) zk) ?_
          refine WL.val (.slice z.a z.n z.c) rfl rfl rfl (fun za zC zh zk => wp_move rfl (zh.ev rfl) zk) ?_
          rw [show z.i = (clRn cl []).2.length by omega] at hso
          have hRo := (ho24).inRow
          have hRS : IsSub w21 z.L z.a z.c := ⟨hRo.1.mono (by decide) (fun _ _ _ => trivial), by omega, hRo.2.2.2, by omega, fun b hb => by
            have z1 := ((hso.mem b).1 hb).1
            obtain ⟨i, hi, rfl⟩ := List.getElem_of_mem z1
            have hi2 : i < (clRn cl []).2.length := by simp at hi; omega
            rw [List.getElem_take, ← dget_lt (by omega), nmAll_dget hi2]; show 1 ≤ 4294967296; omega⟩
          refine WL.call rfl rfl rfl (fun za zh zC => wp_call (by kernel_rfl) rfl (hv2 (zh.ev rfl) (zh.ev rfl))) (renamedc_any z.L z.n hRo.2.1 cl _ _ _ _ _ hRS (hC.below hb22) hcl) ?_
          rintro _ w118 ⟨⟨oa9, oc9, rfl, hNC⟩, hb9⟩
          refine WL.val (.slice z.a z.n z.c) rfl rfl rfl (fun za zC zh zk => wp_move rfl (zh.ev rfl) zk) ?_
          refine WL.val (.slice oa9 cl.length oc9) rfl rfl rfl (fun za zC zh zk => wp_assign rfl (zh.ev rfl) zk) ?_
          refine WL.val (.slice z.a z.n z.c) rfl rfl rfl (fun za zC zh zk => wp_assign rfl (zh.ev rfl) zk) ?_
          refine WL.nil (WE.sub (K' := [(0, .slice a cl.length c), (2, .slice oa9 cl.length oc9), (3, .slice z.a z.n z.c), (4, .slice x.2.1 ((clRn (cl.take x.1) []).2.length) x.2.2), (5, .int .i64 (((x.1 : Nat) : Int))), (6, .slice z.a z.n z.c), (7, .int .i64 (((z.i : Nat) : Int))), (13, .bool ((decide ((((x.1 : Nat) : Int) : Int) < (((cl.length : Nat) : Int) : Int))))), (33, .bool ((decide ((((z.i : Nat) : Int) : Int) < ((((clRn (cl.take x.1) []).2.length : Nat) : Int) : Int)))))]) ⟨rfl, rfl, rfl, rfl, rfl, rfl, rfl, rfl, rfl, trivial⟩ ?_)
          refine WE.next ?_
          refine WC.ret ?_
          refine WE.ret2 rfl rfl rfl ?_
          have hp9 : z.L.Perm (nmB (clRn cl []).2 0) := by
            rw [nmB_all]
            have hs1 := hso
            rw [List.take_of_length_le (by omega)] at hs1
            have hs2 : ((nmAll (clRn cl []).2 0).filter fun x => !x.itself).Nodup := by
              have hv : ((nmAll (clRn cl []).2 0).map (·.var)).Nodup := by rw [hvar]; exact hnd
              unfold List.Nodup at hv ⊢
              rw [List.pairwise_map] at hv
              exact (hv.imp fun h e => h (by rw [e])).filter _
            refine (List.perm_ext_iff_of_nodup (hs1.sorted.imp fun h e => by rw [e] at h; omega) hs2).2 fun x => ?_
            rw [hs1.mem, List.mem_filter]; simp
          have hb119 : Below w.heap.size w w118 := (bstep hb22 hb9)
          have hcn := cl_nm hnd hp9 cl [] (List.prefix_refl _)
          rw [hcn] at hNC
          rw [hRo.2.1]
          exact ⟨_, rfl, ⟨_, _, _, _, z.L, rfl, hNC.isLs.below (Below.refl _ _), hRS.rows.below hb9, hso⟩, hb119⟩

end Go.Proofs.Ytgechlgdnnpoeaa

namespace Go.Proofs.Ytgechlgdnnpoeaa
open Go.RowKit Go
set_option linter.unusedVariables false
set_option linter.unusedSimpArgs false

set_option linter.unnecessarySimpa false

def LiSz (x : Li) : Prop := x.l.size ≤ 300 ∧ x.r.size ≤ 300
set_option maxRecDepth 100000 in
set_option maxHeartbeats 2000000 in
theorem normal_law (l : List Li) (w : World) (a : Option Addr) (c : Nat) (h : IsCl w l a c) : Calls Try.prog 6 #[.slice a l.length c] w (Ret fun v' w' => v' = .bool true ∧ Below w.heap.size w w') := by
  have hcap := h.cap
  have hclen := h.len
  unfold maxLen at hcap
  refine Calls.walk (l := [.slice a l.length c]) Try.func6 rfl (by kernel_rfl) ?_
  refine WC.sub (K' := [(0, .slice a l.length c)]) ⟨rfl, trivial⟩ ?_
  refine WC.seq ?_
  refine WC.region ?_
  refine WL.val (.bool false) rfl rfl rfl (fun za zC zh zk => wp_assign rfl (zh.ev rfl) zk) ?_
  refine WL.nil (WE.sub (K' := [(0, .slice a l.length c), (2, .bool false)]) ⟨rfl, rfl, trivial⟩ ?_)
  refine WE.next ?_
  refine WC.seq ?_
  refine WC.seq ?_
  refine WC.region ?_
  refine WL.val (.slice a l.length c) rfl rfl rfl (fun za zC zh zk => wp_move rfl (zh.ev rfl) zk) ?_
  refine WL.val (.int .i64 (((l.length : Nat) : Int))) rfl rfl rfl (fun za zC zh zk => len_42 rfl (zh.ev rfl) zk) ?_
  refine WL.val (.bool ((decide ((20 : Int) < (((l.length : Nat) : Int) : Int))))) rfl rfl rfl (fun za zC zh zk => gtr_3 rfl (zh.ev rfl) (zh.ev rfl) zk) ?_
  refine WL.nil (WE.sub (K' := [(0, .slice a l.length c), (2, .bool false), (10, .bool ((decide ((20 : Int) < (((l.length : Nat) : Int) : Int)))))]) ⟨rfl, rfl, rfl, trivial⟩ ?_)
  refine WE.next ?_
  refine WC.cond rfl (fun h1 => ?_) (fun h1 => ?_)
  · have h1 : (20 : Int) < (((l.length : Nat) : Int) : Int) := by simpa using h1
    refine WC.seq ?_
    refine WC.region ?_
    refine WL.call rfl rfl rfl (fun za zh zC => wp_call (by kernel_rfl) rfl (hv0)) (wakes_any _) ?_
    rintro _ w3 ⟨rfl, hq2⟩
    refine WL.val (.bool true) rfl rfl rfl (fun za zC zh zk => wp_assign rfl (zh.ev rfl) zk) ?_
    refine WL.nil (WE.sub (K' := [(0, .slice a l.length c), (2, .bool true), (10, .bool ((decide ((20 : Int) < (((l.length : Nat) : Int) : Int)))))]) ⟨rfl, rfl, rfl, trivial⟩ ?_)
    refine WE.next ?_
    refine WC.ret ?_
    refine WE.thenRet ?_
    refine WE.ret1 rfl rfl ?_
    exact ⟨_, rfl, rfl, hq2⟩
  · have h1 : ¬ ((20 : Int) < (((l.length : Nat) : Int) : Int)) := by simpa using h1
    refine WC.skip ?_
    refine WE.next ?_
    refine WC.seq ?_
    refine WC.seq ?_
    refine WC.region ?_
    refine WL.val (.slice a l.length c) rfl rfl rfl (fun za zC zh zk => wp_move rfl (zh.ev rfl) zk) ?_
    refine WL.val (.int .i64 (((l.length : Nat) : Int))) rfl rfl rfl (fun za zC zh zk => len_42 rfl (zh.ev rfl) zk) ?_
    refine WL.val (.int .i64 0) rfl rfl rfl (fun za zC zh zk => wp_move rfl (zh.ev rfl) zk) ?_
    refine WL.nil (WE.sub (K' := [(0, .slice a l.length c), (2, .bool false), (10, .bool ((decide ((20 : Int) < (((l.length : Nat) : Int) : Int))))), (13, .int .i64 (((l.length : Nat) : Int))), (14, .int .i64 0)]) ⟨rfl, rfl, rfl, rfl, rfl, trivial⟩ ?_)
    refine WE.next ?_
    refine WC.block ?_
    refine WC.loop (X := Nat) (fun k => l.length - k) (fun k => [(0, .slice a l.length c), (10, .bool ((decide ((20 : Int) < (((l.length : Nat) : Int) : Int))))), (13, .int .i64 (((l.length : Nat) : Int))), (14, .int .i64 (((k : Nat) : Int)))]) (fun k w4 => k ≤ l.length ∧ (∀ i, i < k → LiSz (lget l i)) ∧ Below w.heap.size w w4) 0 ⟨rfl, rfl, rfl, rfl, trivial⟩ ?_ ?_
    · exact ⟨Nat.zero_le _, fun i h => absurd h (Nat.not_lt_zero i), (Below.refl _ _)⟩
    · rintro k w4 ⟨hk, hE, hb5⟩
      refine WC.seq ?_
      refine WC.region ?_
      refine WL.val (.bool ((decide ((((k : Nat) : Int) : Int) < (((l.length : Nat) : Int) : Int))))) rfl rfl rfl (fun za zC zh zk => lss_3 rfl (zh.ev rfl) (zh.ev rfl) zk) ?_
      refine WL.nil (WE.sub (K' := [(0, .slice a l.length c), (10, .bool ((decide ((20 : Int) < (((l.length : Nat) : Int) : Int))))), (13, .int .i64 (((l.length : Nat) : Int))), (14, .int .i64 (((k : Nat) : Int))), (15, .bool ((decide ((((k : Nat) : Int) : Int) < (((l.length : Nat) : Int) : Int)))))]) ⟨rfl, rfl, rfl, rfl, rfl, trivial⟩ ?_)
      refine WE.next ?_
      refine WC.seq ?_
      refine WC.cond rfl (fun h6 => ?_) (fun h6 => ?_)
      · have h6 : (((k : Nat) : Int) : Int) < (((l.length : Nat) : Int) : Int) := by simpa using h6
        refine WC.skip ?_
        refine WE.next ?_
        refine WC.seq ?_
        refine WC.block ?_
        refine WC.seq ?_
        refine WC.region ?_
        refine WL.val (.int .i64 (((k : Nat) : Int))) rfl rfl rfl (fun za zC zh zk => wp_move rfl (zh.ev rfl) zk) ?_
        refine WL.val (.int .i64 (((k : Nat) : Int))) rfl rfl rfl (fun za zC zh zk => wp_assign rfl (zh.ev rfl) zk) ?_
        refine WL.nil (WE.sub (K' := [(0, .slice a l.length c), (3, .int .i64 (((k : Nat) : Int))), (10, .bool ((decide ((20 : Int) < (((l.length : Nat) : Int) : Int))))), (13, .int .i64 (((l.length : Nat) : Int))), (14, .int .i64 (((k : Nat) : Int))), (15, .bool ((decide ((((k : Nat) : Int) : Int) < (((l.length : Nat) : Int) : Int)))))]) ⟨rfl, rfl, rfl, rfl, rfl, rfl, trivial⟩ ?_)
        refine WE.next ?_
        refine WC.seq ?_
        obtain ⟨b7, o8, A9, C10, A11, C12, ha13, hc14⟩ := InRow.openL h.rows
        refine WC.opt [(true, .val (.slice a l.length c)), (true, .val (.int .i64 (((k : Nat) : Int)))), (true, .val (.pointer (some ⟨b7, o8 + k * 5, none⟩))), (true, .val (.pointer (some ⟨b7, o8 + k * 5 + 1, none⟩))), (true, .val (.agg #[.int .i64 ((lget l k).l.f), .slice ((A9 k)) ((lget l k).l.args.length) ((C10 k))])), (true, .val (.bool ((decide ((300 : Int) < ((lget l k).l.size : Int)))))), (true, .val (.bool ((decide ((300 : Int) < ((lget l k).l.size : Int)))))), ((true && !(decide ((300 : Int) < ((lget l k).l.size : Int)))), .val (.slice a l.length c)), ((true && !(decide ((300 : Int) < ((lget l k).l.size : Int)))), .val (.int .i64 (((k : Nat) : Int)))), ((true && !(decide ((300 : Int) < ((lget l k).l.size : Int)))), .val (.pointer (some ⟨b7, o8 + k * 5, none⟩))), ((true && !(decide ((300 : Int) < ((lget l k).l.size : Int)))), .val (.pointer (some ⟨b7, o8 + k * 5 + 3, none⟩))), ((true && !(decide ((300 : Int) < ((lget l k).l.size : Int)))), .val (.agg #[.int .i64 ((lget l k).r.f), .slice ((A11 k)) ((lget l k).r.args.length) ((C12 k))])), ((true && !(decide ((300 : Int) < ((lget l k).l.size : Int)))), .val (.bool ((decide ((300 : Int) < ((lget l k).r.size : Int)))))), (true, .val (.bool (((decide ((300 : Int) < ((lget l k).l.size : Int))) || (decide ((300 : Int) < ((lget l k).r.size : Int)))))))] [(0, .slice a l.length c), (3, .int .i64 (((k : Nat) : Int))), (10, .bool ((decide ((20 : Int) < (((l.length : Nat) : Int) : Int))))), (13, .int .i64 (((l.length : Nat) : Int))), (14, .int .i64 (((k : Nat) : Int))), (15, .bool ((decide ((((k : Nat) : Int) : Int) < (((l.length : Nat) : Int) : Int)))))] ⟨rfl, rfl, rfl, rfl, rfl, rfl, trivial⟩ (by kernel_rfl) (by kernel_rfl) (by kernel_rfl) ?_ ?_
        · refine ⟨⟨true, .none rfl, fun h w => optUndef h, fun zβ za zw zc => ?_⟩, ?_⟩
          · exact wp_move rfl (zc.kn.ev rfl) ⟨_, rfl, Below.refl _ _, optDef zβ rfl⟩
          refine ⟨⟨true, .none rfl, fun h w => optUndef h, fun zβ za zw zc => ?_⟩, ?_⟩
          · exact wp_move rfl (zc.kn.ev rfl) ⟨_, rfl, Below.refl _ _, optDef zβ rfl⟩
          refine ⟨⟨true, .none rfl, fun h w => optUndef h, fun zβ za zw zc => ?_⟩, ?_⟩
          · exact ix_42 (k := k) rfl ((show za.eval (.tmp 17) = za.tmps.getD 17 undef from rfl).trans (optVal (zc.dep 0 17 (by kernel_rfl)) rfl rfl)) (ha13 k (by first | omega | (simp; omega))) ((show za.eval (.tmp 18) = za.tmps.getD 18 undef from rfl).trans (optVal (zc.dep 1 18 (by kernel_rfl)) rfl rfl)) (by first | omega | (simp; omega)) ⟨_, rfl, Below.refl _ _, optDef zβ rfl⟩
          refine ⟨⟨true, .none rfl, fun h w => optUndef h, fun zβ za zw zc => ?_⟩, ?_⟩
          · exact fld_44_1 rfl ((show za.eval (.tmp 19) = za.tmps.getD 19 undef from rfl).trans (optVal (zc.dep 2 19 (by kernel_rfl)) rfl rfl)) ⟨_, rfl, Below.refl _ _, optDef zβ rfl⟩
          refine ⟨⟨true, .none rfl, fun h w => optUndef h, fun zβ za zw zc => ?_⟩, ?_⟩
          · exact ld_32 rfl ((show za.eval (.tmp 20) = za.tmps.getD 20 undef from rfl).trans (optVal (zc.dep 3 20 (by kernel_rfl)) rfl rfl)) (bkeeps (bstep hb5 zc.below) _ _ (hc14 k (by first | omega | (simp; omega))).2.1) (bkeeps (bstep hb5 zc.below) _ _ (hc14 k (by first | omega | (simp; omega))).2.2.1) ⟨_, rfl, Below.refl _ _, optDef zβ rfl⟩
          refine ⟨⟨true, .none rfl, fun h w => optUndef h, fun zβ za zw zc => ?_⟩, ?_⟩
          · exact wp_call (by kernel_rfl) rfl (hv2 ((show za.eval (.tmp 21) = za.tmps.getD 21 undef from rfl).trans (optVal (zc.dep 4 21 (by kernel_rfl)) rfl rfl)) (zc.kn.ev rfl)) (great_any (lget l k).l 300 _ _ (h.pl (by omega)) (IsT.below (bstep hb5 zc.below) (InT.isT (hc14 k (by first | omega | (simp; omega))).2.2.2.2.2.1))) (fun v w' h => ⟨v, rfl, h.2, optDef zβ h.1⟩)
          refine ⟨⟨true, .none rfl, fun h w => optUndef h, fun zβ za zw zc => ?_⟩, ?_⟩
          · exact wp_move rfl ((show za.eval (.tmp 22) = za.tmps.getD 22 undef from rfl).trans (optVal (zc.dep 5 22 (by kernel_rfl)) rfl rfl)) ⟨_, rfl, Below.refl _ _, optDef zβ rfl⟩
          refine ⟨⟨(true && !(decide ((300 : Int) < ((lget l k).l.size : Int)))), .no (c := (decide ((300 : Int) < ((lget l k).l.size : Int)))) (d := true) rfl (fun v w h => h), fun h w => optUndef h, fun zβ za zw zc => ?_⟩, ?_⟩
          · exact wp_move rfl (zc.kn.ev rfl) ⟨_, rfl, Below.refl _ _, optDef zβ rfl⟩
          refine ⟨⟨(true && !(decide ((300 : Int) < ((lget l k).l.size : Int)))), .no (c := (decide ((300 : Int) < ((lget l k).l.size : Int)))) (d := true) rfl (fun v w h => h), fun h w => optUndef h, fun zβ za zw zc => ?_⟩, ?_⟩
          · exact wp_move rfl (zc.kn.ev rfl) ⟨_, rfl, Below.refl _ _, optDef zβ rfl⟩
          refine ⟨⟨(true && !(decide ((300 : Int) < ((lget l k).l.size : Int)))), .no (c := (decide ((300 : Int) < ((lget l k).l.size : Int)))) (d := true) rfl (fun v w h => h), fun h w => optUndef h, fun zβ za zw zc => ?_⟩, ?_⟩
          · exact ix_42 (k := k) rfl ((show za.eval (.tmp 24) = za.tmps.getD 24 undef from rfl).trans (optVal (zc.dep 7 24 (by kernel_rfl)) rfl zβ)) (ha13 k (by first | omega | (have zz := zβ; simp only [Bool.and_eq_true, Bool.or_eq_true, Bool.true_and, Bool.not_eq_true', Bool.or_eq_false_iff, Bool.and_eq_false_iff, beq_eq_false_iff_ne, ne_eq, beq_iff_eq, decide_eq_true_eq, decide_eq_false_iff_not, bne_iff_ne] at zz; omega))) ((show za.eval (.tmp 25) = za.tmps.getD 25 undef from rfl).trans (optVal (zc.dep 8 25 (by kernel_rfl)) rfl zβ)) (by first | omega | (have zz := zβ; simp only [Bool.and_eq_true, Bool.or_eq_true, Bool.true_and, Bool.not_eq_true', Bool.or_eq_false_iff, Bool.and_eq_false_iff, beq_eq_false_iff_ne, ne_eq, beq_iff_eq, decide_eq_true_eq, decide_eq_false_iff_not, bne_iff_ne] at zz; omega)) ⟨_, rfl, Below.refl _ _, optDef zβ rfl⟩
          refine ⟨⟨(true && !(decide ((300 : Int) < ((lget l k).l.size : Int)))), .no (c := (decide ((300 : Int) < ((lget l k).l.size : Int)))) (d := true) rfl (fun v w h => h), fun h w => optUndef h, fun zβ za zw zc => ?_⟩, ?_⟩
          · exact fld_44_2 rfl ((show za.eval (.tmp 26) = za.tmps.getD 26 undef from rfl).trans (optVal (zc.dep 9 26 (by kernel_rfl)) rfl zβ)) ⟨_, rfl, Below.refl _ _, optDef zβ rfl⟩
          refine ⟨⟨(true && !(decide ((300 : Int) < ((lget l k).l.size : Int)))), .no (c := (decide ((300 : Int) < ((lget l k).l.size : Int)))) (d := true) rfl (fun v w h => h), fun h w => optUndef h, fun zβ za zw zc => ?_⟩, ?_⟩
          · exact ld_32 rfl ((show za.eval (.tmp 27) = za.tmps.getD 27 undef from rfl).trans (optVal (zc.dep 10 27 (by kernel_rfl)) rfl zβ)) (bkeeps (bstep hb5 zc.below) _ _ (hc14 k (by first | omega | (have zz := zβ; simp only [Bool.and_eq_true, Bool.or_eq_true, Bool.true_and, Bool.not_eq_true', Bool.or_eq_false_iff, Bool.and_eq_false_iff, beq_eq_false_iff_ne, ne_eq, beq_iff_eq, decide_eq_true_eq, decide_eq_false_iff_not, bne_iff_ne] at zz; omega))).2.2.2.1) (bkeeps (bstep hb5 zc.below) _ _ (hc14 k (by first | omega | (have zz := zβ; simp only [Bool.and_eq_true, Bool.or_eq_true, Bool.true_and, Bool.not_eq_true', Bool.or_eq_false_iff, Bool.and_eq_false_iff, beq_eq_false_iff_ne, ne_eq, beq_iff_eq, decide_eq_true_eq, decide_eq_false_iff_not, bne_iff_ne] at zz; omega))).2.2.2.2.1) ⟨_, rfl, Below.refl _ _, optDef zβ rfl⟩
          refine ⟨⟨(true && !(decide ((300 : Int) < ((lget l k).l.size : Int)))), .no (c := (decide ((300 : Int) < ((lget l k).l.size : Int)))) (d := true) rfl (fun v w h => h), fun h w => optUndef h, fun zβ za zw zc => ?_⟩, ?_⟩
          · exact wp_call (by kernel_rfl) rfl (hv2 ((show za.eval (.tmp 28) = za.tmps.getD 28 undef from rfl).trans (optVal (zc.dep 11 28 (by kernel_rfl)) rfl zβ)) (zc.kn.ev rfl)) (great_any (lget l k).r 300 _ _ (h.pr (by omega)) (IsT.below (bstep hb5 zc.below) (InT.isT (hc14 k (by first | omega | (have zz := zβ; simp only [Bool.and_eq_true, Bool.or_eq_true, Bool.true_and, Bool.not_eq_true', Bool.or_eq_false_iff, Bool.and_eq_false_iff, beq_eq_false_iff_ne, ne_eq, beq_iff_eq, decide_eq_true_eq, decide_eq_false_iff_not, bne_iff_ne] at zz; omega))).2.2.2.2.2.2))) (fun v w' h => ⟨v, rfl, h.2, optDef zβ h.1⟩)
          refine ⟨⟨true, .none rfl, fun h w => optUndef h, fun zβ za zw zc => ?_⟩, ?_⟩
          · exact wp_or rfl ((show za.eval (.tmp 23) = za.tmps.getD 23 undef from rfl).trans (optVal (zc.dep 6 23 (by kernel_rfl)) rfl rfl)) (fun hp => ((show za.eval (.tmp 29) = za.tmps.getD 29 undef from rfl).trans (optVal (zc.dep 12 29 (by kernel_rfl)) rfl (bMkN zβ hp)))) ⟨_, rfl, Below.refl _ _, optDef zβ rfl⟩
          exact trivial
        · intro za w15 zh hb16 zu
          have zh := zh.cons (d := 30) (v := .bool (((decide ((300 : Int) < ((lget l k).l.size : Int))) || (decide ((300 : Int) < ((lget l k).r.size : Int)))))) (optVal (zu 13 30 (by kernel_rfl)) rfl rfl)
          clear zu
          refine (show WE _ [(0, .slice a l.length c), (3, .int .i64 (((k : Nat) : Int))), (10, .bool ((decide ((20 : Int) < (((l.length : Nat) : Int) : Int))))), (13, .int .i64 (((l.length : Nat) : Int))), (14, .int .i64 (((k : Nat) : Int))), (15, .bool ((decide ((((k : Nat) : Int) : Int) < (((l.length : Nat) : Int) : Int))))), (30, .bool (((decide ((300 : Int) < ((lget l k).l.size : Int))) || (decide ((300 : Int) < ((lget l k).r.size : Int))))))] w15 _ .normal from ?_) za (zh.sub ⟨rfl, rfl, rfl, rfl, rfl, rfl, rfl, trivial⟩)
          refine WE.next ?_
          refine WC.cond rfl (fun h17 => ?_) (fun h17 => ?_)
          · have h17 : ((300 : Int) < ((lget l k).l.size : Int)) ∨ ((300 : Int) < ((lget l k).r.size : Int)) := by simpa using h17
            refine WC.seq ?_
            refine WC.region ?_
            refine WL.call rfl rfl rfl (fun za zh zC => wp_call (by kernel_rfl) rfl (hv0)) (wakes_any _) ?_
            rintro _ w19 ⟨rfl, hq18⟩
            refine WL.val (.bool true) rfl rfl rfl (fun za zC zh zk => wp_assign rfl (zh.ev rfl) zk) ?_
            refine WL.nil (WE.sub (K' := [(0, .slice a l.length c), (2, .bool true), (3, .int .i64 (((k : Nat) : Int))), (10, .bool ((decide ((20 : Int) < (((l.length : Nat) : Int) : Int))))), (13, .int .i64 (((l.length : Nat) : Int))), (14, .int .i64 (((k : Nat) : Int))), (15, .bool ((decide ((((k : Nat) : Int) : Int) < (((l.length : Nat) : Int) : Int))))), (30, .bool (((decide ((300 : Int) < ((lget l k).l.size : Int))) || (decide ((300 : Int) < ((lget l k).r.size : Int))))))]) ⟨rfl, rfl, rfl, rfl, rfl, rfl, rfl, rfl, trivial⟩ ?_)
            refine WE.next ?_
            refine WC.ret ?_
            refine WE.blockRet ?_
            refine WE.thenRet ?_
            refine WE.thenRet ?_
            refine WE.blockRet ?_
            refine WE.thenRet ?_
            refine WE.ret1 rfl rfl ?_
            have hb20 : Below w.heap.size w w19 := (bstep (bstep hb5 hb16) hq18)
            exact ⟨_, rfl, rfl, hb20⟩
          · have h17 : ¬ (((300 : Int) < ((lget l k).l.size : Int)) ∨ ((300 : Int) < ((lget l k).r.size : Int))) := by simpa using h17
            have hok9 : LiSz (lget l k) := by
              have z := h17
              simp at z
              exact ⟨by omega, by omega⟩
            refine WC.skip ?_
            refine WE.blockNormal ?_
            refine WE.next ?_
            refine WC.region ?_
            refine WL.val (.int .i64 ((((k + 1) : Nat) : Int))) rfl rfl rfl (fun za zC zh zk => addb_3 rfl (zh.ev rfl) (zh.ev rfl) (wrap_eq (by omega) (by omega) (by omega)) zk) ?_
            refine WL.val (.int .i64 ((((k + 1) : Nat) : Int))) rfl rfl rfl (fun za zC zh zk => wp_move rfl (zh.ev rfl) zk) ?_
            refine WL.nil (WE.sub (K' := [(0, .slice a l.length c), (3, .int .i64 (((k : Nat) : Int))), (10, .bool ((decide ((20 : Int) < (((l.length : Nat) : Int) : Int))))), (13, .int .i64 (((l.length : Nat) : Int))), (14, .int .i64 ((((k + 1) : Nat) : Int))), (15, .bool ((decide ((((k : Nat) : Int) : Int) < (((l.length : Nat) : Int) : Int))))), (30, .bool (((decide ((300 : Int) < ((lget l k).l.size : Int))) || (decide ((300 : Int) < ((lget l k).r.size : Int))))))]) ⟨rfl, rfl, rfl, rfl, rfl, rfl, rfl, trivial⟩ ?_)
            refine WE.round (k + 1) ⟨rfl, rfl, rfl, rfl, trivial⟩ ?_ ?_
            · have hb21 : Below w.heap.size w w15 := (bstep hb5 hb16)
              exact ⟨by omega, fun i hi => by rcases Nat.lt_or_ge i k with q | q; exact hE i q; (obtain rfl : i = k := by omega); exact hok9, hb21⟩
            · omega
      · have h6 : ¬ ((((k : Nat) : Int) : Int) < (((l.length : Nat) : Int) : Int)) := by simpa using h6
        refine WC.exit ?_
        refine WE.thenExit ?_
        refine WE.thenExit ?_
        refine WE.blockIs rfl ?_
        refine WE.next ?_
        refine WC.seq ?_
        refine WC.region ?_
        refine WL.val (.slice a l.length c) rfl rfl rfl (fun za zC zh zk => wp_move rfl (zh.ev rfl) zk) ?_
        have hsz : ∀ y ∈ l, y.l.size ≤ 300 ∧ y.r.size ≤ 300 := fun y hy => by
          obtain ⟨i, hi, rfl⟩ := List.getElem_of_mem hy
          have := hE i (by omega)
          rwa [lget_lt hi] at this
        have hb1 := clSz_bd l hsz
        have hl20 : l.length ≤ 20 := by omega
        have hm20 := Nat.mul_le_mul_right (2 * 300) hl20
        refine WL.call rfl rfl rfl (fun za zh zC => wp_call (by kernel_rfl) rfl (hv1 (zh.ev rfl))) (normal_cl l l.length rfl _ _ _ (h.below hb5) (by omega)) ?_
        rintro _ w22 ⟨⟨oa1, oc1, sa1, sc1, R1, rfl, hn1⟩, hbn1⟩
        refine WL.val (.tuple #[.slice oa1 l.length oc1, .slice sa1 R1.length sc1]) rfl rfl rfl (fun za zC zh zk => wp_move rfl (zh.ev rfl) zk) ?_
        refine WL.val (.slice oa1 l.length oc1) rfl rfl rfl (fun za zC zh zk => ext2_0 rfl (zh.ev rfl) zk) ?_
        refine WL.val (.slice sa1 R1.length sc1) rfl rfl rfl (fun za zC zh zk => ext2_1 rfl (zh.ev rfl) zk) ?_
        refine WL.val (.slice oa1 l.length oc1) rfl rfl rfl (fun za zC zh zk => wp_assign rfl (zh.ev rfl) zk) ?_
        refine WL.val (.slice sa1 R1.length sc1) rfl rfl rfl (fun za zC zh zk => wp_assign rfl (zh.ev rfl) zk) ?_
        refine WL.nil (WE.sub (K' := [(0, .slice a l.length c), (4, .slice oa1 l.length oc1), (5, .slice sa1 R1.length sc1), (10, .bool ((decide ((20 : Int) < (((l.length : Nat) : Int) : Int))))), (13, .int .i64 (((l.length : Nat) : Int))), (14, .int .i64 (((k : Nat) : Int))), (15, .bool ((decide ((((k : Nat) : Int) : Int) < (((l.length : Nat) : Int) : Int)))))]) ⟨rfl, rfl, rfl, rfl, rfl, rfl, rfl, trivial⟩ ?_)
        refine WE.next ?_
        refine WC.seq ?_
        refine WC.region ?_
        refine WL.val (.slice a l.length c) rfl rfl rfl (fun za zC zh zk => wp_move rfl (zh.ev rfl) zk) ?_
        have hb23 : Below w.heap.size w w22 := (bstep hb5 hbn1)
        refine WL.call rfl rfl rfl (fun za zh zC => wp_call (by kernel_rfl) rfl (hv1 (zh.ev rfl))) (rnormal_any l _ _ _ (h.below hb23) (by omega) (by omega)) ?_
        rintro _ w24 ⟨⟨oa2, oc2, sa2, sc2, R2, rfl, hn2, hs2, ho2⟩, hbn2⟩
        refine WL.val (.tuple #[.slice oa2 l.length oc2, .slice sa2 R2.length sc2]) rfl rfl rfl (fun za zC zh zk => wp_move rfl (zh.ev rfl) zk) ?_
        refine WL.val (.slice oa2 l.length oc2) rfl rfl rfl (fun za zC zh zk => ext2_0 rfl (zh.ev rfl) zk) ?_
        refine WL.val (.slice sa2 R2.length sc2) rfl rfl rfl (fun za zC zh zk => ext2_1 rfl (zh.ev rfl) zk) ?_
        refine WL.val (.slice oa2 l.length oc2) rfl rfl rfl (fun za zC zh zk => wp_assign rfl (zh.ev rfl) zk) ?_
        refine WL.val (.slice sa2 R2.length sc2) rfl rfl rfl (fun za zC zh zk => wp_assign rfl (zh.ev rfl) zk) ?_
        refine WL.nil (WE.sub (K' := [(0, .slice a l.length c), (4, .slice oa1 l.length oc1), (5, .slice sa1 R1.length sc1), (6, .slice oa2 l.length oc2), (7, .slice sa2 R2.length sc2), (10, .bool ((decide ((20 : Int) < (((l.length : Nat) : Int) : Int))))), (13, .int .i64 (((l.length : Nat) : Int))), (14, .int .i64 (((k : Nat) : Int))), (15, .bool ((decide ((((k : Nat) : Int) : Int) < (((l.length : Nat) : Int) : Int)))))]) ⟨rfl, rfl, rfl, rfl, rfl, rfl, rfl, rfl, rfl, trivial⟩ ?_)
        refine WE.next ?_
        refine WC.seq ?_
        refine WC.opt [(true, .val (.slice oa1 l.length oc1)), (true, .val (.slice oa2 l.length oc2)), (true, .val (.bool ((clSame (clRn l []).1 (clRn l []).1)))), (true, .val (.bool ((clSame (clRn l []).1 (clRn l []).1)))), ((true && (clSame (clRn l []).1 (clRn l []).1)), .val (.slice sa1 R1.length sc1)), ((true && (clSame (clRn l []).1 (clRn l []).1)), .val (.slice sa2 R2.length sc2)), ((true && (clSame (clRn l []).1 (clRn l []).1)), .val (.bool ((subSame R1 R2)))), (true, .val (.bool (((clSame (clRn l []).1 (clRn l []).1) && (subSame R1 R2))))), (true, .val (.bool (((clSame (clRn l []).1 (clRn l []).1) && (subSame R1 R2))))), ((true && ((clSame (clRn l []).1 (clRn l []).1) && (subSame R1 R2))), .val (.bool true)), (true, .val (.bool ((((clSame (clRn l []).1 (clRn l []).1) && (subSame R1 R2)) && true)))), (true, .val (.bool ((((clSame (clRn l []).1 (clRn l []).1) && (subSame R1 R2)) && true))))] [(0, .slice a l.length c), (4, .slice oa1 l.length oc1), (5, .slice sa1 R1.length sc1), (6, .slice oa2 l.length oc2), (7, .slice sa2 R2.length sc2), (10, .bool ((decide ((20 : Int) < (((l.length : Nat) : Int) : Int))))), (13, .int .i64 (((l.length : Nat) : Int))), (14, .int .i64 (((k : Nat) : Int))), (15, .bool ((decide ((((k : Nat) : Int) : Int) < (((l.length : Nat) : Int) : Int)))))] ⟨rfl, rfl, rfl, rfl, rfl, rfl, rfl, rfl, rfl, trivial⟩ (by kernel_rfl) (by kernel_rfl) (by kernel_rfl) ?_ ?_
        · refine ⟨⟨true, .none rfl, fun h w => optUndef h, fun zβ za zw zc => ?_⟩, ?_⟩
          · exact wp_move rfl (zc.kn.ev rfl) ⟨_, rfl, Below.refl _ _, optDef zβ rfl⟩
          refine ⟨⟨true, .none rfl, fun h w => optUndef h, fun zβ za zw zc => ?_⟩, ?_⟩
          · exact wp_move rfl (zc.kn.ev rfl) ⟨_, rfl, Below.refl _ _, optDef zβ rfl⟩
          refine ⟨⟨true, .none rfl, fun h w => optUndef h, fun zβ za zw zc => ?_⟩, ?_⟩
          · exact wp_call (by kernel_rfl) rfl (hv2 ((show za.eval (.tmp 43) = za.tmps.getD 43 undef from rfl).trans (optVal (zc.dep 0 43 (by kernel_rfl)) rfl rfl)) ((show za.eval (.tmp 44) = za.tmps.getD 44 undef from rfl).trans (optVal (zc.dep 1 44 (by kernel_rfl)) rfl rfl))) (same_new (by rw [clRn_len]; unfold maxLen; omega) (clV_mk (by rw [clRn_len]) (hn1.out.below (bstep hbn2 zc.below)).rows) (clV_mk (by rw [clRn_len]) (hn2.below zc.below))) (fun v w' h => ⟨v, rfl, h.2, optDef zβ h.1⟩)
          refine ⟨⟨true, .none rfl, fun h w => optUndef h, fun zβ za zw zc => ?_⟩, ?_⟩
          · exact wp_move rfl ((show za.eval (.tmp 45) = za.tmps.getD 45 undef from rfl).trans (optVal (zc.dep 2 45 (by kernel_rfl)) rfl rfl)) ⟨_, rfl, Below.refl _ _, optDef zβ rfl⟩
          refine ⟨⟨(true && (clSame (clRn l []).1 (clRn l []).1)), .yes (c := (clSame (clRn l []).1 (clRn l []).1)) (d := true) rfl (fun v w h => h), fun h w => optUndef h, fun zβ za zw zc => ?_⟩, ?_⟩
          · exact wp_move rfl (zc.kn.ev rfl) ⟨_, rfl, Below.refl _ _, optDef zβ rfl⟩
          refine ⟨⟨(true && (clSame (clRn l []).1 (clRn l []).1)), .yes (c := (clSame (clRn l []).1 (clRn l []).1)) (d := true) rfl (fun v w h => h), fun h w => optUndef h, fun zβ za zw zc => ?_⟩, ?_⟩
          · exact wp_move rfl (zc.kn.ev rfl) ⟨_, rfl, Below.refl _ _, optDef zβ rfl⟩
          refine ⟨⟨(true && (clSame (clRn l []).1 (clRn l []).1)), .yes (c := (clSame (clRn l []).1 (clRn l []).1)) (d := true) rfl (fun v w h => h), fun h w => optUndef h, fun zβ za zw zc => ?_⟩, ?_⟩
          · exact wp_call (by kernel_rfl) rfl (hv2 ((show za.eval (.tmp 47) = za.tmps.getD 47 undef from rfl).trans (optVal (zc.dep 4 47 (by kernel_rfl)) rfl zβ)) ((show za.eval (.tmp 48) = za.tmps.getD 48 undef from rfl).trans (optVal (zc.dep 5 48 (by kernel_rfl)) rfl zβ))) (rsubSame_any R1 R2 _ _ _ _ _ (Nat.le_trans hn1.sub.len hn1.sub.cap) (hn1.sub.below (bstep hbn2 zc.below)).rows (hs2.below zc.below)) (fun v w' h => ⟨v, rfl, h.2, optDef zβ h.1⟩)
          refine ⟨⟨true, .none rfl, fun h w => optUndef h, fun zβ za zw zc => ?_⟩, ?_⟩
          · exact wp_and rfl ((show za.eval (.tmp 46) = za.tmps.getD 46 undef from rfl).trans (optVal (zc.dep 3 46 (by kernel_rfl)) rfl rfl)) (fun hp => ((show za.eval (.tmp 49) = za.tmps.getD 49 undef from rfl).trans (optVal (zc.dep 6 49 (by kernel_rfl)) rfl (bMk zβ hp)))) ⟨_, rfl, Below.refl _ _, optDef zβ rfl⟩
          refine ⟨⟨true, .none rfl, fun h w => optUndef h, fun zβ za zw zc => ?_⟩, ?_⟩
          · exact wp_move rfl ((show za.eval (.tmp 50) = za.tmps.getD 50 undef from rfl).trans (optVal (zc.dep 7 50 (by kernel_rfl)) rfl rfl)) ⟨_, rfl, Below.refl _ _, optDef zβ rfl⟩
          refine ⟨⟨(true && ((clSame (clRn l []).1 (clRn l []).1) && (subSame R1 R2))), .yes (c := ((clSame (clRn l []).1 (clRn l []).1) && (subSame R1 R2))) (d := true) rfl (fun v w h => h), fun h w => optUndef h, fun zβ za zw zc => ?_⟩, ?_⟩
          · exact wp_call (by kernel_rfl) rfl (hv0) (wakes_any _) (fun v w' h => ⟨v, rfl, h.2, optDef zβ h.1⟩)
          refine ⟨⟨true, .none rfl, fun h w => optUndef h, fun zβ za zw zc => ?_⟩, ?_⟩
          · exact wp_and rfl ((show za.eval (.tmp 51) = za.tmps.getD 51 undef from rfl).trans (optVal (zc.dep 8 51 (by kernel_rfl)) rfl rfl)) (fun hp => ((show za.eval (.tmp 52) = za.tmps.getD 52 undef from rfl).trans (optVal (zc.dep 9 52 (by kernel_rfl)) rfl (bMk zβ hp)))) ⟨_, rfl, Below.refl _ _, optDef zβ rfl⟩
          refine ⟨⟨true, .none rfl, fun h w => optUndef h, fun zβ za zw zc => ?_⟩, ?_⟩
          · exact wp_assign rfl ((show za.eval (.tmp 53) = za.tmps.getD 53 undef from rfl).trans (optVal (zc.dep 10 53 (by kernel_rfl)) rfl rfl)) ⟨_, rfl, Below.refl _ _, optDef zβ rfl⟩
          exact trivial
        · intro za w25 zh hb26 zu
          have zh := zh.cons (d := 2) (v := .bool ((((clSame (clRn l []).1 (clRn l []).1) && (subSame R1 R2)) && true))) (optVal (zu 11 2 (by kernel_rfl)) rfl rfl)
          clear zu
          refine (show WE _ [(0, .slice a l.length c), (2, .bool ((((clSame (clRn l []).1 (clRn l []).1) && (subSame R1 R2)) && true))), (4, .slice oa1 l.length oc1), (5, .slice sa1 R1.length sc1), (6, .slice oa2 l.length oc2), (7, .slice sa2 R2.length sc2), (10, .bool ((decide ((20 : Int) < (((l.length : Nat) : Int) : Int))))), (13, .int .i64 (((l.length : Nat) : Int))), (14, .int .i64 (((k : Nat) : Int))), (15, .bool ((decide ((((k : Nat) : Int) : Int) < (((l.length : Nat) : Int) : Int)))))] w25 _ .normal from ?_) za (zh.sub ⟨rfl, rfl, rfl, rfl, rfl, rfl, rfl, rfl, rfl, rfl, trivial⟩)
          refine WE.next ?_
          refine WC.ret ?_
          refine WE.ret1 rfl rfl ?_
          have hb27 : Below w.heap.size w w25 := (bstep (bstep hb23 hbn2) hb26)
          have q1 : R1 = R2 := norm_eq (clRn_nd l [] List.nodup_nil) hn1.perm hn1.sorted ho2
          exact ⟨_, rfl, congrArg Value.bool (by rw [q1]; simp [clSame, subSame]), hb27⟩

end Go.Proofs.Ytgechlgdnnpoeaa
