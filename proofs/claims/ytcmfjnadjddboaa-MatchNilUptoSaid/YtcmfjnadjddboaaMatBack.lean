/- The matcher: made, marked, taken back. -/
import Derived.Test.YtcmfjnadjddboaaMat
import Derived.Test.YtcmfjnadjddboaaMatPlain
import Derived.Test.YtcmfjnadjddboaaRng
namespace Go.Proofs.Ytcmfjnadjddboaa
open Go.RowKit Go

set_option maxRecDepth 100000 in
theorem new_any (w : World) : Calls Try.prog 14 #[] w (Ret fun v' w' => (∃ g C, v' = .pointer (some ⟨g, 0, none⟩) ∧ MatAt w' g [] C ∧ ∀ b, C b → w.heap.size ≤ b) ∧ Below w.heap.size w w') := by
  refine Calls.walk (l := []) Try.func14 rfl (by kernel_rfl) ?_
  refine WC.sub (K' := []) trivial ?_
  refine WC.seq ?_
  refine WC.region ?_
  refine WL.val (.pointer none) rfl rfl rfl (fun za zC zh zk => wp_assign rfl (zh.ev rfl) zk) ?_
  refine WL.nil (WE.sub (K' := [(0, .pointer none)]) ⟨rfl, trivial⟩ ?_)
  refine WE.next ?_
  refine WC.seq ?_
  refine WC.region ?_
  refine WL.step (post := NewMap w) rfl rfl rfl (fun za zC zh zk => wp_makeMap_im rfl zk) ?_
  rintro _ w1 ⟨g2, rfl, hg3, hM4, hb5, hz6⟩
  have hl7 : w.heap.size ≤ g2 := by omega
  refine WL.val (.agg #[.map ((some g2)), .slice none 0 0]) rfl rfl rfl (fun za zC zh zk => build_64_0 rfl (zh.ev rfl) zk) ?_
  refine WL.step (post := NewBlk w1 64 #[.map ((some g2)), .slice none 0 0]) rfl rfl rfl (fun za zC zh zk => box_64 rfl (zh.ev rfl) (zk _ _ (newBlk _ _ _))) ?_
  rintro _ w8 ⟨g9, rfl, hg10, hB11, hb12, hz13⟩
  have hl14 : g2 < g9 := by have z1 := hM4.lt; omega
  have hl15 : w.heap.size ≤ g9 := by have z2 := (hb5).size; omega
  refine WL.val (.pointer (some ⟨g9, 0, none⟩)) rfl rfl rfl (fun za zC zh zk => wp_assign rfl (zh.ev rfl) zk) ?_
  refine WL.nil (WE.sub (K' := [(0, .pointer (some ⟨g9, 0, none⟩))]) ⟨rfl, trivial⟩ ?_)
  refine WE.next ?_
  refine WC.ret ?_
  refine WE.ret1 rfl rfl ?_
  have hb16 : Below w.heap.size w w8 := (bstep hb5 hb12)
  have ho17 := hM4.below hb12
  have hgz := (hb16).size
  exact ⟨_, rfl, ⟨g9, fun b => b = g9 ∨ b = g2, rfl, ⟨g2, #[], 0, none, 0, [], hB11, ho17, ImE.nil, List.Pairwise.nil, RowE.nil, rfl, fun i hi => absurd hi (Nat.not_lt_zero i), fun x hx => (nomatch hx), fun x hx => (nomatch hx), .inl rfl, .inr rfl, fun b q => (nomatch q), fun b q => by rcases q with rfl | rfl; exact hB11.lt; exact (ho17).lt⟩, fun b q => by rcases q with rfl | rfl <;> omega⟩, hb16⟩

set_option maxRecDepth 100000 in
theorem mark_any {g : Nat} {st : List Bd} {C : Nat → Prop} (w : World) (h : MatAt w g st C) : Calls Try.prog 21 #[.pointer (some ⟨g, 0, none⟩)] w (Ret fun v' w' => v' = .int .i64 (st.length : Nat) ∧ Below w.heap.size w w') := by
  obtain ⟨mb, es, cl, a, c, ps, hM⟩ := h
  refine Calls.walk (l := [.pointer (some ⟨g, 0, none⟩)]) Try.func21 rfl (by kernel_rfl) ?_
  refine WC.sub (K' := [(0, .pointer (some ⟨g, 0, none⟩))]) ⟨rfl, trivial⟩ ?_
  refine WC.seq ?_
  refine WC.region ?_
  refine WL.val (.int .i64 0) rfl rfl rfl (fun za zC zh zk => wp_assign rfl (zh.ev rfl) zk) ?_
  refine WL.nil (WE.sub (K' := [(0, .pointer (some ⟨g, 0, none⟩)), (2, .int .i64 0)]) ⟨rfl, rfl, trivial⟩ ?_)
  refine WE.next ?_
  refine WC.seq ?_
  refine WC.seq ?_
  refine WC.region ?_
  refine WL.val (.pointer (some ⟨g, 0, none⟩)) rfl rfl rfl (fun za zC zh zk => wp_move rfl (zh.ev rfl) zk) ?_
  refine WL.val (.bool false) rfl rfl rfl (fun za zC zh zk => eqlp_33 rfl (zh.ev rfl) (zh.ev rfl) zk) ?_
  refine WL.nil (WE.sub (K' := [(0, .pointer (some ⟨g, 0, none⟩)), (2, .int .i64 0), (4, .bool false)]) ⟨rfl, rfl, rfl, trivial⟩ ?_)
  refine WE.next ?_
  refine WC.condF rfl rfl ?_
  refine WC.skip ?_
  refine WE.next ?_
  refine WC.seq ?_
  refine WC.region ?_
  refine WL.val (.pointer (some ⟨g, 0, none⟩)) rfl rfl rfl (fun za zC zh zk => wp_move rfl (zh.ev rfl) zk) ?_
  refine WL.val (.pointer (some ⟨g, 0, none⟩)) rfl rfl rfl (fun za zC zh zk => nilCheck_ rfl (zh.ev rfl) zk) ?_
  refine WL.val (.pointer (some ⟨g, 1, none⟩)) rfl rfl rfl (fun za zC zh zk => fld_64_1 rfl (zh.ev rfl) zk) ?_
  refine WL.val (.slice a st.length c) rfl rfl rfl (fun za zC zh zk => ld_59 rfl (zh.ev rfl) ((hM.blk.cell 1).trans rfl) zk) ?_
  refine WL.val (.int .i64 (((st.length : Nat) : Int))) rfl rfl rfl (fun za zC zh zk => len_59 rfl (zh.ev rfl) zk) ?_
  refine WL.val (.int .i64 (((st.length : Nat) : Int))) rfl rfl rfl (fun za zC zh zk => wp_assign rfl (zh.ev rfl) zk) ?_
  refine WL.nil (WE.sub (K' := [(0, .pointer (some ⟨g, 0, none⟩)), (2, .int .i64 (((st.length : Nat) : Int))), (4, .bool false)]) ⟨rfl, rfl, rfl, trivial⟩ ?_)
  refine WE.next ?_
  refine WC.ret ?_
  refine WE.ret1 rfl rfl ?_
  exact ⟨_, rfl, rfl, (Below.refl _ _)⟩

set_option maxRecDepth 100000 in
theorem markNil (w : World) : Calls Try.prog 21 #[.pointer none] w (Ret fun v' w' => v' = .int .i64 0 ∧ Below w.heap.size w w') := by
  refine Calls.walk (l := [.pointer none]) Try.func21 rfl (by kernel_rfl) ?_
  refine WC.sub (K' := [(0, .pointer none)]) ⟨rfl, trivial⟩ ?_
  refine WC.seq ?_
  refine WC.region ?_
  refine WL.val (.int .i64 0) rfl rfl rfl (fun za zC zh zk => wp_assign rfl (zh.ev rfl) zk) ?_
  refine WL.nil (WE.sub (K' := [(0, .pointer none), (2, .int .i64 0)]) ⟨rfl, rfl, trivial⟩ ?_)
  refine WE.next ?_
  refine WC.seq ?_
  refine WC.seq ?_
  refine WC.region ?_
  refine WL.val (.pointer none) rfl rfl rfl (fun za zC zh zk => wp_move rfl (zh.ev rfl) zk) ?_
  refine WL.val (.bool true) rfl rfl rfl (fun za zC zh zk => eqln_33 rfl (zh.ev rfl) (zh.ev rfl) zk) ?_
  refine WL.nil (WE.sub (K' := [(0, .pointer none), (2, .int .i64 0), (4, .bool true)]) ⟨rfl, rfl, rfl, trivial⟩ ?_)
  refine WE.next ?_
  refine WC.condT rfl rfl ?_
  refine WC.seq ?_
  refine WC.region ?_
  refine WL.val (.int .i64 0) rfl rfl rfl (fun za zC zh zk => wp_assign rfl (zh.ev rfl) zk) ?_
  refine WL.nil (WE.sub (K' := [(0, .pointer none), (2, .int .i64 0), (4, .bool true)]) ⟨rfl, rfl, rfl, trivial⟩ ?_)
  refine WE.next ?_
  refine WC.ret ?_
  refine WE.thenRet ?_
  refine WE.ret1 rfl rfl ?_
  exact ⟨_, rfl, rfl, (Below.refl _ _)⟩

def backTo (st : List Bd) (m : Int) : List Bd := if 0 ≤ m ∧ m ≤ st.length then st.take m.toNat else st
theorem backTo_nat {st : List Bd} {m : Nat} (h : m ≤ st.length) : backTo st (m : Int) = st.take m := by unfold backTo; rw [if_pos ⟨by omega, by omega⟩]; simp
set_option maxRecDepth 100000 in
theorem back_any {g : Nat} {st : List Bd} {C : Nat → Prop} (m : Int) (w : World) (h : MatAt w g st C) : Calls Try.prog 19 #[.pointer (some ⟨g, 0, none⟩), .int .i64 m] w (Ret fun v' w' => MatAt w' g (backTo st m) C ∧ Chg C w w') := by
  have h0 := h
  obtain ⟨mb, es, cl, a, c, ps, hM⟩ := h
  have hgm := hM.gmb
  have hgl := hM.blk.lt
  have hml := hM.map.lt
  obtain ⟨hcap1, hcap2⟩ := hM.cap
  have hkey : ((st.map (·.var)).zip ps).map (·.1) = st.map (·.var) := List.map_fst_zip (by rw [hM.len]; simp)
  have hZn : (((st.map (·.var)).zip ps).map (·.1)).Nodup := by rw [hkey]; exact hM.nd
  unfold maxLen at hcap2
  have hZl : ((st.map (·.var)).zip ps).length = st.length := by simp [hM.len]
  refine Calls.walk (l := [.pointer (some ⟨g, 0, none⟩), .int .i64 m]) Try.func19 rfl (by kernel_rfl) ?_
  refine WC.sub (K' := [(0, .pointer (some ⟨g, 0, none⟩)), (1, .int .i64 m)]) ⟨rfl, rfl, trivial⟩ ?_
  refine WC.seq ?_
  refine WC.seq ?_
  refine WC.opt [(true, .val (.pointer (some ⟨g, 0, none⟩))), (true, .val (.bool false)), (true, .val (.bool false)), ((true && !false), .val (.int .i64 m)), ((true && !false), .val (.bool ((decide ((m : Int) < (0 : Int)))))), (true, .val (.bool ((decide ((m : Int) < (0 : Int)))))), (true, .val (.bool ((decide ((m : Int) < (0 : Int)))))), ((true && !(decide ((m : Int) < (0 : Int)))), .val (.int .i64 m)), ((true && !(decide ((m : Int) < (0 : Int)))), .val (.pointer (some ⟨g, 0, none⟩))), ((true && !(decide ((m : Int) < (0 : Int)))), .val (.pointer (some ⟨g, 0, none⟩))), ((true && !(decide ((m : Int) < (0 : Int)))), .val (.pointer (some ⟨g, 1, none⟩))), ((true && !(decide ((m : Int) < (0 : Int)))), .val (.slice a st.length c)), ((true && !(decide ((m : Int) < (0 : Int)))), .val (.int .i64 (((st.length : Nat) : Int)))), ((true && !(decide ((m : Int) < (0 : Int)))), .val (.bool ((decide ((((st.length : Nat) : Int) : Int) < (m : Int)))))), (true, .val (.bool (((decide ((m : Int) < (0 : Int))) || (decide ((((st.length : Nat) : Int) : Int) < (m : Int)))))))] [(0, .pointer (some ⟨g, 0, none⟩)), (1, .int .i64 m)] ⟨rfl, rfl, trivial⟩ (by kernel_rfl) (by kernel_rfl) (by kernel_rfl) ?_ ?_
  · refine ⟨⟨true, .none rfl, fun h w => optUndef h, fun zβ za zw zc => ?_⟩, ?_⟩
    · exact wp_move rfl (zc.kn.ev rfl) ⟨_, rfl, Below.refl _ _, optDef zβ rfl⟩
    refine ⟨⟨true, .none rfl, fun h w => optUndef h, fun zβ za zw zc => ?_⟩, ?_⟩
    · exact eqlp_33 rfl ((show za.eval (.tmp 6) = za.tmps.getD 6 undef from rfl).trans (optVal (zc.dep 0 6 (by kernel_rfl)) rfl rfl)) (zc.kn.ev rfl) ⟨_, rfl, Below.refl _ _, optDef zβ rfl⟩
    refine ⟨⟨true, .none rfl, fun h w => optUndef h, fun zβ za zw zc => ?_⟩, ?_⟩
    · exact wp_move rfl ((show za.eval (.tmp 7) = za.tmps.getD 7 undef from rfl).trans (optVal (zc.dep 1 7 (by kernel_rfl)) rfl rfl)) ⟨_, rfl, Below.refl _ _, optDef zβ rfl⟩
    refine ⟨⟨(true && !false), .no (c := false) (d := true) rfl (fun v w h => h), fun h w => optUndef h, fun zβ za zw zc => ?_⟩, ?_⟩
    · exact wp_move rfl (zc.kn.ev rfl) ⟨_, rfl, Below.refl _ _, optDef zβ rfl⟩
    refine ⟨⟨(true && !false), .no (c := false) (d := true) rfl (fun v w h => h), fun h w => optUndef h, fun zβ za zw zc => ?_⟩, ?_⟩
    · exact lss_3 rfl ((show za.eval (.tmp 9) = za.tmps.getD 9 undef from rfl).trans (optVal (zc.dep 3 9 (by kernel_rfl)) rfl rfl)) (zc.kn.ev rfl) ⟨_, rfl, Below.refl _ _, optDef zβ rfl⟩
    refine ⟨⟨true, .none rfl, fun h w => optUndef h, fun zβ za zw zc => ?_⟩, ?_⟩
    · exact wp_pickF rfl ((show za.eval (.tmp 8) = za.tmps.getD 8 undef from rfl).trans (optVal (zc.dep 2 8 (by kernel_rfl)) rfl rfl)) ((show za.eval (.tmp 10) = za.tmps.getD 10 undef from rfl).trans (optVal (zc.dep 4 10 (by kernel_rfl)) rfl rfl)) ⟨_, rfl, Below.refl _ _, optDef zβ rfl⟩
    refine ⟨⟨true, .none rfl, fun h w => optUndef h, fun zβ za zw zc => ?_⟩, ?_⟩
    · exact wp_move rfl ((show za.eval (.tmp 11) = za.tmps.getD 11 undef from rfl).trans (optVal (zc.dep 5 11 (by kernel_rfl)) rfl rfl)) ⟨_, rfl, Below.refl _ _, optDef zβ rfl⟩
    refine ⟨⟨(true && !(decide ((m : Int) < (0 : Int)))), .no (c := (decide ((m : Int) < (0 : Int)))) (d := true) rfl (fun v w h => h), fun h w => optUndef h, fun zβ za zw zc => ?_⟩, ?_⟩
    · exact wp_move rfl (zc.kn.ev rfl) ⟨_, rfl, Below.refl _ _, optDef zβ rfl⟩
    refine ⟨⟨(true && !(decide ((m : Int) < (0 : Int)))), .no (c := (decide ((m : Int) < (0 : Int)))) (d := true) rfl (fun v w h => h), fun h w => optUndef h, fun zβ za zw zc => ?_⟩, ?_⟩
    · exact wp_move rfl (zc.kn.ev rfl) ⟨_, rfl, Below.refl _ _, optDef zβ rfl⟩
    refine ⟨⟨(true && !(decide ((m : Int) < (0 : Int)))), .no (c := (decide ((m : Int) < (0 : Int)))) (d := true) rfl (fun v w h => h), fun h w => optUndef h, fun zβ za zw zc => ?_⟩, ?_⟩
    · exact nilCheck_ rfl ((show za.eval (.tmp 14) = za.tmps.getD 14 undef from rfl).trans (optVal (zc.dep 8 14 (by kernel_rfl)) rfl zβ)) ⟨_, rfl, Below.refl _ _, optDef zβ rfl⟩
    refine ⟨⟨(true && !(decide ((m : Int) < (0 : Int)))), .no (c := (decide ((m : Int) < (0 : Int)))) (d := true) rfl (fun v w h => h), fun h w => optUndef h, fun zβ za zw zc => ?_⟩, ?_⟩
    · exact fld_64_1 rfl ((show za.eval (.tmp 15) = za.tmps.getD 15 undef from rfl).trans (optVal (zc.dep 9 15 (by kernel_rfl)) rfl zβ)) ⟨_, rfl, Below.refl _ _, optDef zβ rfl⟩
    refine ⟨⟨(true && !(decide ((m : Int) < (0 : Int)))), .no (c := (decide ((m : Int) < (0 : Int)))) (d := true) rfl (fun v w h => h), fun h w => optUndef h, fun zβ za zw zc => ?_⟩, ?_⟩
    · exact ld_59 rfl ((show za.eval (.tmp 16) = za.tmps.getD 16 undef from rfl).trans (optVal (zc.dep 10 16 (by kernel_rfl)) rfl zβ)) (bkeeps zc.below _ _ ((hM.blk.cell 1).trans rfl)) ⟨_, rfl, Below.refl _ _, optDef zβ rfl⟩
    refine ⟨⟨(true && !(decide ((m : Int) < (0 : Int)))), .no (c := (decide ((m : Int) < (0 : Int)))) (d := true) rfl (fun v w h => h), fun h w => optUndef h, fun zβ za zw zc => ?_⟩, ?_⟩
    · exact len_59 rfl ((show za.eval (.tmp 17) = za.tmps.getD 17 undef from rfl).trans (optVal (zc.dep 11 17 (by kernel_rfl)) rfl zβ)) ⟨_, rfl, Below.refl _ _, optDef zβ rfl⟩
    refine ⟨⟨(true && !(decide ((m : Int) < (0 : Int)))), .no (c := (decide ((m : Int) < (0 : Int)))) (d := true) rfl (fun v w h => h), fun h w => optUndef h, fun zβ za zw zc => ?_⟩, ?_⟩
    · exact gtr_3 rfl ((show za.eval (.tmp 13) = za.tmps.getD 13 undef from rfl).trans (optVal (zc.dep 7 13 (by kernel_rfl)) rfl zβ)) ((show za.eval (.tmp 18) = za.tmps.getD 18 undef from rfl).trans (optVal (zc.dep 12 18 (by kernel_rfl)) rfl zβ)) ⟨_, rfl, Below.refl _ _, optDef zβ rfl⟩
    refine ⟨⟨true, .none rfl, fun h w => optUndef h, fun zβ za zw zc => ?_⟩, ?_⟩
    · exact wp_or rfl ((show za.eval (.tmp 12) = za.tmps.getD 12 undef from rfl).trans (optVal (zc.dep 6 12 (by kernel_rfl)) rfl rfl)) (fun hp => ((show za.eval (.tmp 19) = za.tmps.getD 19 undef from rfl).trans (optVal (zc.dep 13 19 (by kernel_rfl)) rfl (bMkN zβ hp)))) ⟨_, rfl, Below.refl _ _, optDef zβ rfl⟩
    exact trivial
  · intro za w1 zh hb2 zu
    have zh := zh.cons (d := 20) (v := .bool (((decide ((m : Int) < (0 : Int))) || (decide ((((st.length : Nat) : Int) : Int) < (m : Int)))))) (optVal (zu 14 20 (by kernel_rfl)) rfl rfl)
    clear zu
    refine (show WE _ [(0, .pointer (some ⟨g, 0, none⟩)), (1, .int .i64 m), (20, .bool (((decide ((m : Int) < (0 : Int))) || (decide ((((st.length : Nat) : Int) : Int) < (m : Int))))))] w1 _ .normal from ?_) za (zh.sub ⟨rfl, rfl, rfl, trivial⟩)
    refine WE.next ?_
    refine WC.cond rfl (fun h3 => ?_) (fun h3 => ?_)
    · have h3 : ((m : Int) < (0 : Int)) ∨ ((((st.length : Nat) : Int) : Int) < (m : Int)) := by simpa using h3
      (try simp at h3)
      refine WC.ret ?_
      refine WE.thenRet ?_
      refine WE.ret0 rfl ?_
      exact ⟨_, rfl, by unfold backTo; rw [if_neg (by omega)]; exact h0.below hb2, .ofBelow hb2⟩
    · have h3 : ¬ (((m : Int) < (0 : Int)) ∨ ((((st.length : Nat) : Int) : Int) < (m : Int))) := by simpa using h3
      (try simp at h3)
      obtain ⟨mk, rfl⟩ : ∃ k : Nat, m = k := ⟨m.toNat, by omega⟩
      have hmk : mk ≤ st.length := by omega
      refine WC.skip ?_
      refine WE.next ?_
      refine WC.seq ?_
      refine WC.seq ?_
      refine WC.region ?_
      refine WL.val (.pointer (some ⟨g, 0, none⟩)) rfl rfl rfl (fun za zC zh zk => wp_move rfl (zh.ev rfl) zk) ?_
      refine WL.val (.pointer (some ⟨g, 0, none⟩)) rfl rfl rfl (fun za zC zh zk => nilCheck_ rfl (zh.ev rfl) zk) ?_
      refine WL.val (.pointer (some ⟨g, 1, none⟩)) rfl rfl rfl (fun za zC zh zk => fld_64_1 rfl (zh.ev rfl) zk) ?_
      have hB4 := hM.blk.below hb2
      refine WL.val (.slice a st.length c) rfl rfl rfl (fun za zC zh zk => ld_59 rfl (zh.ev rfl) ((hB4.cell 1).trans rfl) zk) ?_
      refine WL.val (.int .i64 (((mk : Nat) : Int))) rfl rfl rfl (fun za zC zh zk => wp_move rfl (zh.ev rfl) zk) ?_
      refine WL.val (.slice ((slA a mk 1 c)) ((st.length - mk)) ((c - mk))) rfl rfl rfl (fun za zC zh zk => slo_59 (k := mk) rfl (zh.ev rfl) (zh.ev rfl) (by omega) (by omega) zk) ?_
      refine WL.val (.int .i64 ((((st.length - mk) : Nat) : Int))) rfl rfl rfl (fun za zC zh zk => len_59 rfl (zh.ev rfl) zk) ?_
      refine WL.val (.int .i64 0) rfl rfl rfl (fun za zC zh zk => wp_move rfl (zh.ev rfl) zk) ?_
      refine WL.nil (WE.sub (K' := [(0, .pointer (some ⟨g, 0, none⟩)), (1, .int .i64 (((mk : Nat) : Int))), (20, .bool (((decide (((mk : Int) : Int) < (0 : Int))) || (decide ((((st.length : Nat) : Int) : Int) < ((mk : Int) : Int)))))), (26, .slice ((slA a mk 1 c)) ((st.length - mk)) ((c - mk))), (27, .int .i64 ((((st.length - mk) : Nat) : Int))), (28, .int .i64 0)]) ⟨rfl, rfl, rfl, rfl, rfl, rfl, trivial⟩ ?_)
      refine WE.next ?_
      refine WC.block ?_
      refine WC.loop (X := Nat × Array MapEntry × Nat) (fun x => (st.length - mk) - x.1) (fun x => [(0, .pointer (some ⟨g, 0, none⟩)), (1, .int .i64 (((mk : Nat) : Int))), (20, .bool (((decide (((mk : Int) : Int) < (0 : Int))) || (decide ((((st.length : Nat) : Int) : Int) < ((mk : Int) : Int)))))), (26, .slice ((slA a mk 1 c)) ((st.length - mk)) ((c - mk))), (27, .int .i64 ((((st.length - mk) : Nat) : Int))), (28, .int .i64 (((x.1 : Nat) : Int)))]) (fun x w5 => x.1 ≤ st.length - mk ∧ ImE x.2.1 x.2.2 (((st.map (·.var)).zip ps).take mk ++ ((st.map (·.var)).zip ps).drop (mk + x.1)) ∧ Blk w5 g 64 #[.map ((some mb)), .slice a st.length c] ∧ ObjAt (w5) mb (.map x.2.1 x.2.2) ∧ Chg (fun b => b = g ∨ b = mb) w w5) ((0, es, cl)) ⟨rfl, rfl, rfl, rfl, rfl, rfl, trivial⟩ ?_ ?_
      · have ho6 := hM.map.below hb2
        have hs7 : Chg (fun b => b = g ∨ b = mb) w w1 := (Chg.trans2 (Chg.refl (fun b => b = g ∨ b = mb) _) (Chg.ofBelow (S := fun k => k < 0) hb2) (fun i h1 h2 => by first | exact h2 | exact .inl h2 | exact .inr h2 | exact .inr (.inl h2) | exact .inr (.inr h2) | ((try dsimp only at *); omega)))
        exact ⟨Nat.zero_le _, (by dsimp only; rw [Nat.add_zero, List.take_append_drop]; exact hM.ent), hB4, ho6, hs7⟩
      · rintro x w5 ⟨hk, hE, hB8, ho9, hc10⟩
        refine WC.seq ?_
        refine WC.region ?_
        refine WL.val (.bool ((decide ((((x.1 : Nat) : Int) : Int) < ((((st.length - mk) : Nat) : Int) : Int))))) rfl rfl rfl (fun za zC zh zk => lss_3 rfl (zh.ev rfl) (zh.ev rfl) zk) ?_
        refine WL.nil (WE.sub (K' := [(0, .pointer (some ⟨g, 0, none⟩)), (1, .int .i64 (((mk : Nat) : Int))), (20, .bool (((decide (((mk : Int) : Int) < (0 : Int))) || (decide ((((st.length : Nat) : Int) : Int) < ((mk : Int) : Int)))))), (26, .slice ((slA a mk 1 c)) ((st.length - mk)) ((c - mk))), (27, .int .i64 ((((st.length - mk) : Nat) : Int))), (28, .int .i64 (((x.1 : Nat) : Int))), (29, .bool ((decide ((((x.1 : Nat) : Int) : Int) < ((((st.length - mk) : Nat) : Int) : Int)))))]) ⟨rfl, rfl, rfl, rfl, rfl, rfl, rfl, trivial⟩ ?_)
        refine WE.next ?_
        refine WC.seq ?_
        refine WC.cond rfl (fun h11 => ?_) (fun h11 => ?_)
        · have h11 : (((x.1 : Nat) : Int) : Int) < ((((st.length - mk) : Nat) : Int) : Int) := by simpa using h11
          refine WC.skip ?_
          refine WE.next ?_
          refine WC.seq ?_
          refine WC.block ?_
          refine WC.seq ?_
          refine WC.region ?_
          have hs16 : Chg ((fun b => b = g ∨ b = mb)) w w5 := (Chg.trans2 (Chg.refl ((fun b => b = g ∨ b = mb)) _) hc10 (fun i h1 h2 => by first | exact h2 | exact .inl h2 | exact .inr h2 | exact .inr (.inl h2) | exact .inr (.inr h2) | ((try dsimp only at *); omega)))
          obtain ⟨b12, o13, ha14, hc15⟩ := InRow.openI (InRow.dropI ((hM.row.chgOwn (fun S w w' x cs q => eltI_any S S w w' x cs q) hs16 (fun b q => by rintro (rfl | rfl); exact hM.rowg q; exact hM.rowmb q)).inRow.1) (by simp; omega) (by simp; omega))
          refine WL.val (.pointer (some ⟨b12, o13 + x.1, none⟩)) rfl rfl rfl (fun za zC zh zk => ix_59 (k := x.1) rfl (zh.ev rfl) (ha14 x.1 (by simp; omega)) (zh.ev rfl) (by first | omega | (simp; omega)) zk) ?_
          refine WL.val (.int .i64 ((List.getD (((st.map (·.var)).drop mk)) x.1 0))) rfl rfl rfl (fun za zC zh zk => ld_3 rfl (zh.ev rfl) (hc15 x.1 (by simp; omega)) zk) ?_
          refine WL.val (.int .i64 ((List.getD (((st.map (·.var)).drop mk)) x.1 0))) rfl rfl rfl (fun za zC zh zk => wp_assign rfl (zh.ev rfl) zk) ?_
          refine WL.nil (WE.sub (K' := [(0, .pointer (some ⟨g, 0, none⟩)), (1, .int .i64 (((mk : Nat) : Int))), (5, .int .i64 ((List.getD (((st.map (·.var)).drop mk)) x.1 0))), (20, .bool (((decide (((mk : Int) : Int) < (0 : Int))) || (decide ((((st.length : Nat) : Int) : Int) < ((mk : Int) : Int)))))), (26, .slice ((slA a mk 1 c)) ((st.length - mk)) ((c - mk))), (27, .int .i64 ((((st.length - mk) : Nat) : Int))), (28, .int .i64 (((x.1 : Nat) : Int))), (29, .bool ((decide ((((x.1 : Nat) : Int) : Int) < ((((st.length - mk) : Nat) : Int) : Int)))))]) ⟨rfl, rfl, rfl, rfl, rfl, rfl, rfl, rfl, trivial⟩ ?_)
          refine WE.next ?_
          refine WC.region ?_
          refine WL.val (.pointer (some ⟨g, 0, none⟩)) rfl rfl rfl (fun za zC zh zk => wp_move rfl (zh.ev rfl) zk) ?_
          refine WL.val (.pointer (some ⟨g, 0, none⟩)) rfl rfl rfl (fun za zC zh zk => nilCheck_ rfl (zh.ev rfl) zk) ?_
          refine WL.val (.pointer (some ⟨g, 0, none⟩)) rfl rfl rfl (fun za zC zh zk => fld_64_0 rfl (zh.ev rfl) zk) ?_
          refine WL.val (.map ((some mb))) rfl rfl rfl (fun za zC zh zk => ld_62 rfl (zh.ev rfl) ((hB8.cell 0).trans rfl) zk) ?_
          refine WL.val (.int .i64 ((List.getD (((st.map (·.var)).drop mk)) x.1 0))) rfl rfl rfl (fun za zC zh zk => wp_move rfl (zh.ev rfl) zk) ?_
          refine WL.step (post := fun _ w' => ∃ es' cl', ObjAt w' mb (.map es' cl') ∧ ImE es' cl' (imDel (((st.map (·.var)).zip ps).take mk ++ ((st.map (·.var)).zip ps).drop (mk + x.1)) ((List.getD (((st.map (·.var)).drop mk)) x.1 0))) ∧ Upd mb w5 w') rfl rfl rfl (fun za zC zh zk => wp_del_im Try.underlying62 Try.underlying3 ho9 hE rfl (zh.ev rfl) (zh.ev rfl) (fun w' es' cl' h1 h2 h3 => zk _ _ ⟨es', cl', h1, h2, h3⟩)) ?_
          rintro _ w17 ⟨es18, cl19, hM20, hE21, hu22⟩
          have hB23 := upd_blk hB8 hu22 (by omega)
          have hE24 : ImE es18 cl19 (((st.map (·.var)).zip ps).take mk ++ ((st.map (·.var)).zip ps).drop (mk + (x.1 + 1))) := by
            rw [imDel_mid hZn (by omega) (by simp [List.getD_eq_getElem?_getD, List.getElem?_drop]; rw [List.getElem?_eq_getElem (by omega)]; simp)] at hE21
            exact hE21
          refine WL.nil (WE.sub (K' := [(0, .pointer (some ⟨g, 0, none⟩)), (1, .int .i64 (((mk : Nat) : Int))), (5, .int .i64 ((List.getD (((st.map (·.var)).drop mk)) x.1 0))), (20, .bool (((decide (((mk : Int) : Int) < (0 : Int))) || (decide ((((st.length : Nat) : Int) : Int) < ((mk : Int) : Int)))))), (26, .slice ((slA a mk 1 c)) ((st.length - mk)) ((c - mk))), (27, .int .i64 ((((st.length - mk) : Nat) : Int))), (28, .int .i64 (((x.1 : Nat) : Int))), (29, .bool ((decide ((((x.1 : Nat) : Int) : Int) < ((((st.length - mk) : Nat) : Int) : Int)))))]) ⟨rfl, rfl, rfl, rfl, rfl, rfl, rfl, rfl, trivial⟩ ?_)
          refine WE.blockNormal ?_
          refine WE.next ?_
          refine WC.region ?_
          refine WL.val (.int .i64 ((((x.1 + 1) : Nat) : Int))) rfl rfl rfl (fun za zC zh zk => addb_3 rfl (zh.ev rfl) (zh.ev rfl) (wrap_eq (by omega) (by omega) (by omega)) zk) ?_
          refine WL.val (.int .i64 ((((x.1 + 1) : Nat) : Int))) rfl rfl rfl (fun za zC zh zk => wp_move rfl (zh.ev rfl) zk) ?_
          refine WL.nil (WE.sub (K' := [(0, .pointer (some ⟨g, 0, none⟩)), (1, .int .i64 (((mk : Nat) : Int))), (5, .int .i64 ((List.getD (((st.map (·.var)).drop mk)) x.1 0))), (20, .bool (((decide (((mk : Int) : Int) < (0 : Int))) || (decide ((((st.length : Nat) : Int) : Int) < ((mk : Int) : Int)))))), (26, .slice ((slA a mk 1 c)) ((st.length - mk)) ((c - mk))), (27, .int .i64 ((((st.length - mk) : Nat) : Int))), (28, .int .i64 ((((x.1 + 1) : Nat) : Int))), (29, .bool ((decide ((((x.1 : Nat) : Int) : Int) < ((((st.length - mk) : Nat) : Int) : Int)))))]) ⟨rfl, rfl, rfl, rfl, rfl, rfl, rfl, rfl, trivial⟩ ?_)
          refine WE.round ((x.1 + 1, es18, cl19)) ⟨rfl, rfl, rfl, rfl, rfl, rfl, trivial⟩ ?_ ?_
          · have hs25 : Chg (fun b => b = g ∨ b = mb) w w17 := (Chg.trans2 (Chg.trans2 (Chg.refl (fun b => b = g ∨ b = mb) _) hc10 (fun i h1 h2 => by first | exact h2 | exact .inl h2 | exact .inr h2 | exact .inr (.inl h2) | exact .inr (.inr h2) | ((try dsimp only at *); omega))) (Chg.ofUpd (S := fun k => k = mb) hu22 rfl) (fun i h1 h2 => by first | exact h2 | exact .inl h2 | exact .inr h2 | exact .inr (.inl h2) | exact .inr (.inr h2) | ((try dsimp only at *); omega)))
            exact ⟨by (try dsimp only at *); omega, hE24, hB23, hM20, hs25⟩
          · dsimp only; omega
        · have h11 : ¬ ((((x.1 : Nat) : Int) : Int) < ((((st.length - mk) : Nat) : Int) : Int)) := by simpa using h11
          refine WC.exit ?_
          refine WE.thenExit ?_
          refine WE.thenExit ?_
          refine WE.blockIs rfl ?_
          refine WE.next ?_
          refine WC.region ?_
          refine WL.val (.pointer (some ⟨g, 0, none⟩)) rfl rfl rfl (fun za zC zh zk => wp_move rfl (zh.ev rfl) zk) ?_
          refine WL.val (.pointer (some ⟨g, 0, none⟩)) rfl rfl rfl (fun za zC zh zk => wp_move rfl (zh.ev rfl) zk) ?_
          refine WL.val (.pointer (some ⟨g, 0, none⟩)) rfl rfl rfl (fun za zC zh zk => nilCheck_ rfl (zh.ev rfl) zk) ?_
          refine WL.val (.pointer (some ⟨g, 1, none⟩)) rfl rfl rfl (fun za zC zh zk => fld_64_1 rfl (zh.ev rfl) zk) ?_
          refine WL.val (.slice a st.length c) rfl rfl rfl (fun za zC zh zk => ld_59 rfl (zh.ev rfl) ((hB8.cell 1).trans rfl) zk) ?_
          refine WL.val (.int .i64 (((mk : Nat) : Int))) rfl rfl rfl (fun za zC zh zk => wp_move rfl (zh.ev rfl) zk) ?_
          refine WL.val (.slice a mk c) rfl rfl rfl (fun za zC zh zk => shi_59 (k := mk) rfl (zh.ev rfl) (zh.ev rfl) (by omega) zk) ?_
          refine WL.val (.pointer (some ⟨g, 0, none⟩)) rfl rfl rfl (fun za zC zh zk => nilCheck_ rfl (zh.ev rfl) zk) ?_
          refine WL.val (.pointer (some ⟨g, 1, none⟩)) rfl rfl rfl (fun za zC zh zk => fld_64_1 rfl (zh.ev rfl) zk) ?_
          refine WL.step (post := fun _ w' => Upd g w5 w' ∧ Blk w' g 64 #[.map ((some mb)), .slice a mk c]) rfl rfl rfl (fun za zC zh zk => st_59 rfl (zh.ev rfl) (zh.ev rfl) hB8 (by first | decide | simp) (fun v => zk v _ ⟨Upd.at_ _ _ _ _, hB8.set_ 1 _⟩)) ?_
          rintro v29 w26 ⟨hu27, hB28⟩
          have ho30 := ho9.upd hu27 (by omega)
          refine WL.nil (WE.sub (K' := [(0, .pointer (some ⟨g, 0, none⟩)), (1, .int .i64 (((mk : Nat) : Int))), (20, .bool (((decide (((mk : Int) : Int) < (0 : Int))) || (decide ((((st.length : Nat) : Int) : Int) < ((mk : Int) : Int)))))), (26, .slice ((slA a mk 1 c)) ((st.length - mk)) ((c - mk))), (27, .int .i64 ((((st.length - mk) : Nat) : Int))), (28, .int .i64 (((x.1 : Nat) : Int))), (29, .bool ((decide ((((x.1 : Nat) : Int) : Int) < ((((st.length - mk) : Nat) : Int) : Int)))))]) ⟨rfl, rfl, rfl, rfl, rfl, rfl, rfl, trivial⟩ ?_)
          refine WE.end0 rfl ?_
          have hs31 : Chg ((fun b => b = g ∨ b = mb)) w w26 := (Chg.trans2 (Chg.trans2 (Chg.refl ((fun b => b = g ∨ b = mb)) _) hc10 (fun i h1 h2 => by first | exact h2 | exact .inl h2 | exact .inr h2 | exact .inr (.inl h2) | exact .inr (.inr h2) | ((try dsimp only at *); omega))) (Chg.ofUpd (S := fun k => k = g) hu27 rfl) (fun i h1 h2 => by first | exact h2 | exact .inl h2 | exact .inr h2 | exact .inr (.inl h2) | exact .inr (.inr h2) | ((try dsimp only at *); omega)))
          have hE9 : ImE x.2.1 x.2.2 (((st.map (·.var)).zip ps).take mk) := by
            have z := hE
            rw [show mk + x.1 = st.length by omega, List.drop_of_length_le (by omega), List.append_nil] at z
            exact z
          exact ⟨_, rfl, by rw [backTo_nat hmk]; exact ⟨_, _, _, _, _, _, hM.back hmk hB28 ho30 hE9 hs31⟩, hs31.mono (fun b q => by rcases q with rfl | rfl; exact hM.cg; exact hM.cmb)⟩

set_option maxRecDepth 100000 in
theorem backNil (m : Int) (w : World) : Calls Try.prog 19 #[.pointer none, .int .i64 m] w (Ret fun v' w' => Below w.heap.size w w') := by
  refine Calls.walk (l := [.pointer none, .int .i64 m]) Try.func19 rfl (by kernel_rfl) ?_
  refine WC.sub (K' := [(0, .pointer none), (1, .int .i64 m)]) ⟨rfl, rfl, trivial⟩ ?_
  refine WC.seq ?_
  refine WC.seq ?_
  refine WC.opt [(true, .val (.pointer none)), (true, .val (.bool true)), (true, .val (.bool true)), ((true && !true), .val undef), ((true && !true), .val undef), (true, .val (.bool true)), (true, .val (.bool true)), ((true && !true), .val undef), ((true && !true), .val undef), ((true && !true), .val undef), ((true && !true), .val undef), ((true && !true), .val undef), ((true && !true), .val undef), ((true && !true), .val undef), (true, .val (.bool true))] [(0, .pointer none), (1, .int .i64 m)] ⟨rfl, rfl, trivial⟩ (by kernel_rfl) (by kernel_rfl) (by kernel_rfl) ?_ ?_
  · refine ⟨⟨true, .none rfl, fun h w => optUndef h, fun zβ za zw zc => ?_⟩, ?_⟩
    · exact wp_move rfl (zc.kn.ev rfl) ⟨_, rfl, Below.refl _ _, optDef zβ rfl⟩
    refine ⟨⟨true, .none rfl, fun h w => optUndef h, fun zβ za zw zc => ?_⟩, ?_⟩
    · exact eqln_33 rfl ((show za.eval (.tmp 6) = za.tmps.getD 6 undef from rfl).trans (optVal (zc.dep 0 6 (by kernel_rfl)) rfl rfl)) (zc.kn.ev rfl) ⟨_, rfl, Below.refl _ _, optDef zβ rfl⟩
    refine ⟨⟨true, .none rfl, fun h w => optUndef h, fun zβ za zw zc => ?_⟩, ?_⟩
    · exact wp_move rfl ((show za.eval (.tmp 7) = za.tmps.getD 7 undef from rfl).trans (optVal (zc.dep 1 7 (by kernel_rfl)) rfl rfl)) ⟨_, rfl, Below.refl _ _, optDef zβ rfl⟩
    refine ⟨⟨(true && !true), .no (c := true) (d := true) rfl (fun v w h => h), fun h w => optUndef h, fun zβ za zw zc => ?_⟩, ?_⟩
    · simp at zβ
    refine ⟨⟨(true && !true), .no (c := true) (d := true) rfl (fun v w h => h), fun h w => optUndef h, fun zβ za zw zc => ?_⟩, ?_⟩
    · simp at zβ
    refine ⟨⟨true, .none rfl, fun h w => optUndef h, fun zβ za zw zc => ?_⟩, ?_⟩
    · exact wp_pickT rfl ((show za.eval (.tmp 8) = za.tmps.getD 8 undef from rfl).trans (optVal (zc.dep 2 8 (by kernel_rfl)) rfl rfl)) (zc.kn.ev rfl) ⟨_, rfl, Below.refl _ _, optDef zβ rfl⟩
    refine ⟨⟨true, .none rfl, fun h w => optUndef h, fun zβ za zw zc => ?_⟩, ?_⟩
    · exact wp_move rfl ((show za.eval (.tmp 11) = za.tmps.getD 11 undef from rfl).trans (optVal (zc.dep 5 11 (by kernel_rfl)) rfl rfl)) ⟨_, rfl, Below.refl _ _, optDef zβ rfl⟩
    refine ⟨⟨(true && !true), .no (c := true) (d := true) rfl (fun v w h => h), fun h w => optUndef h, fun zβ za zw zc => ?_⟩, ?_⟩
    · simp at zβ
    refine ⟨⟨(true && !true), .no (c := true) (d := true) rfl (fun v w h => h), fun h w => optUndef h, fun zβ za zw zc => ?_⟩, ?_⟩
    · simp at zβ
    refine ⟨⟨(true && !true), .no (c := true) (d := true) rfl (fun v w h => h), fun h w => optUndef h, fun zβ za zw zc => ?_⟩, ?_⟩
    · simp at zβ
    refine ⟨⟨(true && !true), .no (c := true) (d := true) rfl (fun v w h => h), fun h w => optUndef h, fun zβ za zw zc => ?_⟩, ?_⟩
    · simp at zβ
    refine ⟨⟨(true && !true), .no (c := true) (d := true) rfl (fun v w h => h), fun h w => optUndef h, fun zβ za zw zc => ?_⟩, ?_⟩
    · simp at zβ
    refine ⟨⟨(true && !true), .no (c := true) (d := true) rfl (fun v w h => h), fun h w => optUndef h, fun zβ za zw zc => ?_⟩, ?_⟩
    · simp at zβ
    refine ⟨⟨(true && !true), .no (c := true) (d := true) rfl (fun v w h => h), fun h w => optUndef h, fun zβ za zw zc => ?_⟩, ?_⟩
    · simp at zβ
    refine ⟨⟨true, .none rfl, fun h w => optUndef h, fun zβ za zw zc => ?_⟩, ?_⟩
    · exact wp_pickT rfl ((show za.eval (.tmp 12) = za.tmps.getD 12 undef from rfl).trans (optVal (zc.dep 6 12 (by kernel_rfl)) rfl rfl)) (zc.kn.ev rfl) ⟨_, rfl, Below.refl _ _, optDef zβ rfl⟩
    exact trivial
  · intro za w1 zh hb2 zu
    have zh := zh.cons (d := 20) (v := .bool true) (optVal (zu 14 20 (by kernel_rfl)) rfl rfl)
    clear zu
    refine (show WE _ [(0, .pointer none), (1, .int .i64 m), (20, .bool true)] w1 _ .normal from ?_) za (zh.sub ⟨rfl, rfl, rfl, trivial⟩)
    refine WE.next ?_
    refine WC.condT rfl rfl ?_
    refine WC.ret ?_
    refine WE.thenRet ?_
    refine WE.ret0 rfl ?_
    exact ⟨_, rfl, hb2⟩

end Go.Proofs.Ytcmfjnadjddboaa
