/- Arguments of a law, opened: signatures, rows of terms. -/
import Derived.Test.YtbohlpfndiiimaaBKPj
import Derived.Test.YtbohlpfndiiimaaBKPd

/- The bank and the document's, act by act: the law's walk. -/
namespace Go.Proofs.Ytbohlpfndiiimaa
open Go.RowKit Go
set_option linter.unusedVariables false
set_option linter.unusedSimpArgs false
theorem told_any (g gr : Nat) (sg : List Sy) (N : List En) (Y Yr : Nat → Prop) (n : Int) (w : World) (hNl : N.length ≤ 900000) (hK : BkS w g sg Y N) (hR : RbS w gr sg Yr N) : Calls Try.prog 22 #[.pointer (some ⟨g, 0, none⟩), .pointer (some ⟨gr, 0, none⟩), .int .i64 n] w (Ret fun v' w' => v' = .bool true ∧ Below w.heap.size w w') := by
 by_cases h : 0 ≤ n ∧ n < (N.length : Int)
 ·obtain ⟨k, rfl⟩ : ∃ k : Nat, n = (k : Int) := ⟨n.toNat, by omega⟩
  exact told_yes g gr sg N Y Yr k w hNl (by omega) hK hR
 ·exact told_no g gr sg N Y Yr n w (hasB_no h) hK hR
def repNI (sg : List Sy) (N : List En) (n m : Int) (p : List Int) : List En := if (hasB N n && hasB N m) = true then repN sg N n.toNat m.toNat p else N
def repVI (sg : List Sy) (N : List En) (n m : Int) (p : List Int) : Int := if (hasB N n && hasB N m) = true then repV sg N n.toNat m.toNat p else 0
def repEI (sg : List Sy) (N : List En) (n m : Int) (p : List Int) : Int := if (hasB N n && hasB N m) = true then repE sg N n.toNat m.toNat p else 4
theorem hasB_nat {N : List En} {n : Int} (h : hasB N n = true) : ∃ k : Nat, n = (k : Int) ∧ k < N.length := by
 unfold hasB at h
 simp only [Bool.and_eq_true, decide_eq_true_eq] at h
 exact ⟨n.toNat, by omega, by omega⟩
theorem repNI_len {sg : List Sy} {N : List En} (h : NEk N) (n m : Int) (p : List Int) : (repNI sg N n m p).length ≤ N.length + 300 := by
 unfold repNI
 split
 ·exact repN_len h _ _ p
 ·omega
theorem rbRep_any (g : Nat) (sg : List Sy) (N : List En) (Y : Nat → Prop) (n m : Int) (p : List Int) (pa : Option Addr) (pc : Nat) (w : World) (hNl : N.length ≤ 900000) (hpc : pc ≤ maxLen) (hp : PIs w p pa pc) (hK : RbS w g sg Y N) :
  Calls Try.prog 25 #[.pointer (some ⟨g, 0, none⟩), .int .i64 n, .slice pa p.length pc, .int .i64 m] w (Ret fun v' w' => v' = .tuple #[.int .i64 (repVI sg N n m p), .int .i64 (repEI sg N n m p)] ∧ (∃ Y', RbS w' g sg Y' (repNI sg N n m p) ∧ ∀ b, Y' b → Y b ∨ w.heap.size ≤ b) ∧ Chg Y w w') := by
 unfold repVI repEI repNI
 by_cases h : (hasB N n && hasB N m) = true
 ·rw [if_pos h, if_pos h, if_pos h]
  rw [Bool.and_eq_true] at h
  obtain ⟨n, rfl, hn⟩ := hasB_nat h.1
  obtain ⟨m, rfl, hm⟩ := hasB_nat h.2
  exact rbRep_yes g sg N Y n m p pa pc w hNl hn hm hpc hp hK
 ·rw [if_neg h, if_neg h, if_neg h]
  refine Calls.mono (rbRep_no g sg N Y n m _ w (by simpa using h) hK) (fun e w' hr => ?_)
  obtain ⟨v', rfl, h1, hb⟩ := hr
  exact ⟨v', rfl, h1, ⟨Y, hK.below hb, fun b q => .inl q⟩, .ofBelow hb⟩
theorem bRep_any (g : Nat) (sg : List Sy) (N : List En) (Y : Nat → Prop) (n m : Int) (p : List Int) (pa : Option Addr) (pc : Nat) (w : World) (hNl : N.length ≤ 900000) (hpc : pc ≤ maxLen) (hp : PIs w p pa pc) (hK : BkS w g sg Y N) :
  Calls Try.prog 24 #[.pointer (some ⟨g, 0, none⟩), .int .i64 n, .slice pa p.length pc, .int .i64 m] w (Ret fun v' w' => v' = .tuple #[.int .i64 (repVI sg N n m p), .int .i64 (repEI sg N n m p)] ∧ (∃ Y', BkS w' g sg Y' (repNI sg N n m p) ∧ ∀ b, Y' b → Y b ∨ w.heap.size ≤ b) ∧ Chg Y w w') := by
 unfold repVI repEI repNI
 by_cases h : (hasB N n && hasB N m) = true
 ·rw [if_pos h, if_pos h, if_pos h]
  rw [Bool.and_eq_true] at h
  obtain ⟨n, rfl, hn⟩ := hasB_nat h.1
  obtain ⟨m, rfl, hm⟩ := hasB_nat h.2
  exact bRep_yes g sg N Y n m p pa pc w hNl hn hm hpc hp hK
 ·rw [if_neg h, if_neg h, if_neg h]
  refine Calls.mono (bRep_no g sg N Y n m _ w (by simpa using h) hK) (fun e w' hr => ?_)
  obtain ⟨v', rfl, h1, hb⟩ := hr
  exact ⟨v', rfl, h1, ⟨Y, hK.below hb, fun b q => .inl q⟩, .ofBelow hb⟩
theorem rcopyS_sig (l : List Sy) (w : World) (v : Value) (hz : l.length ≤ 4294967296) (hv : IsSig w l v) : Calls Try.prog 18 #[v] w (Ret fun v' w' => IsSig w' l v' ∧ Below w.heap.size w w') := by
 refine Calls.mono (rcopyS_any l w v hz hv) (fun e w' hr => ?_)
 obtain ⟨v', rfl, ⟨ra, rc, rfl, ho⟩, hb⟩ := hr
 obtain ⟨_, _, _, _, _, hl⟩ := hv
 obtain ⟨_, h1, h2, h3⟩ := sys_of_own ho.1 hl.wfs
 exact ⟨_, rfl, ⟨ra, rc, rfl, h1, h2, h3⟩, hb⟩
theorem rnewY (sg : List Sy) (w : World) (v : Value) (hz : sg.length ≤ 4294967296) (hs : IsSig w sg v) (hck : sigCheck sg = 0) : Calls Try.prog 19 #[v] w (Ret fun v' w' => (∃ g : Nat, v' = .tuple #[.pointer (some ⟨g, 0, none⟩), .int .i64 0] ∧ RbS w' g sg (fun b => w.heap.size ≤ b ∧ b < w'.heap.size) []) ∧ Below w.heap.size w w') := by
 refine Calls.mono (rbNew_any sg w v hz hs) (fun e w' hr => ?_)
 obtain ⟨v', rfl, h, hb⟩ := hr
 rcases h with ⟨h, _⟩ | ⟨_, h⟩
 ·exact absurd hck h
 ·exact ⟨v', rfl, h, hb⟩
theorem rnewN (sg : List Sy) (w : World) (v : Value) (hz : sg.length ≤ 4294967296) (hs : IsSig w sg v) (hck : sigCheck sg ≠ 0) : Calls Try.prog 19 #[v] w (Ret fun v' w' => v' = .tuple #[.pointer none, .int .i64 2] ∧ Below w.heap.size w w') := by
 refine Calls.mono (rbNew_any sg w v hz hs) (fun e w' hr => ?_)
 obtain ⟨v', rfl, h, hb⟩ := hr
 rcases h with ⟨_, h⟩ | ⟨h, _⟩
 ·exact ⟨v', rfl, h, hb⟩
 ·exact absurd h hck
/-- Both banks, apart. -/
def BothB (w : World) (B g gr : Nat) (sg : List Sy) (N : List En) : Prop := ∃ Y Yr, BkS w g sg Y N ∧ RbS w gr sg Yr N ∧ (∀ b, Y b → B ≤ b) ∧ (∀ b, Yr b → B ≤ b) ∧ ∀ b, Y b → ¬ Yr b
theorem BothB.next {u : World} {B s0 s1 s2 g gr : Nat} {sg : List Sy} {N : List En} {Y Yr Y8 Y9 : Nat → Prop} (hK : BkS u g sg Y8 N) (hR : RbS u gr sg Y9 N) (hYB : ∀ b, Y b → B ≤ b) (hRB : ∀ b, Yr b → B ≤ b) (hYl : ∀ b, Y b → b < s0) (hRl : ∀ b, Yr b → b < s0) (hYR : ∀ b, Y b → ¬ Yr b)
  (h8 : ∀ b, Y8 b → Y b ∨ s1 ≤ b) (h8l : ∀ b, Y8 b → b < s2) (h9 : ∀ b, Y9 b → Yr b ∨ s2 ≤ b) (h01 : s0 ≤ s1) (h12 : s1 ≤ s2) (hB : B ≤ s0) : BothB u B g gr sg N := by
 refine ⟨Y8, Y9, hK, hR, fun b q => ?_, fun b q => ?_, fun b q k => ?_⟩
 ·rcases h8 b q with z | z
  ·exact hYB b z
  ·omega
 ·rcases h9 b q with z | z
  ·exact hRB b z
  ·omega
 ·rcases h9 b k with z | z
  ·rcases h8 b q with y | y
   ·exact hYR b y z
   ·have := hRl b z; omega
  ·have := h8l b q; omega
set_option maxRecDepth 100000 in
set_option maxHeartbeats 1000000 in
theorem plays_any (sg : List Sy) (l : List Ak) (w : World) (vs : Value) (a : Option Addr) (c : Nat) (hzs : sg.length ≤ 1048576) (hs : IsSig w sg vs) (hl : IsAks w l a) (hc : l.length ≤ c) (hm : c ≤ maxLen) : Calls Try.prog 5 #[vs, .slice a l.length c] w (Ret fun v' w' => v' = .bool true ∧ Below w.heap.size w w') := by
 have hst := hs
 obtain ⟨sa, sc, rfl, _, _, _⟩ := hs
 obtain ⟨lb, lo, A9, C9, PA, PC, hla, hlc⟩ := hl.open
 refine Calls.walk (l := [.agg #[.slice sa sg.length sc], .slice a l.length c]) Try.func5 rfl (by kernel_rfl) ?_
 refine WC.sub (K' := [(0, .agg #[.slice sa sg.length sc]), (1, .slice a l.length c)]) ⟨rfl, rfl, trivial⟩ ?_
 refine WC.seq (WC.region ?_)
 refine WL.step (post := NewBlk w 24 #[.slice sa sg.length sc]) rfl rfl rfl (fun za zC zh zk => box_24 rfl (zh.ev rfl) (zk _ _ (newBlk _ _ _))) ?_
 rintro _ w1 ⟨g2, rfl, hg3, hB4, hb5, hz6⟩
 have hl7 : w.heap.size ≤ g2 := by omega
 refine WL.asg rfl rfl rfl rfl rfl (WL.nil (WE.next (WC.seq (WC.seq (WC.region (WL.mv rfl rfl rfl rfl rfl ?_))))))
 refine WL.val (.int .i64 (((l.length : Nat) : Int))) rfl rfl rfl (fun za zC zh zk => len_48 rfl (zh.ev rfl) zk) ?_
 refine WL.val (.bool ((decide ((100 : Int) < (((l.length : Nat) : Int) : Int))))) rfl rfl rfl (fun za zC zh zk => gtr_3 rfl (zh.ev rfl) (zh.ev rfl) zk) ?_
 refine WL.nil (WE.next ?_)
 refine WC.cond rfl (fun h8 => ?_) (fun h8 => ?_)
 ·have h8 : (100 : Int) < (((l.length : Nat) : Int) : Int) := by simpa using h8
  refine WC.seq (WC.region ?_)
  refine WL.call rfl rfl rfl (fun za zh zC => wp_call (by kernel_rfl) rfl (hv0)) (wakes_any _) ?_
  rintro _ w10 ⟨rfl, hq9⟩
  refine WL.asg rfl rfl rfl rfl rfl (WL.nil (WE.next (WC.ret (WE.thenRet (WE.ret1 rfl rfl ?_)))))
  have hb11 : Below w.heap.size w w10 := (bstep hb5 hq9)
  exact ⟨_, rfl, rfl, hb11⟩
 ·have h8 : ¬ ((100 : Int) < (((l.length : Nat) : Int) : Int)) := by simpa using h8
  refine WC.skip (WE.next (WC.seq (WC.region ?_)))
  by_cases hck : sigCheck sg = 0
  ·refine WL.val _ rfl rfl rfl (fun za zC zh zk => ld_24 rfl (zh.ev rfl) ((hB4.cell 0).trans rfl) zk) ?_
   refine WL.call rfl rfl rfl (fun za zh zC => wp_call (by kernel_rfl) rfl (hv1 (zh.ev rfl))) (rcopyS_sig sg _ _ (by omega) (IsSig.below hb5 hst)) ?_
   rintro vsm12 w15 ⟨hsm13, hb14⟩
   have hB16 := hB4.below hb14
   have hl17 := hB16.lt
   refine WL.call rfl rfl rfl (fun za zh zC => wp_call (by kernel_rfl) rfl (hv1 (zh.ev rfl))) (newY sg _ _ (by omega) hsm13 hck) ?_
   rintro _ w21 ⟨⟨gk18, rfl, hk19⟩, hb20⟩
   have hBw : w.heap.size ≤ w15.heap.size := (Nat.le_trans hb5.size hb14.size)
   refine WL.mv rfl rfl rfl rfl rfl ?_
   refine WL.val (.pointer (some ⟨gk18, 0, none⟩)) rfl rfl rfl (fun za zC zh zk => ext2_0 rfl (zh.ev rfl) zk) ?_
   refine WL.val (.int .i64 0) rfl rfl rfl (fun za zC zh zk => ext2_1 rfl (zh.ev rfl) zk) ?_
   refine WL.asg rfl rfl rfl rfl rfl (WL.asg rfl rfl rfl rfl rfl (WL.nil (WE.next (WC.seq (WC.region ?_)))))
   have hB22 := hB16.below hb20
   refine WL.val _ rfl rfl rfl (fun za zC zh zk => ld_24 rfl (zh.ev rfl) ((hB22.cell 0).trans rfl) zk) ?_
   have hb23 : Below w.heap.size w w21 := (bstep (bstep hb5 hb14) hb20)
   refine WL.call rfl rfl rfl (fun za zh zC => wp_call (by kernel_rfl) rfl (hv1 (zh.ev rfl))) (rnewY sg _ _ (by omega) (IsSig.below hb23 hst) hck) ?_
   rintro _ w27 ⟨⟨gr24, rfl, hk25⟩, hb26⟩
   have hbb0 : BothB w27 w15.heap.size gk18 gr24 sg ([]) := ⟨_, _, BkS.below hk19 hb26, hk25, fun b q => q.1, fun b q => Nat.le_trans hb20.size q.1, fun b q k => by have z1 := q.2; have z2 := k.1; have z3 : w21.heap.size ≤ w21.heap.size := (Nat.le_refl _); omega⟩
   refine WL.mv rfl rfl rfl rfl rfl ?_
   refine WL.val (.pointer (some ⟨gr24, 0, none⟩)) rfl rfl rfl (fun za zC zh zk => ext2_0 rfl (zh.ev rfl) zk) ?_
   refine WL.val (.int .i64 0) rfl rfl rfl (fun za zC zh zk => ext2_1 rfl (zh.ev rfl) zk) ?_
   refine WL.asg rfl rfl rfl rfl rfl (WL.asg rfl rfl rfl rfl rfl (WL.nil (WE.next (WC.seq (WC.seq (WC.region (WL.mv rfl rfl rfl rfl rfl (WL.mv rfl rfl rfl rfl rfl ?_))))))))
   refine WL.val (.bool false) rfl rfl rfl (fun za zC zh zk => neq_27 rfl (zh.ev rfl) (zh.ev rfl) zk) ?_
   refine WL.mv rfl rfl rfl rfl rfl ?_
   refine WL.want (d := 42) rfl rfl rfl ?_
   refine WL.mv rfl rfl rfl rfl rfl ?_
   refine WL.want (d := 42) rfl rfl rfl ?_
   refine WL.val (.bool false) rfl rfl rfl (fun za zC zh zk => eqlp_26 rfl (zh.ev rfl) (zh.ev rfl) zk) ?_
   refine WL.want (d := 42) rfl rfl rfl ?_
   refine WL.mv rfl rfl rfl rfl rfl ?_
   refine WL.want (d := 42) rfl rfl rfl ?_
   refine WL.val (.bool false) rfl rfl rfl (fun za zC zh zk => neq_27 rfl (zh.ev rfl) (zh.ev rfl) zk) ?_
   refine WL.want (d := 42) rfl rfl rfl ?_
   refine WL.val (.bool ((false != false))) rfl rfl rfl (fun za zC zh zk => neq_4 rfl (zh.ev rfl) (zh.ev rfl) zk) ?_
   refine WL.val (.bool ((false != false))) rfl rfl rfl (fun za zC zh zk => wp_pickF rfl (zh.ev rfl) (zh.ev rfl) zk) ?_
   refine WL.nil (WE.sub (K' := [(0, .agg #[.slice sa sg.length sc]), (1, .slice a l.length c), (2, .pointer (some ⟨g2, 0, none⟩)), (4, .bool false), (5, .pointer (some ⟨gk18, 0, none⟩)), (6, .int .i64 0), (7, .pointer (some ⟨gr24, 0, none⟩)), (8, .int .i64 0), (26, .bool ((decide ((100 : Int) < (((l.length : Nat) : Int) : Int))))), (48, .bool ((false != false)))]) ⟨rfl, rfl, rfl, rfl, rfl, rfl, rfl, rfl, rfl, rfl, trivial⟩ ?_)
   refine WE.next ?_
   refine WC.condF rfl (rfl) ?_
   refine WC.skip (WE.next (WC.seq (WC.seq (WC.region (WL.asg rfl rfl rfl rfl rfl (WL.nil (WE.next (WC.block ?_))))))))
   have hl100 : l.length ≤ 100 := by omega
   refine WC.loop (X := Nat × List En) (fun x => l.length - x.1) (fun x => [(0, .agg #[.slice sa sg.length sc]), (1, .slice a l.length c), (2, .pointer (some ⟨g2, 0, none⟩)), (5, .pointer (some ⟨gk18, 0, none⟩)), (6, .int .i64 0), (7, .pointer (some ⟨gr24, 0, none⟩)), (8, .int .i64 0), (9, .int .i64 (((x.1 : Nat) : Int))), (26, .bool ((decide ((100 : Int) < (((l.length : Nat) : Int) : Int))))), (48, .bool ((false != false)))]) (fun x w28 => x.1 ≤ l.length ∧ x.2.length ≤ x.1 * 300 ∧ Below w.heap.size w w28 ∧ Blk w28 g2 24 #[.slice sa sg.length sc] ∧ BothB (w28) w15.heap.size gk18 gr24 sg x.2) ((0, [])) ⟨rfl, rfl, rfl, rfl, rfl, rfl, rfl, rfl, rfl, rfl, trivial⟩ ?_ ?_
   ·have hb29 : Below w.heap.size w w27 := (bstep hb23 hb26)
    have hB30 := hB22.below hb26
    exact ⟨Nat.zero_le _, Nat.zero_le _, hb29, hB30, hbb0⟩
   ·rintro x w28 ⟨hk, hNl, hb31, hB32, ho33⟩
    obtain ⟨Y, Yr, hK, hR, hYB, hRB, hYR⟩ := ho33
    have hYl := hK.lt
    have hRl := hR.lt
    have hok := hK.ok
    have hB0 : w15.heap.size ≤ w28.heap.size := Nat.le_trans (hYB _ hK.hg) (Nat.le_of_lt (hYl _ hK.hg))
    refine WC.seq (WC.seq ?_)
    refine WC.opt [(true, .val (.int .i64 (((x.1 : Nat) : Int)))), (true, .val (.slice a l.length c)), (true, .val (.int .i64 (((l.length : Nat) : Int)))), (true, .val (.bool ((decide ((((x.1 : Nat) : Int) : Int) < (((l.length : Nat) : Int) : Int)))))), (true, .val (.bool ((decide ((((x.1 : Nat) : Int) : Int) < (((l.length : Nat) : Int) : Int)))))), ((true && (decide ((((x.1 : Nat) : Int) : Int) < (((l.length : Nat) : Int) : Int)))), .val (.int .i64 0)), ((true && (decide ((((x.1 : Nat) : Int) : Int) < (((l.length : Nat) : Int) : Int)))), .val (.bool true)), (true, .val (.bool (((decide ((((x.1 : Nat) : Int) : Int) < (((l.length : Nat) : Int) : Int))) && true))))] [(0, .agg #[.slice sa sg.length sc]), (1, .slice a l.length c), (2, .pointer (some ⟨g2, 0, none⟩)), (5, .pointer (some ⟨gk18, 0, none⟩)), (6, .int .i64 0), (7, .pointer (some ⟨gr24, 0, none⟩)), (8, .int .i64 0), (9, .int .i64 (((x.1 : Nat) : Int))), (26, .bool ((decide ((100 : Int) < (((l.length : Nat) : Int) : Int))))), (48, .bool ((false != false)))] ⟨rfl, rfl, rfl, rfl, rfl, rfl, rfl, rfl, rfl, rfl, trivial⟩ (by kernel_rfl) (by kernel_rfl) (by kernel_rfl) ?_ ?_
    ·refine ⟨⟨true, .none rfl, fun h w => optUndef h, fun zβ za zw zc => ?_⟩, ?_⟩
     ·exact wp_move rfl (zc.kn.ev rfl) ⟨_, rfl, Below.refl _ _, optDef zβ rfl⟩
     refine ⟨⟨true, .none rfl, fun h w => optUndef h, fun zβ za zw zc => ?_⟩, ?_⟩
     ·exact wp_move rfl (zc.kn.ev rfl) ⟨_, rfl, Below.refl _ _, optDef zβ rfl⟩
     refine ⟨⟨true, .none rfl, fun h w => optUndef h, fun zβ za zw zc => ?_⟩, ?_⟩
     ·exact len_48 rfl ((evt za 50).trans (optVal (zc.dep 1 50 (by kernel_rfl)) rfl rfl)) ⟨_, rfl, Below.refl _ _, optDef zβ rfl⟩
     refine ⟨⟨true, .none rfl, fun h w => optUndef h, fun zβ za zw zc => ?_⟩, ?_⟩
     ·exact lss_3 rfl ((evt za 49).trans (optVal (zc.dep 0 49 (by kernel_rfl)) rfl rfl)) ((evt za 51).trans (optVal (zc.dep 2 51 (by kernel_rfl)) rfl rfl)) ⟨_, rfl, Below.refl _ _, optDef zβ rfl⟩
     refine ⟨⟨true, .none rfl, fun h w => optUndef h, fun zβ za zw zc => ?_⟩, ?_⟩
     ·exact wp_move rfl ((evt za 52).trans (optVal (zc.dep 3 52 (by kernel_rfl)) rfl rfl)) ⟨_, rfl, Below.refl _ _, optDef zβ rfl⟩
     refine ⟨⟨_, .yes (d := true) rfl (fun v w h => h), fun h w => optUndef h, fun zβ za zw zc => ?_⟩, ?_⟩
     ·exact wp_move rfl (zc.kn.ev rfl) ⟨_, rfl, Below.refl _ _, optDef zβ rfl⟩
     refine ⟨⟨_, .yes (d := true) rfl (fun v w h => h), fun h w => optUndef h, fun zβ za zw zc => ?_⟩, ?_⟩
     ·exact eql_27 rfl ((evt za 54).trans (optVal (zc.dep 5 54 (by kernel_rfl)) rfl zβ)) (zc.kn.ev rfl) ⟨_, rfl, Below.refl _ _, optDef zβ rfl⟩
     refine ⟨⟨true, .none rfl, fun h w => optUndef h, fun zβ za zw zc => ?_⟩, ?_⟩
     ·exact wp_and rfl ((evt za 53).trans (optVal (zc.dep 4 53 (by kernel_rfl)) rfl rfl)) (fun hp => ((evt za 55).trans (optVal (zc.dep 6 55 (by kernel_rfl)) rfl (bMk zβ hp)))) ⟨_, rfl, Below.refl _ _, optDef zβ rfl⟩
     exact trivial
    ·intro za w34 zh hb35 zu
     have zh := zh.cons (d := 56) (v := .bool (((decide ((((x.1 : Nat) : Int) : Int) < (((l.length : Nat) : Int) : Int))) && true))) (optVal (zu 7 56 (by kernel_rfl)) rfl rfl)
     clear zu
     refine WE.go zh ?_
     refine WE.next ?_
     refine WC.cond rfl (fun h36 => ?_) (fun h36 => ?_)
     ·have h36 : ((((x.1 : Nat) : Int) : Int) < (((l.length : Nat) : Int) : Int)) ∧ (true = true) := by simpa using h36
      refine WC.skip (WE.next (WC.seq (WC.block (WC.seq (WC.region (WL.mv rfl rfl rfl rfl rfl (WL.mv rfl rfl rfl rfl rfl ?_)))))))
      refine WL.val _ rfl rfl rfl (fun za zC zh zk => ix_48 (k := x.1) rfl (zh.ev rfl) (hla x.1 (by first | omega | (simp; omega))) (zh.ev rfl) (by first | omega | (simp; omega)) zk) ?_
      have hb37 : Below w.heap.size w w34 := (bstep hb31 hb35)
      refine WL.val _ rfl rfl rfl (fun za zC zh zk => ld_55 rfl (zh.ev rfl) (bkeeps hb37 _ _ (hlc x.1 (by first | omega | (simp; omega))).1) (bkeeps hb37 _ _ (hlc x.1 (by first | omega | (simp; omega))).2.1) (bkeeps hb37 _ _ (hlc x.1 (by first | omega | (simp; omega))).2.2.1) (bkeeps hb37 _ _ (hlc x.1 (by first | omega | (simp; omega))).2.2.2.1) (bkeeps hb37 _ _ (hlc x.1 (by first | omega | (simp; omega))).2.2.2.2.1) (bkeeps hb37 _ _ (hlc x.1 (by first | omega | (simp; omega))).2.2.2.2.2.1) zk) ?_
      refine WL.step (post := NewBlk w34 55 #[.int .i64 0, .int .i64 0, .slice none 0 0, .int .i64 0, .int .i64 0, .slice none 0 0]) rfl rfl rfl (fun za zC zh zk => alloc_55 rfl (zk _ _ (newBlk _ _ _))) ?_
      rintro _ w38 ⟨g39, rfl, hg40, hB41, hb42, hz43⟩
      have hl44 : g2 < g39 := by have z1 := hB32.lt; have z2 := (hb35).size; omega
      have hl45 : w.heap.size ≤ g39 := by have z2 := (hb37).size; omega
      have hl46 : w28.heap.size ≤ g39 := by have z2 := (hb35).size; omega
      refine WL.step (post := fun _ w' => Upd g39 w38 w' ∧ Blk w' g39 55 #[.int .i64 ((kget l x.1).act), .int .i64 ((kget l x.1).t.f), .slice ((A9 x.1)) ((kget l x.1).t.args.length) ((C9 x.1)), .int .i64 ((kget l x.1).n), .int .i64 ((kget l x.1).m), .slice ((PA x.1)) ((kget l x.1).p.length) ((PC x.1))]) rfl rfl rfl (fun za zC zh zk => st_55 rfl (zh.ev rfl) (zh.ev rfl) rfl rfl rfl rfl rfl rfl hB41 (by first | decide | simp) (fun v => zk v _ ⟨(((((Upd.at_ _ _ _ _).trans (Upd.at_ _ _ _ _)).trans (Upd.at_ _ _ _ _)).trans (Upd.at_ _ _ _ _)).trans (Upd.at_ _ _ _ _)).trans (Upd.at_ _ _ _ _), (((((hB41.set_ 0 _).set_ 1 _).set_ 2 _).set_ 3 _).set_ 4 _).set_ 5 _⟩)) ?_
      rintro v50 w47 ⟨hu48, hB49⟩
      have hb51 : Below w.heap.size w w38 := (bstep hb37 hb42)
      have hb52 : Below w28.heap.size w28 w38 := (bstep hb35 hb42)
      have hb53 := upd_below hb51 hu48 (by omega)
      have hb54 := upd_below hb52 hu48 (by omega)
      have hB55 := hB32.below hb52
      have hB56 := upd_blk hB55 hu48 (by omega)
      refine WL.nil (WE.next (WC.seq (WC.seq (WC.region ?_))))
      refine WL.val _ rfl rfl rfl (fun za zC zh zk => fld_55_0 rfl (zh.ev rfl) zk) ?_
      refine WL.val _ rfl rfl rfl (fun za zC zh zk => ld_3 rfl (zh.ev rfl) ((hB49.cell 0).trans rfl) zk) ?_
      refine WL.nil (WE.next (WC.block (WC.seq (WC.region ?_))))
      refine WL.val (.bool ((((kget l x.1).act : Int) == (0 : Int)))) rfl rfl rfl (fun za zC zh zk => eql_3 rfl (zh.ev rfl) (zh.ev rfl) zk) ?_
      refine WL.asg rfl rfl rfl rfl rfl (WL.nil (WE.next ?_))
      refine WC.cond rfl (fun h57 => ?_) (fun h57 => ?_)
      ·have h57 : ((kget l x.1).act : Int) = (0 : Int) := by simpa using h57
       refine WC.seq (WC.region ?_)
       refine WL.val _ rfl rfl rfl (fun za zC zh zk => fld_55_1 rfl (zh.ev rfl) zk) ?_
       refine WL.val _ rfl rfl rfl (fun za zC zh zk => ld_35 rfl (zh.ev rfl) ((hB49.cell 1).trans rfl) ((hB49.cell 2).trans rfl) zk) ?_
       have hl61 : g2 < w47.heap.size := by have z1 := hB56.lt; omega
       have hl62 : g39 < w47.heap.size := by have z1 := hB49.lt; omega
       have hl63 : w.heap.size ≤ w47.heap.size := (hb53).size
       have hl64 : w28.heap.size ≤ w47.heap.size := (hb54).size
       refine WL.call rfl rfl rfl (fun za zh zC => wp_call (by kernel_rfl) rfl (hv1 (zh.ev rfl))) (rcopy_any (kget l x.1).t _ _ (by have z := (hlc x.1 (by omega)).2.2.2.2.2.2.2.2.2.1; omega) (IsT.below hb53 (hlc x.1 (by first | omega | (simp; omega))).2.2.2.2.2.2.1)) ?_
       rintro v58 w65 ⟨hn59, hb60⟩
       obtain ⟨_, a66, c67, rfl, _, _, _⟩ := hn59.form
       refine WL.step (post := NewBlk w65 35 #[.int .i64 0, .slice none 0 0]) rfl rfl rfl (fun za zC zh zk => alloc_35 rfl (zk _ _ (newBlk _ _ _))) ?_
       rintro _ w68 ⟨g69, rfl, hg70, hB71, hb72, hz73⟩
       have hl74 : g2 < g69 := by have z1 := hB56.lt; have z2 := (hb60).size; omega
       have hl75 : g39 < g69 := by have z1 := hB49.lt; have z2 := (hb60).size; omega
       have hb76 : Below w.heap.size w w65 := (bstep hb53 hb60)
       have hl77 : w.heap.size ≤ g69 := by have z2 := (hb76).size; omega
       have hb78 : Below w28.heap.size w28 w65 := (bstep hb54 hb60)
       have hl79 : w28.heap.size ≤ g69 := by have z2 := (hb78).size; omega
       have hl80 : w65.heap.size ≤ g69 := by omega
       refine WL.step (post := fun _ w' => Upd g69 w68 w' ∧ Blk w' g69 35 #[.int .i64 (((kget l x.1).t).f), .slice a66 (((kget l x.1).t).args.length) c67]) rfl rfl rfl (fun za zC zh zk => st_35 rfl (zh.ev rfl) (zh.ev rfl) rfl rfl hB71 (by first | decide | simp) (fun v => zk v _ ⟨(Upd.at_ _ _ _ _).trans (Upd.at_ _ _ _ _), (hB71.set_ 0 _).set_ 1 _⟩)) ?_
       rintro v84 w81 ⟨hu82, hB83⟩
       have hb85 : Below w.heap.size w w68 := (bstep hb76 hb72)
       have hb86 : Below w28.heap.size w28 w68 := (bstep hb78 hb72)
       have hb87 := upd_below hb85 hu82 (by omega)
       have hb88 := upd_below hb86 hu82 (by omega)
       have hb89 := upd_below hb72 hu82 (by omega)
       have hb91 : Below w47.heap.size w47 w68 := (bstep hb60 hb72)
       have hB90 := hB56.below hb91
       have hB92 := upd_blk hB90 hu82 (by omega)
       have hB93 := hB49.below hb91
       have hB94 := upd_blk hB93 hu82 (by omega)
       refine WL.nil (WE.next (WC.seq (WC.region (WL.mv rfl rfl rfl rfl rfl ?_))))
       refine WL.val _ rfl rfl rfl (fun za zC zh zk => ld_35 rfl (zh.ev rfl) ((hB83.cell 0).trans rfl) ((hB83.cell 1).trans rfl) zk) ?_
       have ho95 := hn59.below hb89
       have hmi : w28.heap.size ≤ w47.heap.size := hb54.size
       have hl96 := hB92.lt
       have hl97 := hB94.lt
       have hl98 := hB83.lt
       have ho99 := hK.below hb88
       have ho100 := hR.below hb88
       have hs01 : w28.heap.size ≤ w81.heap.size := hb88.size
       refine WL.call rfl rfl rfl (fun za zh zC => wp_call (by kernel_rfl) rfl (hv2 (zh.ev rfl) (zh.ev rfl))) (bPut_any gk18 sg (kget l x.1).t x.2 Y (fun b => w47.heap.size ≤ b ∧ b < w81.heap.size) _ _ (by have z := (hlc x.1 (by omega)).2.2.2.2.2.2.2.2.2.1; omega) (by omega) ho99 (InT.mono (fun b q hlt => ⟨q, hlt⟩) ho95) (fun b q => ⟨fun k => by have z := hYl b k; omega, q.2⟩)) ?_
       rintro _ w105 ⟨rfl, ⟨Y101, hK102, hZ103⟩, hc104⟩
       have hb106 := chg_below hb87 hc104 (fun b q k => by have z := hYB b k; omega)
       have ho107 := RbS.chg ho100 hc104 (fun b q k => hYR b k q)
       have ho108 : NewT w47 w105 ((kget l x.1).t) (.agg #[.int .i64 (((kget l x.1).t).f), .slice a66 (((kget l x.1).t).args.length) c67]) := InT.chg ho95 hc104 (fun b q k => by have z := hYl b k; omega)
       have hB109 := chg_blk hB92 hc104 (fun k => by have z := hYl _ k; have z2 := hYB _ k; omega)
       have hB110 := chg_blk hB94 hc104 (fun k => by have z := hYl _ k; have z2 := hYB _ k; omega)
       have hB111 := chg_blk hB83 hc104 (fun k => by have z := hYl _ k; have z2 := hYB _ k; omega)
       refine WL.mv rfl rfl rfl rfl rfl ?_
       refine WL.val (.int .i64 ((bputV sg x.2 (kget l x.1).t))) rfl rfl rfl (fun za zC zh zk => ext2_0 rfl (zh.ev rfl) zk) ?_
       refine WL.val (.int .i64 ((chkI sg (kget l x.1).t))) rfl rfl rfl (fun za zC zh zk => ext2_1 rfl (zh.ev rfl) zk) ?_
       refine WL.asg rfl rfl rfl rfl rfl (WL.asg rfl rfl rfl rfl rfl ?_)
       refine WL.nil (WE.sub (K' := [(0, .agg #[.slice sa sg.length sc]), (1, .slice a l.length c), (2, .pointer (some ⟨g2, 0, none⟩)), (5, .pointer (some ⟨gk18, 0, none⟩)), (6, .int .i64 0), (7, .pointer (some ⟨gr24, 0, none⟩)), (8, .int .i64 0), (9, .int .i64 (((x.1 : Nat) : Int))), (10, .pointer (some ⟨g39, 0, none⟩)), (11, .pointer (some ⟨g69, 0, none⟩)), (12, .int .i64 ((bputV sg x.2 (kget l x.1).t))), (13, .int .i64 ((chkI sg (kget l x.1).t))), (26, .bool ((decide ((100 : Int) < (((l.length : Nat) : Int) : Int))))), (48, .bool ((false != false))), (56, .bool (((decide ((((x.1 : Nat) : Int) : Int) < (((l.length : Nat) : Int) : Int))) && true))), (64, .int .i64 ((kget l x.1).act)), (65, .bool ((((kget l x.1).act : Int) == (0 : Int))))]) ⟨rfl, rfl, rfl, rfl, rfl, rfl, rfl, rfl, rfl, rfl, rfl, rfl, rfl, rfl, rfl, rfl, rfl, trivial⟩ ?_)
       refine WE.next (WC.seq (WC.region (WL.mv rfl rfl rfl rfl rfl ?_)))
       refine WL.val _ rfl rfl rfl (fun za zC zh zk => fld_55_1 rfl (zh.ev rfl) zk) ?_
       refine WL.val _ rfl rfl rfl (fun za zC zh zk => ld_35 rfl (zh.ev rfl) ((hB110.cell 1).trans rfl) ((hB110.cell 2).trans rfl) zk) ?_
       have hww : w.heap.size ≤ w105.heap.size := hb106.size
       have hl112 := hB109.lt
       have hl113 := hB110.lt
       have hl114 := hB111.lt
       have hs119 : w28.heap.size ≤ w105.heap.size := (Nat.le_trans hb88.size hc104.size)
       have hs12 : w81.heap.size ≤ w105.heap.size := hc104.size
       have h8l : ∀ b, Y101 b → b < w105.heap.size := BkS.lt hK102
       refine WL.call rfl rfl rfl (fun za zh zC => wp_call (by kernel_rfl) rfl (hv2 (zh.ev rfl) (zh.ev rfl))) (rbPut_any gr24 sg (kget l x.1).t x.2 Yr (fun b => b < w.heap.size) _ _ (by have z := (hlc x.1 (by omega)).2.2.2.2.2.2.2.2.2.1; omega) (by omega) ho107 (InT.below hb106 (IsT.inT (hlc x.1 (by first | omega | (simp; omega))).2.2.2.2.2.2.1)) (fun b q => ⟨fun k => by have z := hRB b k; omega, by omega⟩)) ?_
       rintro _ w120 ⟨rfl, ⟨Y115, hK116, hZ117⟩, hc118⟩
       have hb121 := chg_below hb106 hc118 (fun b q k => by have z := hRB b k; omega)
       have ho122 := BkS.chg hK102 hc118 (fun b q k => by rcases hZ103 b q with z | z; exact hYR b z k; (have z2 := hRl b k; omega))
       have ho123 : NewT w47 w120 ((kget l x.1).t) (.agg #[.int .i64 (((kget l x.1).t).f), .slice a66 (((kget l x.1).t).args.length) c67]) := InT.chg ho108 hc118 (fun b q k => by have z := hRl b k; omega)
       have hB124 := chg_blk hB109 hc118 (fun k => by have z := hRl _ k; have z2 := hRB _ k; omega)
       have hB125 := chg_blk hB110 hc118 (fun k => by have z := hRl _ k; have z2 := hRB _ k; omega)
       have hB126 := chg_blk hB111 hc118 (fun k => by have z := hRl _ k; have z2 := hRB _ k; omega)
       refine WL.mv rfl rfl rfl rfl rfl ?_
       refine WL.val (.int .i64 ((bputV sg x.2 (kget l x.1).t))) rfl rfl rfl (fun za zC zh zk => ext2_0 rfl (zh.ev rfl) zk) ?_
       refine WL.val (.int .i64 ((chkI sg (kget l x.1).t))) rfl rfl rfl (fun za zC zh zk => ext2_1 rfl (zh.ev rfl) zk) ?_
       refine WL.asg rfl rfl rfl rfl rfl (WL.asg rfl rfl rfl rfl rfl (WL.nil (WE.next (WC.seq ?_))))
       refine WC.opt [(true, .val (.int .i64 ((bputV sg x.2 (kget l x.1).t)))), (true, .val (.int .i64 ((bputV sg x.2 (kget l x.1).t)))), (true, .val (.bool ((((bputV sg x.2 (kget l x.1).t) : Int) != ((bputV sg x.2 (kget l x.1).t) : Int))))), (true, .val (.bool ((((bputV sg x.2 (kget l x.1).t) : Int) != ((bputV sg x.2 (kget l x.1).t) : Int))))), ((true && !(((bputV sg x.2 (kget l x.1).t) : Int) != ((bputV sg x.2 (kget l x.1).t) : Int))), .val (.int .i64 ((chkI sg (kget l x.1).t)))), ((true && !(((bputV sg x.2 (kget l x.1).t) : Int) != ((bputV sg x.2 (kget l x.1).t) : Int))), .val (.int .i64 ((chkI sg (kget l x.1).t)))), ((true && !(((bputV sg x.2 (kget l x.1).t) : Int) != ((bputV sg x.2 (kget l x.1).t) : Int))), .val (.bool ((((chkI sg (kget l x.1).t) : Int) != ((chkI sg (kget l x.1).t) : Int))))), (true, .val (.bool (((((bputV sg x.2 (kget l x.1).t) : Int) != ((bputV sg x.2 (kget l x.1).t) : Int)) || (((chkI sg (kget l x.1).t) : Int) != ((chkI sg (kget l x.1).t) : Int)))))), (true, .val (.bool (((((bputV sg x.2 (kget l x.1).t) : Int) != ((bputV sg x.2 (kget l x.1).t) : Int)) || (((chkI sg (kget l x.1).t) : Int) != ((chkI sg (kget l x.1).t) : Int)))))), ((true && !((((bputV sg x.2 (kget l x.1).t) : Int) != ((bputV sg x.2 (kget l x.1).t) : Int)) || (((chkI sg (kget l x.1).t) : Int) != ((chkI sg (kget l x.1).t) : Int)))), .val (.agg #[.int .i64 (((kget l x.1).t).f), .slice a66 (((kget l x.1).t).args.length) c67])), ((true && !((((bputV sg x.2 (kget l x.1).t) : Int) != ((bputV sg x.2 (kget l x.1).t) : Int)) || (((chkI sg (kget l x.1).t) : Int) != ((chkI sg (kget l x.1).t) : Int)))), .val (.pointer (some ⟨g39, 1, none⟩))), ((true && !((((bputV sg x.2 (kget l x.1).t) : Int) != ((bputV sg x.2 (kget l x.1).t) : Int)) || (((chkI sg (kget l x.1).t) : Int) != ((chkI sg (kget l x.1).t) : Int)))), .val (.agg #[.int .i64 ((kget l x.1).t.f), .slice ((A9 x.1)) ((kget l x.1).t.args.length) ((C9 x.1))])), ((true && !((((bputV sg x.2 (kget l x.1).t) : Int) != ((bputV sg x.2 (kget l x.1).t) : Int)) || (((chkI sg (kget l x.1).t) : Int) != ((chkI sg (kget l x.1).t) : Int)))), .val (.bool ((T.same (kget l x.1).t (kget l x.1).t)))), ((true && !((((bputV sg x.2 (kget l x.1).t) : Int) != ((bputV sg x.2 (kget l x.1).t) : Int)) || (((chkI sg (kget l x.1).t) : Int) != ((chkI sg (kget l x.1).t) : Int)))), .val (.bool ((!(T.same (kget l x.1).t (kget l x.1).t))))), (true, .val (.bool ((((((bputV sg x.2 (kget l x.1).t) : Int) != ((bputV sg x.2 (kget l x.1).t) : Int)) || (((chkI sg (kget l x.1).t) : Int) != ((chkI sg (kget l x.1).t) : Int))) || (!(T.same (kget l x.1).t (kget l x.1).t))))))] [(0, .agg #[.slice sa sg.length sc]), (1, .slice a l.length c), (2, .pointer (some ⟨g2, 0, none⟩)), (5, .pointer (some ⟨gk18, 0, none⟩)), (6, .int .i64 0), (7, .pointer (some ⟨gr24, 0, none⟩)), (8, .int .i64 0), (9, .int .i64 (((x.1 : Nat) : Int))), (10, .pointer (some ⟨g39, 0, none⟩)), (11, .pointer (some ⟨g69, 0, none⟩)), (12, .int .i64 ((bputV sg x.2 (kget l x.1).t))), (13, .int .i64 ((chkI sg (kget l x.1).t))), (14, .int .i64 ((bputV sg x.2 (kget l x.1).t))), (15, .int .i64 ((chkI sg (kget l x.1).t))), (26, .bool ((decide ((100 : Int) < (((l.length : Nat) : Int) : Int))))), (48, .bool ((false != false))), (56, .bool (((decide ((((x.1 : Nat) : Int) : Int) < (((l.length : Nat) : Int) : Int))) && true))), (64, .int .i64 ((kget l x.1).act)), (65, .bool ((((kget l x.1).act : Int) == (0 : Int))))] ⟨rfl, rfl, rfl, rfl, rfl, rfl, rfl, rfl, rfl, rfl, rfl, rfl, rfl, rfl, rfl, rfl, rfl, rfl, rfl, trivial⟩ (by kernel_rfl) (by kernel_rfl) (by kernel_rfl) ?_ ?_
       ·refine ⟨⟨true, .none rfl, fun h w => optUndef h, fun zβ za zw zc => ?_⟩, ?_⟩
        ·exact wp_move rfl (zc.kn.ev rfl) ⟨_, rfl, Below.refl _ _, optDef zβ rfl⟩
        refine ⟨⟨true, .none rfl, fun h w => optUndef h, fun zβ za zw zc => ?_⟩, ?_⟩
        ·exact wp_move rfl (zc.kn.ev rfl) ⟨_, rfl, Below.refl _ _, optDef zβ rfl⟩
        refine ⟨⟨true, .none rfl, fun h w => optUndef h, fun zβ za zw zc => ?_⟩, ?_⟩
        ·exact neq_3 rfl ((evt za 83).trans (optVal (zc.dep 0 83 (by kernel_rfl)) rfl rfl)) ((evt za 84).trans (optVal (zc.dep 1 84 (by kernel_rfl)) rfl rfl)) ⟨_, rfl, Below.refl _ _, optDef zβ rfl⟩
        refine ⟨⟨true, .none rfl, fun h w => optUndef h, fun zβ za zw zc => ?_⟩, ?_⟩
        ·exact wp_move rfl ((evt za 85).trans (optVal (zc.dep 2 85 (by kernel_rfl)) rfl rfl)) ⟨_, rfl, Below.refl _ _, optDef zβ rfl⟩
        refine ⟨⟨_, .no (d := true) rfl (fun v w h => h), fun h w => optUndef h, fun zβ za zw zc => ?_⟩, ?_⟩
        ·exact wp_move rfl (zc.kn.ev rfl) ⟨_, rfl, Below.refl _ _, optDef zβ rfl⟩
        refine ⟨⟨_, .no (d := true) rfl (fun v w h => h), fun h w => optUndef h, fun zβ za zw zc => ?_⟩, ?_⟩
        ·exact wp_move rfl (zc.kn.ev rfl) ⟨_, rfl, Below.refl _ _, optDef zβ rfl⟩
        refine ⟨⟨_, .no (d := true) rfl (fun v w h => h), fun h w => optUndef h, fun zβ za zw zc => ?_⟩, ?_⟩
        ·exact neq_27 rfl ((evt za 87).trans (optVal (zc.dep 4 87 (by kernel_rfl)) rfl zβ)) ((evt za 88).trans (optVal (zc.dep 5 88 (by kernel_rfl)) rfl zβ)) ⟨_, rfl, Below.refl _ _, optDef zβ rfl⟩
        refine ⟨⟨true, .none rfl, fun h w => optUndef h, fun zβ za zw zc => ?_⟩, ?_⟩
        ·exact wp_or rfl ((evt za 86).trans (optVal (zc.dep 3 86 (by kernel_rfl)) rfl rfl)) (fun hp => ((evt za 89).trans (optVal (zc.dep 6 89 (by kernel_rfl)) rfl (bMkN zβ hp)))) ⟨_, rfl, Below.refl _ _, optDef zβ rfl⟩
        refine ⟨⟨true, .none rfl, fun h w => optUndef h, fun zβ za zw zc => ?_⟩, ?_⟩
        ·exact wp_move rfl ((evt za 90).trans (optVal (zc.dep 7 90 (by kernel_rfl)) rfl rfl)) ⟨_, rfl, Below.refl _ _, optDef zβ rfl⟩
        refine ⟨⟨_, .no (d := true) rfl (fun v w h => h), fun h w => optUndef h, fun zβ za zw zc => ?_⟩, ?_⟩
        ·exact ld_35 rfl (zc.kn.ev rfl) (bkeeps zc.below _ _ ((hB126.cell 0).trans rfl)) (bkeeps zc.below _ _ ((hB126.cell 1).trans rfl)) ⟨_, rfl, Below.refl _ _, optDef zβ rfl⟩
        refine ⟨⟨_, .no (d := true) rfl (fun v w h => h), fun h w => optUndef h, fun zβ za zw zc => ?_⟩, ?_⟩
        ·exact fld_55_1 rfl (zc.kn.ev rfl) ⟨_, rfl, Below.refl _ _, optDef zβ rfl⟩
        refine ⟨⟨_, .no (d := true) rfl (fun v w h => h), fun h w => optUndef h, fun zβ za zw zc => ?_⟩, ?_⟩
        ·exact ld_35 rfl ((evt za 93).trans (optVal (zc.dep 10 93 (by kernel_rfl)) rfl zβ)) (bkeeps zc.below _ _ ((hB125.cell 1).trans rfl)) (bkeeps zc.below _ _ ((hB125.cell 2).trans rfl)) ⟨_, rfl, Below.refl _ _, optDef zβ rfl⟩
        refine ⟨⟨_, .no (d := true) rfl (fun v w h => h), fun h w => optUndef h, fun zβ za zw zc => ?_⟩, ?_⟩
        ·exact wp_call (by kernel_rfl) rfl (hv2 ((evt za 92).trans (optVal (zc.dep 9 92 (by kernel_rfl)) rfl zβ)) ((evt za 94).trans (optVal (zc.dep 11 94 (by kernel_rfl)) rfl zβ))) (ret_of (rsame_any (kget l x.1).t (kget l x.1).t _ _ _ (IsT.below zc.below (InT.isT ho123)) (IsT.below (bstep hb121 zc.below) (hlc x.1 (by first | omega | (have zz := zβ; simp only [Bool.and_eq_true, Bool.or_eq_true, Bool.true_and, Bool.not_eq_true', Bool.or_eq_false_iff, Bool.and_eq_false_iff, beq_eq_false_iff_ne, ne_eq, beq_iff_eq, decide_eq_true_eq, decide_eq_false_iff_not, bne_iff_ne, bne_eq_false_iff_eq] at zz; omega))).2.2.2.2.2.2.1))) (fun v w' h => ⟨v, rfl, h.2, optDef zβ h.1⟩)
        refine ⟨⟨_, .no (d := true) rfl (fun v w h => h), fun h w => optUndef h, fun zβ za zw zc => ?_⟩, ?_⟩
        ·exact wp_not rfl ((evt za 95).trans (optVal (zc.dep 12 95 (by kernel_rfl)) rfl zβ)) ⟨_, rfl, Below.refl _ _, optDef zβ rfl⟩
        refine ⟨⟨true, .none rfl, fun h w => optUndef h, fun zβ za zw zc => ?_⟩, ?_⟩
        ·exact wp_or rfl ((evt za 91).trans (optVal (zc.dep 8 91 (by kernel_rfl)) rfl rfl)) (fun hp => ((evt za 96).trans (optVal (zc.dep 13 96 (by kernel_rfl)) rfl (bMkN zβ hp)))) ⟨_, rfl, Below.refl _ _, optDef zβ rfl⟩
        exact trivial
       ·intro za w127 zh hb128 zu
        have zh := zh.cons (d := 97) (v := .bool ((((((bputV sg x.2 (kget l x.1).t) : Int) != ((bputV sg x.2 (kget l x.1).t) : Int)) || (((chkI sg (kget l x.1).t) : Int) != ((chkI sg (kget l x.1).t) : Int))) || (!(T.same (kget l x.1).t (kget l x.1).t))))) (optVal (zu 14 97 (by kernel_rfl)) rfl rfl)
        clear zu
        refine WE.go zh ?_
        refine WE.next ?_
        refine WC.condF rfl ((by simp [T.same_refl])) ?_
        refine WC.skip (WE.blockNormal (WE.next (WC.seq ?_)))
        have ho129 := hK116.below hb128
        have ho131 := ho122.below hb128
        obtain ⟨So130, sao130, sco130, tao130, tco130, hOo130⟩ := id ho129
        have hJo130 : BkSJ w127 0 gk18 sg (bputI sg x.2 (kget l x.1).t) (fun _ => False) := ⟨_, ho131, fun _ _ => Nat.zero_le _, fun _ q => q.elim⟩
        refine WC.opt [(true, .val (.pointer (some ⟨gk18, 0, none⟩))), (true, .val (.int .i64 (((((bputI sg x.2 (kget l x.1).t)).length : Nat) : Int)))), (true, .val (.pointer (some ⟨gr24, 0, none⟩))), (true, .val (.pointer (some ⟨gr24, 0, none⟩))), (true, .val (.pointer (some ⟨gr24, 1, none⟩))), (true, .val (.slice tao130 (((bputI sg x.2 (kget l x.1).t)).length) tco130)), (true, .val (.int .i64 (((((bputI sg x.2 (kget l x.1).t)).length : Nat) : Int)))), (true, .val (.bool (((((((bputI sg x.2 (kget l x.1).t)).length : Nat) : Int) : Int) != (((((bputI sg x.2 (kget l x.1).t)).length : Nat) : Int) : Int)))))] [(0, .agg #[.slice sa sg.length sc]), (1, .slice a l.length c), (2, .pointer (some ⟨g2, 0, none⟩)), (5, .pointer (some ⟨gk18, 0, none⟩)), (6, .int .i64 0), (7, .pointer (some ⟨gr24, 0, none⟩)), (8, .int .i64 0), (9, .int .i64 (((x.1 : Nat) : Int))), (10, .pointer (some ⟨g39, 0, none⟩)), (11, .pointer (some ⟨g69, 0, none⟩)), (12, .int .i64 ((bputV sg x.2 (kget l x.1).t))), (13, .int .i64 ((chkI sg (kget l x.1).t))), (14, .int .i64 ((bputV sg x.2 (kget l x.1).t))), (15, .int .i64 ((chkI sg (kget l x.1).t))), (26, .bool ((decide ((100 : Int) < (((l.length : Nat) : Int) : Int))))), (48, .bool ((false != false))), (56, .bool (((decide ((((x.1 : Nat) : Int) : Int) < (((l.length : Nat) : Int) : Int))) && true))), (64, .int .i64 ((kget l x.1).act)), (65, .bool ((((kget l x.1).act : Int) == (0 : Int)))), (97, .bool ((((((bputV sg x.2 (kget l x.1).t) : Int) != ((bputV sg x.2 (kget l x.1).t) : Int)) || (((chkI sg (kget l x.1).t) : Int) != ((chkI sg (kget l x.1).t) : Int))) || (!(T.same (kget l x.1).t (kget l x.1).t)))))] ⟨rfl, rfl, rfl, rfl, rfl, rfl, rfl, rfl, rfl, rfl, rfl, rfl, rfl, rfl, rfl, rfl, rfl, rfl, rfl, rfl, trivial⟩ (by kernel_rfl) (by kernel_rfl) (by kernel_rfl) ?_ ?_
        ·refine ⟨⟨true, .none rfl, fun h w => optUndef h, fun zβ za zw zc => ?_⟩, ?_⟩
         ·exact wp_move rfl (zc.kn.ev rfl) ⟨_, rfl, Below.refl _ _, optDef zβ rfl⟩
         refine ⟨⟨true, .none rfl, fun h w => optUndef h, fun zβ za zw zc => ?_⟩, ?_⟩
         ·exact wp_call (by kernel_rfl) rfl (hv1 ((evt za 163).trans (optVal (zc.dep 0 163 (by kernel_rfl)) rfl rfl))) (jLen (BkSJ.below hJo130 zc.below)) (fun v w' h => ⟨v, rfl, h.2, optDef zβ h.1⟩)
         refine ⟨⟨true, .none rfl, fun h w => optUndef h, fun zβ za zw zc => ?_⟩, ?_⟩
         ·exact wp_move rfl (zc.kn.ev rfl) ⟨_, rfl, Below.refl _ _, optDef zβ rfl⟩
         refine ⟨⟨true, .none rfl, fun h w => optUndef h, fun zβ za zw zc => ?_⟩, ?_⟩
         ·exact nilCheck_ rfl ((evt za 165).trans (optVal (zc.dep 2 165 (by kernel_rfl)) rfl rfl)) ⟨_, rfl, Below.refl _ _, optDef zβ rfl⟩
         refine ⟨⟨true, .none rfl, fun h w => optUndef h, fun zβ za zw zc => ?_⟩, ?_⟩
         ·exact fld_60_1 rfl ((evt za 166).trans (optVal (zc.dep 3 166 (by kernel_rfl)) rfl rfl)) ⟨_, rfl, Below.refl _ _, optDef zβ rfl⟩
         refine ⟨⟨true, .none rfl, fun h w => optUndef h, fun zβ za zw zc => ?_⟩, ?_⟩
         ·exact ld_25 rfl ((evt za 167).trans (optVal (zc.dep 4 167 (by kernel_rfl)) rfl rfl)) (bkeeps zc.below _ _ hOo130.c1) ⟨_, rfl, Below.refl _ _, optDef zβ rfl⟩
         refine ⟨⟨true, .none rfl, fun h w => optUndef h, fun zβ za zw zc => ?_⟩, ?_⟩
         ·exact len_25 rfl ((evt za 168).trans (optVal (zc.dep 5 168 (by kernel_rfl)) rfl rfl)) ⟨_, rfl, Below.refl _ _, optDef zβ rfl⟩
         refine ⟨⟨true, .none rfl, fun h w => optUndef h, fun zβ za zw zc => ?_⟩, ?_⟩
         ·exact neq_3 rfl ((evt za 164).trans (optVal (zc.dep 1 164 (by kernel_rfl)) rfl rfl)) ((evt za 169).trans (optVal (zc.dep 6 169 (by kernel_rfl)) rfl rfl)) ⟨_, rfl, Below.refl _ _, optDef zβ rfl⟩
         exact trivial
        ·intro za w132 zh hb133 zu
         have zh := zh.cons (d := 170) (v := .bool (((((((bputI sg x.2 (kget l x.1).t)).length : Nat) : Int) : Int) != (((((bputI sg x.2 (kget l x.1).t)).length : Nat) : Int) : Int)))) (optVal (zu 7 170 (by kernel_rfl)) rfl rfl)
         clear zu
         refine WE.go zh ?_
         refine WE.next ?_
         refine WC.condF rfl ((by simp)) ?_
         refine WC.skip (WE.blockNormal (WE.next (WC.region (WL.mv rfl rfl rfl rfl rfl ?_))))
         refine WL.val (.int .i64 ((((x.1 + 1) : Nat) : Int))) rfl rfl rfl (fun za zC zh zk => addb_3 rfl (zh.ev rfl) (zh.ev rfl) (wrap_eq (by omega) (by omega) (by omega)) zk) ?_
         refine WL.asg rfl rfl rfl rfl rfl (WL.nil ?_)
         refine WE.round ((x.1 + 1, (bputI sg x.2 (kget l x.1).t))) ⟨rfl, rfl, rfl, rfl, rfl, rfl, rfl, rfl, rfl, rfl, trivial⟩ ?_ ?_
         ·have hb134 : Below w.heap.size w w132 := (bstep (bstep hb121 hb128) hb133)
          have hb136 : Below w120.heap.size w120 w132 := (bstep hb128 hb133)
          have hB135 := hB124.below hb136
          have ho138 := ho131.below hb133
          have ho139 := ho129.below hb133
          have hbb137 : BothB w132 w15.heap.size gk18 gr24 sg ((bputI sg x.2 (kget l x.1).t)) := BothB.next ho138 ho139 hYB hRB hYl hRl hYR hZ103 h8l hZ117 hs01 hs12 hB0
          exact ⟨(by (try dsimp only); omega), (by (try dsimp only); have z := bputI_len (sg := sg) (t := (kget l x.1).t) hok; omega), hb134, hB135, hbb137⟩
         ·(try dsimp only); omega
      ·have h57 : ¬ (((kget l x.1).act : Int) = (0 : Int)) := by simpa using h57
       refine WC.seq (WC.seq (WC.region ?_))
       refine WL.val (.bool ((((kget l x.1).act : Int) == (1 : Int)))) rfl rfl rfl (fun za zC zh zk => eql_3 rfl (zh.ev rfl) (zh.ev rfl) zk) ?_
       refine WL.asg rfl rfl rfl rfl rfl (WL.nil (WE.next ?_))
       refine WC.cond rfl (fun h140 => ?_) (fun h140 => ?_)
       ·have h140 : ((kget l x.1).act : Int) = (1 : Int) := by simpa using h140
        refine WC.skip (WE.next ?_)
        refine WC.cond rfl (fun h141 => ?_) (fun h141 => ?_)
        ·have h141 : ((kget l x.1).act : Int) = (1 : Int) := by simpa using h141
         refine WC.seq (WC.region (WL.mv rfl rfl rfl rfl rfl (WL.mv rfl rfl rfl rfl rfl ?_)))
         refine WL.val _ rfl rfl rfl (fun za zC zh zk => fld_55_2 rfl (zh.ev rfl) zk) ?_
         refine WL.val _ rfl rfl rfl (fun za zC zh zk => ld_3 rfl (zh.ev rfl) ((hB49.cell 3).trans rfl) zk) ?_
         have ho142 := hK.below hb54
         have ho143 := hR.below hb54
         refine WL.call rfl rfl rfl (fun za zh zC => wp_call (by kernel_rfl) rfl (hv3 (zh.ev rfl) (zh.ev rfl) (zh.ev rfl))) (told_any gk18 gr24 sg x.2 Y Yr (kget l x.1).n _ (by omega) ho142 ho143) ?_
         rintro _ w145 ⟨rfl, hq144⟩
         refine WL.val (.bool false) rfl rfl rfl (fun za zC zh zk => wp_not rfl (zh.ev rfl) zk) ?_
         refine WL.nil (WE.next ?_)
         refine WC.condF rfl rfl ?_
         refine WC.skip (WE.blockNormal (WE.next (WC.seq ?_)))
         have ho146 := ho143.below hq144
         have ho148 := ho142.below hq144
         obtain ⟨So147, sao147, sco147, tao147, tco147, hOo147⟩ := id ho146
         have hJo147 : BkSJ w145 0 gk18 sg x.2 (fun _ => False) := ⟨_, ho148, fun _ _ => Nat.zero_le _, fun _ q => q.elim⟩
         refine WC.opt [(true, .val (.pointer (some ⟨gk18, 0, none⟩))), (true, .val (.int .i64 (((x.2.length : Nat) : Int)))), (true, .val (.pointer (some ⟨gr24, 0, none⟩))), (true, .val (.pointer (some ⟨gr24, 0, none⟩))), (true, .val (.pointer (some ⟨gr24, 1, none⟩))), (true, .val (.slice tao147 x.2.length tco147)), (true, .val (.int .i64 (((x.2.length : Nat) : Int)))), (true, .val (.bool (((((x.2.length : Nat) : Int) : Int) != (((x.2.length : Nat) : Int) : Int)))))] [(0, .agg #[.slice sa sg.length sc]), (1, .slice a l.length c), (2, .pointer (some ⟨g2, 0, none⟩)), (5, .pointer (some ⟨gk18, 0, none⟩)), (6, .int .i64 0), (7, .pointer (some ⟨gr24, 0, none⟩)), (8, .int .i64 0), (9, .int .i64 (((x.1 : Nat) : Int))), (10, .pointer (some ⟨g39, 0, none⟩)), (26, .bool ((decide ((100 : Int) < (((l.length : Nat) : Int) : Int))))), (48, .bool ((false != false))), (56, .bool (((decide ((((x.1 : Nat) : Int) : Int) < (((l.length : Nat) : Int) : Int))) && true))), (64, .int .i64 ((kget l x.1).act)), (65, .bool ((((kget l x.1).act : Int) == (0 : Int)))), (98, .bool ((((kget l x.1).act : Int) == (1 : Int)))), (106, .bool false)] ⟨rfl, rfl, rfl, rfl, rfl, rfl, rfl, rfl, rfl, rfl, rfl, rfl, rfl, rfl, rfl, rfl, trivial⟩ (by kernel_rfl) (by kernel_rfl) (by kernel_rfl) ?_ ?_
         ·refine ⟨⟨true, .none rfl, fun h w => optUndef h, fun zβ za zw zc => ?_⟩, ?_⟩
          ·exact wp_move rfl (zc.kn.ev rfl) ⟨_, rfl, Below.refl _ _, optDef zβ rfl⟩
          refine ⟨⟨true, .none rfl, fun h w => optUndef h, fun zβ za zw zc => ?_⟩, ?_⟩
          ·exact wp_call (by kernel_rfl) rfl (hv1 ((evt za 163).trans (optVal (zc.dep 0 163 (by kernel_rfl)) rfl rfl))) (jLen (BkSJ.below hJo147 zc.below)) (fun v w' h => ⟨v, rfl, h.2, optDef zβ h.1⟩)
          refine ⟨⟨true, .none rfl, fun h w => optUndef h, fun zβ za zw zc => ?_⟩, ?_⟩
          ·exact wp_move rfl (zc.kn.ev rfl) ⟨_, rfl, Below.refl _ _, optDef zβ rfl⟩
          refine ⟨⟨true, .none rfl, fun h w => optUndef h, fun zβ za zw zc => ?_⟩, ?_⟩
          ·exact nilCheck_ rfl ((evt za 165).trans (optVal (zc.dep 2 165 (by kernel_rfl)) rfl rfl)) ⟨_, rfl, Below.refl _ _, optDef zβ rfl⟩
          refine ⟨⟨true, .none rfl, fun h w => optUndef h, fun zβ za zw zc => ?_⟩, ?_⟩
          ·exact fld_60_1 rfl ((evt za 166).trans (optVal (zc.dep 3 166 (by kernel_rfl)) rfl rfl)) ⟨_, rfl, Below.refl _ _, optDef zβ rfl⟩
          refine ⟨⟨true, .none rfl, fun h w => optUndef h, fun zβ za zw zc => ?_⟩, ?_⟩
          ·exact ld_25 rfl ((evt za 167).trans (optVal (zc.dep 4 167 (by kernel_rfl)) rfl rfl)) (bkeeps zc.below _ _ hOo147.c1) ⟨_, rfl, Below.refl _ _, optDef zβ rfl⟩
          refine ⟨⟨true, .none rfl, fun h w => optUndef h, fun zβ za zw zc => ?_⟩, ?_⟩
          ·exact len_25 rfl ((evt za 168).trans (optVal (zc.dep 5 168 (by kernel_rfl)) rfl rfl)) ⟨_, rfl, Below.refl _ _, optDef zβ rfl⟩
          refine ⟨⟨true, .none rfl, fun h w => optUndef h, fun zβ za zw zc => ?_⟩, ?_⟩
          ·exact neq_3 rfl ((evt za 164).trans (optVal (zc.dep 1 164 (by kernel_rfl)) rfl rfl)) ((evt za 169).trans (optVal (zc.dep 6 169 (by kernel_rfl)) rfl rfl)) ⟨_, rfl, Below.refl _ _, optDef zβ rfl⟩
          exact trivial
         ·intro za w149 zh hb150 zu
          have zh := zh.cons (d := 170) (v := .bool (((((x.2.length : Nat) : Int) : Int) != (((x.2.length : Nat) : Int) : Int)))) (optVal (zu 7 170 (by kernel_rfl)) rfl rfl)
          clear zu
          refine WE.go zh ?_
          refine WE.next ?_
          refine WC.condF rfl ((by simp)) ?_
          refine WC.skip (WE.blockNormal (WE.next (WC.region (WL.mv rfl rfl rfl rfl rfl ?_))))
          refine WL.val (.int .i64 ((((x.1 + 1) : Nat) : Int))) rfl rfl rfl (fun za zC zh zk => addb_3 rfl (zh.ev rfl) (zh.ev rfl) (wrap_eq (by omega) (by omega) (by omega)) zk) ?_
          refine WL.asg rfl rfl rfl rfl rfl ?_
          refine WL.nil (WE.sub (K' := [(0, .agg #[.slice sa sg.length sc]), (1, .slice a l.length c), (2, .pointer (some ⟨g2, 0, none⟩)), (5, .pointer (some ⟨gk18, 0, none⟩)), (6, .int .i64 0), (7, .pointer (some ⟨gr24, 0, none⟩)), (8, .int .i64 0), (9, .int .i64 ((((x.1 + 1) : Nat) : Int))), (10, .pointer (some ⟨g39, 0, none⟩)), (26, .bool ((decide ((100 : Int) < (((l.length : Nat) : Int) : Int))))), (48, .bool ((false != false))), (56, .bool (((decide ((((x.1 : Nat) : Int) : Int) < (((l.length : Nat) : Int) : Int))) && true))), (64, .int .i64 ((kget l x.1).act)), (65, .bool ((((kget l x.1).act : Int) == (0 : Int)))), (98, .bool ((((kget l x.1).act : Int) == (1 : Int)))), (106, .bool false), (170, .bool (((((x.2.length : Nat) : Int) : Int) != (((x.2.length : Nat) : Int) : Int))))]) ⟨rfl, rfl, rfl, rfl, rfl, rfl, rfl, rfl, rfl, rfl, rfl, rfl, rfl, rfl, rfl, rfl, rfl, trivial⟩ ?_)
          refine WE.round ((x.1 + 1, x.2)) ⟨rfl, rfl, rfl, rfl, rfl, rfl, rfl, rfl, rfl, rfl, trivial⟩ ?_ ?_
          ·have hb151 : Below w.heap.size w w149 := (bstep (bstep hb53 hq144) hb150)
           have hb153 : Below w47.heap.size w47 w149 := (bstep hq144 hb150)
           have hB152 := hB56.below hb153
           have ho155 := ho148.below hb150
           have ho156 := ho146.below hb150
           have hbb154 : BothB w149 w15.heap.size gk18 gr24 sg x.2 := ⟨Y, Yr, ho155, ho156, hYB, hRB, hYR⟩
           exact ⟨(by (try dsimp only); omega), (by (try dsimp only); omega), hb151, hB152, hbb154⟩
          ·(try dsimp only); omega
        ·have h141 : ¬ (((kget l x.1).act : Int) = (1 : Int)) := by simpa using h141
         refine WC.seq (WC.region ?_)
         refine WL.val (.bool ((((kget l x.1).act : Int) == (2 : Int)))) rfl rfl rfl (fun za zC zh zk => eql_3 rfl (zh.ev rfl) (zh.ev rfl) zk) ?_
         refine WL.asg rfl rfl rfl rfl rfl (WL.nil (WE.next ?_))
         refine WC.cond rfl (fun h157 => ?_) (fun h157 => ?_)
         ·have h157 : ((kget l x.1).act : Int) = (2 : Int) := by simpa using h157
          refine WC.seq (WC.region (WL.mv rfl rfl rfl rfl rfl ?_))
          refine WL.val _ rfl rfl rfl (fun za zC zh zk => fld_55_1 rfl (zh.ev rfl) zk) ?_
          refine WL.val _ rfl rfl rfl (fun za zC zh zk => ld_35 rfl (zh.ev rfl) ((hB49.cell 1).trans rfl) ((hB49.cell 2).trans rfl) zk) ?_
          have ho158 := hK.below hb54
          have hJ9 : BkSJ w47 0 gk18 sg x.2 (fun _ => False) := ⟨Y, ho158, fun _ _ => Nat.zero_le _, fun _ q => q.elim⟩
          refine WL.call rfl rfl rfl (fun za zh zC => wp_call (by kernel_rfl) rfl (hv2 (zh.ev rfl) (zh.ev rfl))) (jFind (kget l x.1).t _ (by omega) (by have z := (hlc x.1 (by omega)).2.2.2.2.2.2.2.2.2.1; omega) (IsT.below hb53 (hlc x.1 (by first | omega | (simp; omega))).2.2.2.2.2.2.1) hJ9) ?_
          rintro _ w160 ⟨rfl, hq159⟩
          refine WL.mv rfl rfl rfl rfl rfl ?_
          refine WL.val (.int .i64 ((((((kget l x.1).t.bfind x.2).getD 0) : Nat) : Int))) rfl rfl rfl (fun za zC zh zk => ext2_0 rfl (zh.ev rfl) zk) ?_
          refine WL.val (.bool (((kget l x.1).t.bfind x.2).isSome)) rfl rfl rfl (fun za zC zh zk => ext2_1 rfl (zh.ev rfl) zk) ?_
          refine WL.asg rfl rfl rfl rfl rfl (WL.asg rfl rfl rfl rfl rfl ?_)
          refine WL.nil (WE.sub (K' := [(0, .agg #[.slice sa sg.length sc]), (1, .slice a l.length c), (2, .pointer (some ⟨g2, 0, none⟩)), (5, .pointer (some ⟨gk18, 0, none⟩)), (6, .int .i64 0), (7, .pointer (some ⟨gr24, 0, none⟩)), (8, .int .i64 0), (9, .int .i64 (((x.1 : Nat) : Int))), (10, .pointer (some ⟨g39, 0, none⟩)), (16, .int .i64 ((((((kget l x.1).t.bfind x.2).getD 0) : Nat) : Int))), (17, .bool (((kget l x.1).t.bfind x.2).isSome)), (26, .bool ((decide ((100 : Int) < (((l.length : Nat) : Int) : Int))))), (48, .bool ((false != false))), (56, .bool (((decide ((((x.1 : Nat) : Int) : Int) < (((l.length : Nat) : Int) : Int))) && true))), (64, .int .i64 ((kget l x.1).act)), (65, .bool ((((kget l x.1).act : Int) == (0 : Int)))), (98, .bool ((((kget l x.1).act : Int) == (1 : Int)))), (107, .bool ((((kget l x.1).act : Int) == (2 : Int))))]) ⟨rfl, rfl, rfl, rfl, rfl, rfl, rfl, rfl, rfl, rfl, rfl, rfl, rfl, rfl, rfl, rfl, rfl, rfl, trivial⟩ ?_)
          refine WE.next (WC.seq (WC.region (WL.mv rfl rfl rfl rfl rfl ?_)))
          refine WL.val _ rfl rfl rfl (fun za zC zh zk => fld_55_1 rfl (zh.ev rfl) zk) ?_
          have hB161 := hB49.below hq159
          refine WL.val _ rfl rfl rfl (fun za zC zh zk => ld_35 rfl (zh.ev rfl) ((hB161.cell 1).trans rfl) ((hB161.cell 2).trans rfl) zk) ?_
          have hb162 : Below w.heap.size w w160 := (bstep hb53 hq159)
          have hb164 : Below w28.heap.size w28 w160 := (bstep hb54 hq159)
          have ho163 := hR.below hb164
          refine WL.call rfl rfl rfl (fun za zh zC => wp_call (by kernel_rfl) rfl (hv2 (zh.ev rfl) (zh.ev rfl))) (rbfind_any gr24 sg x.2 Yr (kget l x.1).t _ _ (by omega) (IsT.below hb162 (hlc x.1 (by first | omega | (simp; omega))).2.2.2.2.2.2.1) ho163) ?_
          rintro _ w166 ⟨rfl, hq165⟩
          refine WL.mv rfl rfl rfl rfl rfl ?_
          refine WL.val (.int .i64 ((((((kget l x.1).t.bfind x.2).getD 0) : Nat) : Int))) rfl rfl rfl (fun za zC zh zk => ext2_0 rfl (zh.ev rfl) zk) ?_
          refine WL.val (.bool (((kget l x.1).t.bfind x.2).isSome)) rfl rfl rfl (fun za zC zh zk => ext2_1 rfl (zh.ev rfl) zk) ?_
          refine WL.asg rfl rfl rfl rfl rfl (WL.asg rfl rfl rfl rfl rfl (WL.nil (WE.next (WC.seq ?_))))
          refine WC.opt [(true, .val (.int .i64 ((((((kget l x.1).t.bfind x.2).getD 0) : Nat) : Int)))), (true, .val (.int .i64 ((((((kget l x.1).t.bfind x.2).getD 0) : Nat) : Int)))), (true, .val (.bool ((((((((kget l x.1).t.bfind x.2).getD 0) : Nat) : Int) : Int) != ((((((kget l x.1).t.bfind x.2).getD 0) : Nat) : Int) : Int))))), (true, .val (.bool ((((((((kget l x.1).t.bfind x.2).getD 0) : Nat) : Int) : Int) != ((((((kget l x.1).t.bfind x.2).getD 0) : Nat) : Int) : Int))))), ((true && !(((((((kget l x.1).t.bfind x.2).getD 0) : Nat) : Int) : Int) != ((((((kget l x.1).t.bfind x.2).getD 0) : Nat) : Int) : Int))), .val (.bool (((kget l x.1).t.bfind x.2).isSome))), ((true && !(((((((kget l x.1).t.bfind x.2).getD 0) : Nat) : Int) : Int) != ((((((kget l x.1).t.bfind x.2).getD 0) : Nat) : Int) : Int))), .val (.bool (((kget l x.1).t.bfind x.2).isSome))), ((true && !(((((((kget l x.1).t.bfind x.2).getD 0) : Nat) : Int) : Int) != ((((((kget l x.1).t.bfind x.2).getD 0) : Nat) : Int) : Int))), .val (.bool ((((kget l x.1).t.bfind x.2).isSome != ((kget l x.1).t.bfind x.2).isSome)))), (true, .val (.bool (((((((((kget l x.1).t.bfind x.2).getD 0) : Nat) : Int) : Int) != ((((((kget l x.1).t.bfind x.2).getD 0) : Nat) : Int) : Int)) || (((kget l x.1).t.bfind x.2).isSome != ((kget l x.1).t.bfind x.2).isSome)))))] [(0, .agg #[.slice sa sg.length sc]), (1, .slice a l.length c), (2, .pointer (some ⟨g2, 0, none⟩)), (5, .pointer (some ⟨gk18, 0, none⟩)), (6, .int .i64 0), (7, .pointer (some ⟨gr24, 0, none⟩)), (8, .int .i64 0), (9, .int .i64 (((x.1 : Nat) : Int))), (10, .pointer (some ⟨g39, 0, none⟩)), (16, .int .i64 ((((((kget l x.1).t.bfind x.2).getD 0) : Nat) : Int))), (17, .bool (((kget l x.1).t.bfind x.2).isSome)), (18, .int .i64 ((((((kget l x.1).t.bfind x.2).getD 0) : Nat) : Int))), (19, .bool (((kget l x.1).t.bfind x.2).isSome)), (26, .bool ((decide ((100 : Int) < (((l.length : Nat) : Int) : Int))))), (48, .bool ((false != false))), (56, .bool (((decide ((((x.1 : Nat) : Int) : Int) < (((l.length : Nat) : Int) : Int))) && true))), (64, .int .i64 ((kget l x.1).act)), (65, .bool ((((kget l x.1).act : Int) == (0 : Int)))), (98, .bool ((((kget l x.1).act : Int) == (1 : Int)))), (107, .bool ((((kget l x.1).act : Int) == (2 : Int))))] ⟨rfl, rfl, rfl, rfl, rfl, rfl, rfl, rfl, rfl, rfl, rfl, rfl, rfl, rfl, rfl, rfl, rfl, rfl, rfl, rfl, trivial⟩ (by kernel_rfl) (by kernel_rfl) (by kernel_rfl) ?_ ?_
          ·refine ⟨⟨true, .none rfl, fun h w => optUndef h, fun zβ za zw zc => ?_⟩, ?_⟩
           ·exact wp_move rfl (zc.kn.ev rfl) ⟨_, rfl, Below.refl _ _, optDef zβ rfl⟩
           refine ⟨⟨true, .none rfl, fun h w => optUndef h, fun zβ za zw zc => ?_⟩, ?_⟩
           ·exact wp_move rfl (zc.kn.ev rfl) ⟨_, rfl, Below.refl _ _, optDef zβ rfl⟩
           refine ⟨⟨true, .none rfl, fun h w => optUndef h, fun zβ za zw zc => ?_⟩, ?_⟩
           ·exact neq_3 rfl ((evt za 123).trans (optVal (zc.dep 0 123 (by kernel_rfl)) rfl rfl)) ((evt za 124).trans (optVal (zc.dep 1 124 (by kernel_rfl)) rfl rfl)) ⟨_, rfl, Below.refl _ _, optDef zβ rfl⟩
           refine ⟨⟨true, .none rfl, fun h w => optUndef h, fun zβ za zw zc => ?_⟩, ?_⟩
           ·exact wp_move rfl ((evt za 125).trans (optVal (zc.dep 2 125 (by kernel_rfl)) rfl rfl)) ⟨_, rfl, Below.refl _ _, optDef zβ rfl⟩
           refine ⟨⟨_, .no (d := true) rfl (fun v w h => h), fun h w => optUndef h, fun zβ za zw zc => ?_⟩, ?_⟩
           ·exact wp_move rfl (zc.kn.ev rfl) ⟨_, rfl, Below.refl _ _, optDef zβ rfl⟩
           refine ⟨⟨_, .no (d := true) rfl (fun v w h => h), fun h w => optUndef h, fun zβ za zw zc => ?_⟩, ?_⟩
           ·exact wp_move rfl (zc.kn.ev rfl) ⟨_, rfl, Below.refl _ _, optDef zβ rfl⟩
           refine ⟨⟨_, .no (d := true) rfl (fun v w h => h), fun h w => optUndef h, fun zβ za zw zc => ?_⟩, ?_⟩
           ·exact neq_4 rfl ((evt za 127).trans (optVal (zc.dep 4 127 (by kernel_rfl)) rfl zβ)) ((evt za 128).trans (optVal (zc.dep 5 128 (by kernel_rfl)) rfl zβ)) ⟨_, rfl, Below.refl _ _, optDef zβ rfl⟩
           refine ⟨⟨true, .none rfl, fun h w => optUndef h, fun zβ za zw zc => ?_⟩, ?_⟩
           ·exact wp_or rfl ((evt za 126).trans (optVal (zc.dep 3 126 (by kernel_rfl)) rfl rfl)) (fun hp => ((evt za 129).trans (optVal (zc.dep 6 129 (by kernel_rfl)) rfl (bMkN zβ hp)))) ⟨_, rfl, Below.refl _ _, optDef zβ rfl⟩
           exact trivial
          ·intro za w167 zh hb168 zu
           have zh := zh.cons (d := 130) (v := .bool (((((((((kget l x.1).t.bfind x.2).getD 0) : Nat) : Int) : Int) != ((((((kget l x.1).t.bfind x.2).getD 0) : Nat) : Int) : Int)) || (((kget l x.1).t.bfind x.2).isSome != ((kget l x.1).t.bfind x.2).isSome)))) (optVal (zu 7 130 (by kernel_rfl)) rfl rfl)
           clear zu
           refine WE.go zh ?_
           refine WE.next ?_
           refine WC.condF rfl ((by simp)) ?_
           refine WC.skip (WE.blockNormal (WE.next (WC.seq ?_)))
           have hb170 : Below w160.heap.size w160 w167 := (bstep hq165 hb168)
           have ho169 := ho163.below hb170
           have hb173 : Below w47.heap.size w47 w167 := (bstep hq159 hb170)
           have ho172 := ho158.below hb173
           obtain ⟨So171, sao171, sco171, tao171, tco171, hOo171⟩ := id ho169
           have hJo171 : BkSJ w167 0 gk18 sg x.2 (fun _ => False) := ⟨_, ho172, fun _ _ => Nat.zero_le _, fun _ q => q.elim⟩
           refine WC.opt [(true, .val (.pointer (some ⟨gk18, 0, none⟩))), (true, .val (.int .i64 (((x.2.length : Nat) : Int)))), (true, .val (.pointer (some ⟨gr24, 0, none⟩))), (true, .val (.pointer (some ⟨gr24, 0, none⟩))), (true, .val (.pointer (some ⟨gr24, 1, none⟩))), (true, .val (.slice tao171 x.2.length tco171)), (true, .val (.int .i64 (((x.2.length : Nat) : Int)))), (true, .val (.bool (((((x.2.length : Nat) : Int) : Int) != (((x.2.length : Nat) : Int) : Int)))))] [(0, .agg #[.slice sa sg.length sc]), (1, .slice a l.length c), (2, .pointer (some ⟨g2, 0, none⟩)), (5, .pointer (some ⟨gk18, 0, none⟩)), (6, .int .i64 0), (7, .pointer (some ⟨gr24, 0, none⟩)), (8, .int .i64 0), (9, .int .i64 (((x.1 : Nat) : Int))), (10, .pointer (some ⟨g39, 0, none⟩)), (16, .int .i64 ((((((kget l x.1).t.bfind x.2).getD 0) : Nat) : Int))), (17, .bool (((kget l x.1).t.bfind x.2).isSome)), (18, .int .i64 ((((((kget l x.1).t.bfind x.2).getD 0) : Nat) : Int))), (19, .bool (((kget l x.1).t.bfind x.2).isSome)), (26, .bool ((decide ((100 : Int) < (((l.length : Nat) : Int) : Int))))), (48, .bool ((false != false))), (56, .bool (((decide ((((x.1 : Nat) : Int) : Int) < (((l.length : Nat) : Int) : Int))) && true))), (64, .int .i64 ((kget l x.1).act)), (65, .bool ((((kget l x.1).act : Int) == (0 : Int)))), (98, .bool ((((kget l x.1).act : Int) == (1 : Int)))), (107, .bool ((((kget l x.1).act : Int) == (2 : Int)))), (130, .bool (((((((((kget l x.1).t.bfind x.2).getD 0) : Nat) : Int) : Int) != ((((((kget l x.1).t.bfind x.2).getD 0) : Nat) : Int) : Int)) || (((kget l x.1).t.bfind x.2).isSome != ((kget l x.1).t.bfind x.2).isSome))))] ⟨rfl, rfl, rfl, rfl, rfl, rfl, rfl, rfl, rfl, rfl, rfl, rfl, rfl, rfl, rfl, rfl, rfl, rfl, rfl, rfl, rfl, trivial⟩ (by kernel_rfl) (by kernel_rfl) (by kernel_rfl) ?_ ?_
           ·refine ⟨⟨true, .none rfl, fun h w => optUndef h, fun zβ za zw zc => ?_⟩, ?_⟩
            ·exact wp_move rfl (zc.kn.ev rfl) ⟨_, rfl, Below.refl _ _, optDef zβ rfl⟩
            refine ⟨⟨true, .none rfl, fun h w => optUndef h, fun zβ za zw zc => ?_⟩, ?_⟩
            ·exact wp_call (by kernel_rfl) rfl (hv1 ((evt za 163).trans (optVal (zc.dep 0 163 (by kernel_rfl)) rfl rfl))) (jLen (BkSJ.below hJo171 zc.below)) (fun v w' h => ⟨v, rfl, h.2, optDef zβ h.1⟩)
            refine ⟨⟨true, .none rfl, fun h w => optUndef h, fun zβ za zw zc => ?_⟩, ?_⟩
            ·exact wp_move rfl (zc.kn.ev rfl) ⟨_, rfl, Below.refl _ _, optDef zβ rfl⟩
            refine ⟨⟨true, .none rfl, fun h w => optUndef h, fun zβ za zw zc => ?_⟩, ?_⟩
            ·exact nilCheck_ rfl ((evt za 165).trans (optVal (zc.dep 2 165 (by kernel_rfl)) rfl rfl)) ⟨_, rfl, Below.refl _ _, optDef zβ rfl⟩
            refine ⟨⟨true, .none rfl, fun h w => optUndef h, fun zβ za zw zc => ?_⟩, ?_⟩
            ·exact fld_60_1 rfl ((evt za 166).trans (optVal (zc.dep 3 166 (by kernel_rfl)) rfl rfl)) ⟨_, rfl, Below.refl _ _, optDef zβ rfl⟩
            refine ⟨⟨true, .none rfl, fun h w => optUndef h, fun zβ za zw zc => ?_⟩, ?_⟩
            ·exact ld_25 rfl ((evt za 167).trans (optVal (zc.dep 4 167 (by kernel_rfl)) rfl rfl)) (bkeeps zc.below _ _ hOo171.c1) ⟨_, rfl, Below.refl _ _, optDef zβ rfl⟩
            refine ⟨⟨true, .none rfl, fun h w => optUndef h, fun zβ za zw zc => ?_⟩, ?_⟩
            ·exact len_25 rfl ((evt za 168).trans (optVal (zc.dep 5 168 (by kernel_rfl)) rfl rfl)) ⟨_, rfl, Below.refl _ _, optDef zβ rfl⟩
            refine ⟨⟨true, .none rfl, fun h w => optUndef h, fun zβ za zw zc => ?_⟩, ?_⟩
            ·exact neq_3 rfl ((evt za 164).trans (optVal (zc.dep 1 164 (by kernel_rfl)) rfl rfl)) ((evt za 169).trans (optVal (zc.dep 6 169 (by kernel_rfl)) rfl rfl)) ⟨_, rfl, Below.refl _ _, optDef zβ rfl⟩
            exact trivial
           ·intro za w174 zh hb175 zu
            have zh := zh.cons (d := 170) (v := .bool (((((x.2.length : Nat) : Int) : Int) != (((x.2.length : Nat) : Int) : Int)))) (optVal (zu 7 170 (by kernel_rfl)) rfl rfl)
            clear zu
            refine WE.go zh ?_
            refine WE.next ?_
            refine WC.condF rfl ((by simp)) ?_
            refine WC.skip (WE.blockNormal (WE.next (WC.region (WL.mv rfl rfl rfl rfl rfl ?_))))
            refine WL.val (.int .i64 ((((x.1 + 1) : Nat) : Int))) rfl rfl rfl (fun za zC zh zk => addb_3 rfl (zh.ev rfl) (zh.ev rfl) (wrap_eq (by omega) (by omega) (by omega)) zk) ?_
            refine WL.asg rfl rfl rfl rfl rfl (WL.nil ?_)
            refine WE.round ((x.1 + 1, x.2)) ⟨rfl, rfl, rfl, rfl, rfl, rfl, rfl, rfl, rfl, rfl, trivial⟩ ?_ ?_
            ·have hb176 : Below w.heap.size w w174 := (bstep (bstep hb53 hb173) hb175)
             have hb178 : Below w47.heap.size w47 w174 := (bstep hb173 hb175)
             have hB177 := hB56.below hb178
             have ho180 := ho172.below hb175
             have ho181 := ho169.below hb175
             have hbb179 : BothB w174 w15.heap.size gk18 gr24 sg x.2 := ⟨Y, Yr, ho180, ho181, hYB, hRB, hYR⟩
             exact ⟨(by (try dsimp only); omega), (by (try dsimp only); omega), hb176, hB177, hbb179⟩
            ·(try dsimp only); omega
         ·have h157 : ¬ (((kget l x.1).act : Int) = (2 : Int)) := by simpa using h157
          refine WC.seq (WC.region ?_)
          refine WL.val (.bool ((((kget l x.1).act : Int) == (4 : Int)))) rfl rfl rfl (fun za zC zh zk => eql_3 rfl (zh.ev rfl) (zh.ev rfl) zk) ?_
          refine WL.asg rfl rfl rfl rfl rfl (WL.nil (WE.next ?_))
          refine WC.cond rfl (fun h182 => ?_) (fun h182 => ?_)
          ·have h182 : ((kget l x.1).act : Int) = (4 : Int) := by simpa using h182
           refine WC.seq (WC.region (WL.mv rfl rfl rfl rfl rfl ?_))
           refine WL.val _ rfl rfl rfl (fun za zC zh zk => fld_55_2 rfl (zh.ev rfl) zk) ?_
           refine WL.val _ rfl rfl rfl (fun za zC zh zk => ld_3 rfl (zh.ev rfl) ((hB49.cell 3).trans rfl) zk) ?_
           refine WL.val _ rfl rfl rfl (fun za zC zh zk => fld_55_4 rfl (zh.ev rfl) zk) ?_
           refine WL.val _ rfl rfl rfl (fun za zC zh zk => ld_53 rfl (zh.ev rfl) ((hB49.cell 5).trans rfl) zk) ?_
           refine WL.val _ rfl rfl rfl (fun za zC zh zk => fld_55_3 rfl (zh.ev rfl) zk) ?_
           refine WL.val _ rfl rfl rfl (fun za zC zh zk => ld_3 rfl (zh.ev rfl) ((hB49.cell 4).trans rfl) zk) ?_
           have hl183 := hB56.lt
           have hl184 := hB49.lt
           have ho185 := hK.below hb54
           have ho186 := hR.below hb54
           have hs01 : w28.heap.size ≤ w47.heap.size := hb54.size
           refine WL.call rfl rfl rfl (fun za zh zC => wp_call (by kernel_rfl) rfl (hv4 (zh.ev rfl) (zh.ev rfl) (zh.ev rfl) (zh.ev rfl))) (bRep_any gk18 sg x.2 Y (kget l x.1).n (kget l x.1).m (kget l x.1).p _ _ _ (by omega) (hlc x.1 (by omega)).2.2.2.2.2.2.2.2.1 (PIs.below (hlc x.1 (by omega)).2.2.2.2.2.2.2.1 hb53) ho185) ?_
           rintro _ w191 ⟨rfl, ⟨Y187, hK188, hZ189⟩, hc190⟩
           have hb192 := chg_below hb53 hc190 (fun b q k => by have z := hYB b k; omega)
           have ho193 := RbS.chg ho186 hc190 (fun b q k => hYR b k q)
           have hB194 := chg_blk hB56 hc190 (fun k => by have z := hYl _ k; have z2 := hYB _ k; omega)
           have hB195 := chg_blk hB49 hc190 (fun k => by have z := hYl _ k; have z2 := hYB _ k; omega)
           refine WL.mv rfl rfl rfl rfl rfl ?_
           refine WL.val (.int .i64 ((repVI sg x.2 (kget l x.1).n (kget l x.1).m (kget l x.1).p))) rfl rfl rfl (fun za zC zh zk => ext2_0 rfl (zh.ev rfl) zk) ?_
           refine WL.val (.int .i64 ((repEI sg x.2 (kget l x.1).n (kget l x.1).m (kget l x.1).p))) rfl rfl rfl (fun za zC zh zk => ext2_1 rfl (zh.ev rfl) zk) ?_
           refine WL.asg rfl rfl rfl rfl rfl (WL.asg rfl rfl rfl rfl rfl ?_)
           refine WL.nil (WE.sub (K' := [(0, .agg #[.slice sa sg.length sc]), (1, .slice a l.length c), (2, .pointer (some ⟨g2, 0, none⟩)), (5, .pointer (some ⟨gk18, 0, none⟩)), (6, .int .i64 0), (7, .pointer (some ⟨gr24, 0, none⟩)), (8, .int .i64 0), (9, .int .i64 (((x.1 : Nat) : Int))), (10, .pointer (some ⟨g39, 0, none⟩)), (20, .int .i64 ((repVI sg x.2 (kget l x.1).n (kget l x.1).m (kget l x.1).p))), (21, .int .i64 ((repEI sg x.2 (kget l x.1).n (kget l x.1).m (kget l x.1).p))), (26, .bool ((decide ((100 : Int) < (((l.length : Nat) : Int) : Int))))), (48, .bool ((false != false))), (56, .bool (((decide ((((x.1 : Nat) : Int) : Int) < (((l.length : Nat) : Int) : Int))) && true))), (64, .int .i64 ((kget l x.1).act)), (65, .bool ((((kget l x.1).act : Int) == (0 : Int)))), (98, .bool ((((kget l x.1).act : Int) == (1 : Int)))), (107, .bool ((((kget l x.1).act : Int) == (2 : Int)))), (131, .bool ((((kget l x.1).act : Int) == (4 : Int))))]) ⟨rfl, rfl, rfl, rfl, rfl, rfl, rfl, rfl, rfl, rfl, rfl, rfl, rfl, rfl, rfl, rfl, rfl, rfl, rfl, trivial⟩ ?_)
           refine WE.next (WC.seq (WC.region (WL.mv rfl rfl rfl rfl rfl ?_)))
           refine WL.val _ rfl rfl rfl (fun za zC zh zk => fld_55_2 rfl (zh.ev rfl) zk) ?_
           refine WL.val _ rfl rfl rfl (fun za zC zh zk => ld_3 rfl (zh.ev rfl) ((hB195.cell 3).trans rfl) zk) ?_
           refine WL.val _ rfl rfl rfl (fun za zC zh zk => fld_55_4 rfl (zh.ev rfl) zk) ?_
           refine WL.val _ rfl rfl rfl (fun za zC zh zk => ld_53 rfl (zh.ev rfl) ((hB195.cell 5).trans rfl) zk) ?_
           refine WL.val _ rfl rfl rfl (fun za zC zh zk => fld_55_3 rfl (zh.ev rfl) zk) ?_
           refine WL.val _ rfl rfl rfl (fun za zC zh zk => ld_3 rfl (zh.ev rfl) ((hB195.cell 4).trans rfl) zk) ?_
           have hl196 := hB194.lt
           have hl197 := hB195.lt
           have hs202 : w28.heap.size ≤ w191.heap.size := (Nat.le_trans hb54.size hc190.size)
           have hs12 : w47.heap.size ≤ w191.heap.size := hc190.size
           have h8l : ∀ b, Y187 b → b < w191.heap.size := BkS.lt hK188
           refine WL.call rfl rfl rfl (fun za zh zC => wp_call (by kernel_rfl) rfl (hv4 (zh.ev rfl) (zh.ev rfl) (zh.ev rfl) (zh.ev rfl))) (rbRep_any gr24 sg x.2 Yr (kget l x.1).n (kget l x.1).m (kget l x.1).p _ _ _ (by omega) (hlc x.1 (by omega)).2.2.2.2.2.2.2.2.1 (PIs.below (hlc x.1 (by omega)).2.2.2.2.2.2.2.1 hb192) ho193) ?_
           rintro _ w203 ⟨rfl, ⟨Y198, hK199, hZ200⟩, hc201⟩
           have hb204 := chg_below hb192 hc201 (fun b q k => by have z := hRB b k; omega)
           have ho205 := BkS.chg hK188 hc201 (fun b q k => by rcases hZ189 b q with z | z; exact hYR b z k; (have z2 := hRl b k; omega))
           have hB206 := chg_blk hB194 hc201 (fun k => by have z := hRl _ k; have z2 := hRB _ k; omega)
           have hB207 := chg_blk hB195 hc201 (fun k => by have z := hRl _ k; have z2 := hRB _ k; omega)
           refine WL.mv rfl rfl rfl rfl rfl ?_
           refine WL.val (.int .i64 ((repVI sg x.2 (kget l x.1).n (kget l x.1).m (kget l x.1).p))) rfl rfl rfl (fun za zC zh zk => ext2_0 rfl (zh.ev rfl) zk) ?_
           refine WL.val (.int .i64 ((repEI sg x.2 (kget l x.1).n (kget l x.1).m (kget l x.1).p))) rfl rfl rfl (fun za zC zh zk => ext2_1 rfl (zh.ev rfl) zk) ?_
           refine WL.asg rfl rfl rfl rfl rfl (WL.asg rfl rfl rfl rfl rfl (WL.nil (WE.next (WC.seq ?_))))
           refine WC.opt [(true, .val (.int .i64 ((repVI sg x.2 (kget l x.1).n (kget l x.1).m (kget l x.1).p)))), (true, .val (.int .i64 ((repVI sg x.2 (kget l x.1).n (kget l x.1).m (kget l x.1).p)))), (true, .val (.bool ((((repVI sg x.2 (kget l x.1).n (kget l x.1).m (kget l x.1).p) : Int) != ((repVI sg x.2 (kget l x.1).n (kget l x.1).m (kget l x.1).p) : Int))))), (true, .val (.bool ((((repVI sg x.2 (kget l x.1).n (kget l x.1).m (kget l x.1).p) : Int) != ((repVI sg x.2 (kget l x.1).n (kget l x.1).m (kget l x.1).p) : Int))))), ((true && !(((repVI sg x.2 (kget l x.1).n (kget l x.1).m (kget l x.1).p) : Int) != ((repVI sg x.2 (kget l x.1).n (kget l x.1).m (kget l x.1).p) : Int))), .val (.int .i64 ((repEI sg x.2 (kget l x.1).n (kget l x.1).m (kget l x.1).p)))), ((true && !(((repVI sg x.2 (kget l x.1).n (kget l x.1).m (kget l x.1).p) : Int) != ((repVI sg x.2 (kget l x.1).n (kget l x.1).m (kget l x.1).p) : Int))), .val (.int .i64 ((repEI sg x.2 (kget l x.1).n (kget l x.1).m (kget l x.1).p)))), ((true && !(((repVI sg x.2 (kget l x.1).n (kget l x.1).m (kget l x.1).p) : Int) != ((repVI sg x.2 (kget l x.1).n (kget l x.1).m (kget l x.1).p) : Int))), .val (.bool ((((repEI sg x.2 (kget l x.1).n (kget l x.1).m (kget l x.1).p) : Int) != ((repEI sg x.2 (kget l x.1).n (kget l x.1).m (kget l x.1).p) : Int))))), (true, .val (.bool (((((repVI sg x.2 (kget l x.1).n (kget l x.1).m (kget l x.1).p) : Int) != ((repVI sg x.2 (kget l x.1).n (kget l x.1).m (kget l x.1).p) : Int)) || (((repEI sg x.2 (kget l x.1).n (kget l x.1).m (kget l x.1).p) : Int) != ((repEI sg x.2 (kget l x.1).n (kget l x.1).m (kget l x.1).p) : Int))))))] [(0, .agg #[.slice sa sg.length sc]), (1, .slice a l.length c), (2, .pointer (some ⟨g2, 0, none⟩)), (5, .pointer (some ⟨gk18, 0, none⟩)), (6, .int .i64 0), (7, .pointer (some ⟨gr24, 0, none⟩)), (8, .int .i64 0), (9, .int .i64 (((x.1 : Nat) : Int))), (10, .pointer (some ⟨g39, 0, none⟩)), (20, .int .i64 ((repVI sg x.2 (kget l x.1).n (kget l x.1).m (kget l x.1).p))), (21, .int .i64 ((repEI sg x.2 (kget l x.1).n (kget l x.1).m (kget l x.1).p))), (22, .int .i64 ((repVI sg x.2 (kget l x.1).n (kget l x.1).m (kget l x.1).p))), (23, .int .i64 ((repEI sg x.2 (kget l x.1).n (kget l x.1).m (kget l x.1).p))), (26, .bool ((decide ((100 : Int) < (((l.length : Nat) : Int) : Int))))), (48, .bool ((false != false))), (56, .bool (((decide ((((x.1 : Nat) : Int) : Int) < (((l.length : Nat) : Int) : Int))) && true))), (64, .int .i64 ((kget l x.1).act)), (65, .bool ((((kget l x.1).act : Int) == (0 : Int)))), (98, .bool ((((kget l x.1).act : Int) == (1 : Int)))), (107, .bool ((((kget l x.1).act : Int) == (2 : Int)))), (131, .bool ((((kget l x.1).act : Int) == (4 : Int))))] ⟨rfl, rfl, rfl, rfl, rfl, rfl, rfl, rfl, rfl, rfl, rfl, rfl, rfl, rfl, rfl, rfl, rfl, rfl, rfl, rfl, rfl, trivial⟩ (by kernel_rfl) (by kernel_rfl) (by kernel_rfl) ?_ ?_
           ·refine ⟨⟨true, .none rfl, fun h w => optUndef h, fun zβ za zw zc => ?_⟩, ?_⟩
            ·exact wp_move rfl (zc.kn.ev rfl) ⟨_, rfl, Below.refl _ _, optDef zβ rfl⟩
            refine ⟨⟨true, .none rfl, fun h w => optUndef h, fun zβ za zw zc => ?_⟩, ?_⟩
            ·exact wp_move rfl (zc.kn.ev rfl) ⟨_, rfl, Below.refl _ _, optDef zβ rfl⟩
            refine ⟨⟨true, .none rfl, fun h w => optUndef h, fun zβ za zw zc => ?_⟩, ?_⟩
            ·exact neq_3 rfl ((evt za 155).trans (optVal (zc.dep 0 155 (by kernel_rfl)) rfl rfl)) ((evt za 156).trans (optVal (zc.dep 1 156 (by kernel_rfl)) rfl rfl)) ⟨_, rfl, Below.refl _ _, optDef zβ rfl⟩
            refine ⟨⟨true, .none rfl, fun h w => optUndef h, fun zβ za zw zc => ?_⟩, ?_⟩
            ·exact wp_move rfl ((evt za 157).trans (optVal (zc.dep 2 157 (by kernel_rfl)) rfl rfl)) ⟨_, rfl, Below.refl _ _, optDef zβ rfl⟩
            refine ⟨⟨_, .no (d := true) rfl (fun v w h => h), fun h w => optUndef h, fun zβ za zw zc => ?_⟩, ?_⟩
            ·exact wp_move rfl (zc.kn.ev rfl) ⟨_, rfl, Below.refl _ _, optDef zβ rfl⟩
            refine ⟨⟨_, .no (d := true) rfl (fun v w h => h), fun h w => optUndef h, fun zβ za zw zc => ?_⟩, ?_⟩
            ·exact wp_move rfl (zc.kn.ev rfl) ⟨_, rfl, Below.refl _ _, optDef zβ rfl⟩
            refine ⟨⟨_, .no (d := true) rfl (fun v w h => h), fun h w => optUndef h, fun zβ za zw zc => ?_⟩, ?_⟩
            ·exact neq_27 rfl ((evt za 159).trans (optVal (zc.dep 4 159 (by kernel_rfl)) rfl zβ)) ((evt za 160).trans (optVal (zc.dep 5 160 (by kernel_rfl)) rfl zβ)) ⟨_, rfl, Below.refl _ _, optDef zβ rfl⟩
            refine ⟨⟨true, .none rfl, fun h w => optUndef h, fun zβ za zw zc => ?_⟩, ?_⟩
            ·exact wp_or rfl ((evt za 158).trans (optVal (zc.dep 3 158 (by kernel_rfl)) rfl rfl)) (fun hp => ((evt za 161).trans (optVal (zc.dep 6 161 (by kernel_rfl)) rfl (bMkN zβ hp)))) ⟨_, rfl, Below.refl _ _, optDef zβ rfl⟩
            exact trivial
           ·intro za w208 zh hb209 zu
            have zh := zh.cons (d := 162) (v := .bool (((((repVI sg x.2 (kget l x.1).n (kget l x.1).m (kget l x.1).p) : Int) != ((repVI sg x.2 (kget l x.1).n (kget l x.1).m (kget l x.1).p) : Int)) || (((repEI sg x.2 (kget l x.1).n (kget l x.1).m (kget l x.1).p) : Int) != ((repEI sg x.2 (kget l x.1).n (kget l x.1).m (kget l x.1).p) : Int))))) (optVal (zu 7 162 (by kernel_rfl)) rfl rfl)
            clear zu
            refine WE.go zh ?_
            refine WE.next ?_
            refine WC.condF rfl ((by simp)) ?_
            refine WC.skip (WE.blockNormal (WE.next (WC.seq ?_)))
            have ho210 := hK199.below hb209
            have ho212 := ho205.below hb209
            obtain ⟨So211, sao211, sco211, tao211, tco211, hOo211⟩ := id ho210
            have hJo211 : BkSJ w208 0 gk18 sg (repNI sg x.2 (kget l x.1).n (kget l x.1).m (kget l x.1).p) (fun _ => False) := ⟨_, ho212, fun _ _ => Nat.zero_le _, fun _ q => q.elim⟩
            refine WC.opt [(true, .val (.pointer (some ⟨gk18, 0, none⟩))), (true, .val (.int .i64 (((((repNI sg x.2 (kget l x.1).n (kget l x.1).m (kget l x.1).p)).length : Nat) : Int)))), (true, .val (.pointer (some ⟨gr24, 0, none⟩))), (true, .val (.pointer (some ⟨gr24, 0, none⟩))), (true, .val (.pointer (some ⟨gr24, 1, none⟩))), (true, .val (.slice tao211 (((repNI sg x.2 (kget l x.1).n (kget l x.1).m (kget l x.1).p)).length) tco211)), (true, .val (.int .i64 (((((repNI sg x.2 (kget l x.1).n (kget l x.1).m (kget l x.1).p)).length : Nat) : Int)))), (true, .val (.bool (((((((repNI sg x.2 (kget l x.1).n (kget l x.1).m (kget l x.1).p)).length : Nat) : Int) : Int) != (((((repNI sg x.2 (kget l x.1).n (kget l x.1).m (kget l x.1).p)).length : Nat) : Int) : Int)))))] [(0, .agg #[.slice sa sg.length sc]), (1, .slice a l.length c), (2, .pointer (some ⟨g2, 0, none⟩)), (5, .pointer (some ⟨gk18, 0, none⟩)), (6, .int .i64 0), (7, .pointer (some ⟨gr24, 0, none⟩)), (8, .int .i64 0), (9, .int .i64 (((x.1 : Nat) : Int))), (10, .pointer (some ⟨g39, 0, none⟩)), (20, .int .i64 ((repVI sg x.2 (kget l x.1).n (kget l x.1).m (kget l x.1).p))), (21, .int .i64 ((repEI sg x.2 (kget l x.1).n (kget l x.1).m (kget l x.1).p))), (22, .int .i64 ((repVI sg x.2 (kget l x.1).n (kget l x.1).m (kget l x.1).p))), (23, .int .i64 ((repEI sg x.2 (kget l x.1).n (kget l x.1).m (kget l x.1).p))), (26, .bool ((decide ((100 : Int) < (((l.length : Nat) : Int) : Int))))), (48, .bool ((false != false))), (56, .bool (((decide ((((x.1 : Nat) : Int) : Int) < (((l.length : Nat) : Int) : Int))) && true))), (64, .int .i64 ((kget l x.1).act)), (65, .bool ((((kget l x.1).act : Int) == (0 : Int)))), (98, .bool ((((kget l x.1).act : Int) == (1 : Int)))), (107, .bool ((((kget l x.1).act : Int) == (2 : Int)))), (131, .bool ((((kget l x.1).act : Int) == (4 : Int)))), (162, .bool (((((repVI sg x.2 (kget l x.1).n (kget l x.1).m (kget l x.1).p) : Int) != ((repVI sg x.2 (kget l x.1).n (kget l x.1).m (kget l x.1).p) : Int)) || (((repEI sg x.2 (kget l x.1).n (kget l x.1).m (kget l x.1).p) : Int) != ((repEI sg x.2 (kget l x.1).n (kget l x.1).m (kget l x.1).p) : Int)))))] ⟨rfl, rfl, rfl, rfl, rfl, rfl, rfl, rfl, rfl, rfl, rfl, rfl, rfl, rfl, rfl, rfl, rfl, rfl, rfl, rfl, rfl, rfl, trivial⟩ (by kernel_rfl) (by kernel_rfl) (by kernel_rfl) ?_ ?_
            ·refine ⟨⟨true, .none rfl, fun h w => optUndef h, fun zβ za zw zc => ?_⟩, ?_⟩
             ·exact wp_move rfl (zc.kn.ev rfl) ⟨_, rfl, Below.refl _ _, optDef zβ rfl⟩
             refine ⟨⟨true, .none rfl, fun h w => optUndef h, fun zβ za zw zc => ?_⟩, ?_⟩
             ·exact wp_call (by kernel_rfl) rfl (hv1 ((evt za 163).trans (optVal (zc.dep 0 163 (by kernel_rfl)) rfl rfl))) (jLen (BkSJ.below hJo211 zc.below)) (fun v w' h => ⟨v, rfl, h.2, optDef zβ h.1⟩)
             refine ⟨⟨true, .none rfl, fun h w => optUndef h, fun zβ za zw zc => ?_⟩, ?_⟩
             ·exact wp_move rfl (zc.kn.ev rfl) ⟨_, rfl, Below.refl _ _, optDef zβ rfl⟩
             refine ⟨⟨true, .none rfl, fun h w => optUndef h, fun zβ za zw zc => ?_⟩, ?_⟩
             ·exact nilCheck_ rfl ((evt za 165).trans (optVal (zc.dep 2 165 (by kernel_rfl)) rfl rfl)) ⟨_, rfl, Below.refl _ _, optDef zβ rfl⟩
             refine ⟨⟨true, .none rfl, fun h w => optUndef h, fun zβ za zw zc => ?_⟩, ?_⟩
             ·exact fld_60_1 rfl ((evt za 166).trans (optVal (zc.dep 3 166 (by kernel_rfl)) rfl rfl)) ⟨_, rfl, Below.refl _ _, optDef zβ rfl⟩
             refine ⟨⟨true, .none rfl, fun h w => optUndef h, fun zβ za zw zc => ?_⟩, ?_⟩
             ·exact ld_25 rfl ((evt za 167).trans (optVal (zc.dep 4 167 (by kernel_rfl)) rfl rfl)) (bkeeps zc.below _ _ hOo211.c1) ⟨_, rfl, Below.refl _ _, optDef zβ rfl⟩
             refine ⟨⟨true, .none rfl, fun h w => optUndef h, fun zβ za zw zc => ?_⟩, ?_⟩
             ·exact len_25 rfl ((evt za 168).trans (optVal (zc.dep 5 168 (by kernel_rfl)) rfl rfl)) ⟨_, rfl, Below.refl _ _, optDef zβ rfl⟩
             refine ⟨⟨true, .none rfl, fun h w => optUndef h, fun zβ za zw zc => ?_⟩, ?_⟩
             ·exact neq_3 rfl ((evt za 164).trans (optVal (zc.dep 1 164 (by kernel_rfl)) rfl rfl)) ((evt za 169).trans (optVal (zc.dep 6 169 (by kernel_rfl)) rfl rfl)) ⟨_, rfl, Below.refl _ _, optDef zβ rfl⟩
             exact trivial
            ·intro za w213 zh hb214 zu
             have zh := zh.cons (d := 170) (v := .bool (((((((repNI sg x.2 (kget l x.1).n (kget l x.1).m (kget l x.1).p)).length : Nat) : Int) : Int) != (((((repNI sg x.2 (kget l x.1).n (kget l x.1).m (kget l x.1).p)).length : Nat) : Int) : Int)))) (optVal (zu 7 170 (by kernel_rfl)) rfl rfl)
             clear zu
             refine WE.go zh ?_
             refine WE.next ?_
             refine WC.condF rfl ((by simp)) ?_
             refine WC.skip (WE.blockNormal (WE.next (WC.region (WL.mv rfl rfl rfl rfl rfl ?_))))
             refine WL.val (.int .i64 ((((x.1 + 1) : Nat) : Int))) rfl rfl rfl (fun za zC zh zk => addb_3 rfl (zh.ev rfl) (zh.ev rfl) (wrap_eq (by omega) (by omega) (by omega)) zk) ?_
             refine WL.asg rfl rfl rfl rfl rfl ?_
             refine WL.nil (WE.sub (K' := [(0, .agg #[.slice sa sg.length sc]), (1, .slice a l.length c), (2, .pointer (some ⟨g2, 0, none⟩)), (5, .pointer (some ⟨gk18, 0, none⟩)), (6, .int .i64 0), (7, .pointer (some ⟨gr24, 0, none⟩)), (8, .int .i64 0), (9, .int .i64 ((((x.1 + 1) : Nat) : Int))), (10, .pointer (some ⟨g39, 0, none⟩)), (20, .int .i64 ((repVI sg x.2 (kget l x.1).n (kget l x.1).m (kget l x.1).p))), (21, .int .i64 ((repEI sg x.2 (kget l x.1).n (kget l x.1).m (kget l x.1).p))), (22, .int .i64 ((repVI sg x.2 (kget l x.1).n (kget l x.1).m (kget l x.1).p))), (23, .int .i64 ((repEI sg x.2 (kget l x.1).n (kget l x.1).m (kget l x.1).p))), (26, .bool ((decide ((100 : Int) < (((l.length : Nat) : Int) : Int))))), (48, .bool ((false != false))), (56, .bool (((decide ((((x.1 : Nat) : Int) : Int) < (((l.length : Nat) : Int) : Int))) && true))), (64, .int .i64 ((kget l x.1).act)), (65, .bool ((((kget l x.1).act : Int) == (0 : Int)))), (98, .bool ((((kget l x.1).act : Int) == (1 : Int)))), (107, .bool ((((kget l x.1).act : Int) == (2 : Int)))), (131, .bool ((((kget l x.1).act : Int) == (4 : Int)))), (162, .bool (((((repVI sg x.2 (kget l x.1).n (kget l x.1).m (kget l x.1).p) : Int) != ((repVI sg x.2 (kget l x.1).n (kget l x.1).m (kget l x.1).p) : Int)) || (((repEI sg x.2 (kget l x.1).n (kget l x.1).m (kget l x.1).p) : Int) != ((repEI sg x.2 (kget l x.1).n (kget l x.1).m (kget l x.1).p) : Int))))), (170, .bool (((((((repNI sg x.2 (kget l x.1).n (kget l x.1).m (kget l x.1).p)).length : Nat) : Int) : Int) != (((((repNI sg x.2 (kget l x.1).n (kget l x.1).m (kget l x.1).p)).length : Nat) : Int) : Int))))]) ⟨rfl, rfl, rfl, rfl, rfl, rfl, rfl, rfl, rfl, rfl, rfl, rfl, rfl, rfl, rfl, rfl, rfl, rfl, rfl, rfl, rfl, rfl, rfl, trivial⟩ ?_)
             refine WE.round ((x.1 + 1, (repNI sg x.2 (kget l x.1).n (kget l x.1).m (kget l x.1).p))) ⟨rfl, rfl, rfl, rfl, rfl, rfl, rfl, rfl, rfl, rfl, trivial⟩ ?_ ?_
             ·have hb215 : Below w.heap.size w w213 := (bstep (bstep hb204 hb209) hb214)
              have hb217 : Below w203.heap.size w203 w213 := (bstep hb209 hb214)
              have hB216 := hB206.below hb217
              have ho219 := ho212.below hb214
              have ho220 := ho210.below hb214
              have hbb218 : BothB w213 w15.heap.size gk18 gr24 sg ((repNI sg x.2 (kget l x.1).n (kget l x.1).m (kget l x.1).p)) := BothB.next ho219 ho220 hYB hRB hYl hRl hYR hZ189 h8l hZ200 hs01 hs12 hB0
              exact ⟨(by (try dsimp only); omega), (by (try dsimp only); have z := repNI_len (sg := sg) hok (kget l x.1).n (kget l x.1).m (kget l x.1).p; omega), hb215, hB216, hbb218⟩
             ·(try dsimp only); omega
          ·have h182 : ¬ (((kget l x.1).act : Int) = (4 : Int)) := by simpa using h182
           refine WC.skip (WE.blockNormal (WE.next (WC.seq ?_)))
           have ho221 := hR.below hb54
           have ho223 := hK.below hb54
           obtain ⟨So222, sao222, sco222, tao222, tco222, hOo222⟩ := id ho221
           have hJo222 : BkSJ w47 0 gk18 sg x.2 (fun _ => False) := ⟨_, ho223, fun _ _ => Nat.zero_le _, fun _ q => q.elim⟩
           refine WC.opt [(true, .val (.pointer (some ⟨gk18, 0, none⟩))), (true, .val (.int .i64 (((x.2.length : Nat) : Int)))), (true, .val (.pointer (some ⟨gr24, 0, none⟩))), (true, .val (.pointer (some ⟨gr24, 0, none⟩))), (true, .val (.pointer (some ⟨gr24, 1, none⟩))), (true, .val (.slice tao222 x.2.length tco222)), (true, .val (.int .i64 (((x.2.length : Nat) : Int)))), (true, .val (.bool (((((x.2.length : Nat) : Int) : Int) != (((x.2.length : Nat) : Int) : Int)))))] [(0, .agg #[.slice sa sg.length sc]), (1, .slice a l.length c), (2, .pointer (some ⟨g2, 0, none⟩)), (5, .pointer (some ⟨gk18, 0, none⟩)), (6, .int .i64 0), (7, .pointer (some ⟨gr24, 0, none⟩)), (8, .int .i64 0), (9, .int .i64 (((x.1 : Nat) : Int))), (10, .pointer (some ⟨g39, 0, none⟩)), (26, .bool ((decide ((100 : Int) < (((l.length : Nat) : Int) : Int))))), (48, .bool ((false != false))), (56, .bool (((decide ((((x.1 : Nat) : Int) : Int) < (((l.length : Nat) : Int) : Int))) && true))), (64, .int .i64 ((kget l x.1).act)), (65, .bool ((((kget l x.1).act : Int) == (0 : Int)))), (98, .bool ((((kget l x.1).act : Int) == (1 : Int)))), (107, .bool ((((kget l x.1).act : Int) == (2 : Int)))), (131, .bool ((((kget l x.1).act : Int) == (4 : Int))))] ⟨rfl, rfl, rfl, rfl, rfl, rfl, rfl, rfl, rfl, rfl, rfl, rfl, rfl, rfl, rfl, rfl, rfl, trivial⟩ (by kernel_rfl) (by kernel_rfl) (by kernel_rfl) ?_ ?_
           ·refine ⟨⟨true, .none rfl, fun h w => optUndef h, fun zβ za zw zc => ?_⟩, ?_⟩
            ·exact wp_move rfl (zc.kn.ev rfl) ⟨_, rfl, Below.refl _ _, optDef zβ rfl⟩
            refine ⟨⟨true, .none rfl, fun h w => optUndef h, fun zβ za zw zc => ?_⟩, ?_⟩
            ·exact wp_call (by kernel_rfl) rfl (hv1 ((evt za 163).trans (optVal (zc.dep 0 163 (by kernel_rfl)) rfl rfl))) (jLen (BkSJ.below hJo222 zc.below)) (fun v w' h => ⟨v, rfl, h.2, optDef zβ h.1⟩)
            refine ⟨⟨true, .none rfl, fun h w => optUndef h, fun zβ za zw zc => ?_⟩, ?_⟩
            ·exact wp_move rfl (zc.kn.ev rfl) ⟨_, rfl, Below.refl _ _, optDef zβ rfl⟩
            refine ⟨⟨true, .none rfl, fun h w => optUndef h, fun zβ za zw zc => ?_⟩, ?_⟩
            ·exact nilCheck_ rfl ((evt za 165).trans (optVal (zc.dep 2 165 (by kernel_rfl)) rfl rfl)) ⟨_, rfl, Below.refl _ _, optDef zβ rfl⟩
            refine ⟨⟨true, .none rfl, fun h w => optUndef h, fun zβ za zw zc => ?_⟩, ?_⟩
            ·exact fld_60_1 rfl ((evt za 166).trans (optVal (zc.dep 3 166 (by kernel_rfl)) rfl rfl)) ⟨_, rfl, Below.refl _ _, optDef zβ rfl⟩
            refine ⟨⟨true, .none rfl, fun h w => optUndef h, fun zβ za zw zc => ?_⟩, ?_⟩
            ·exact ld_25 rfl ((evt za 167).trans (optVal (zc.dep 4 167 (by kernel_rfl)) rfl rfl)) (bkeeps zc.below _ _ hOo222.c1) ⟨_, rfl, Below.refl _ _, optDef zβ rfl⟩
            refine ⟨⟨true, .none rfl, fun h w => optUndef h, fun zβ za zw zc => ?_⟩, ?_⟩
            ·exact len_25 rfl ((evt za 168).trans (optVal (zc.dep 5 168 (by kernel_rfl)) rfl rfl)) ⟨_, rfl, Below.refl _ _, optDef zβ rfl⟩
            refine ⟨⟨true, .none rfl, fun h w => optUndef h, fun zβ za zw zc => ?_⟩, ?_⟩
            ·exact neq_3 rfl ((evt za 164).trans (optVal (zc.dep 1 164 (by kernel_rfl)) rfl rfl)) ((evt za 169).trans (optVal (zc.dep 6 169 (by kernel_rfl)) rfl rfl)) ⟨_, rfl, Below.refl _ _, optDef zβ rfl⟩
            exact trivial
           ·intro za w224 zh hb225 zu
            have zh := zh.cons (d := 170) (v := .bool (((((x.2.length : Nat) : Int) : Int) != (((x.2.length : Nat) : Int) : Int)))) (optVal (zu 7 170 (by kernel_rfl)) rfl rfl)
            clear zu
            refine WE.go zh ?_
            refine WE.next ?_
            refine WC.condF rfl ((by simp)) ?_
            refine WC.skip (WE.blockNormal (WE.next (WC.region (WL.mv rfl rfl rfl rfl rfl ?_))))
            refine WL.val (.int .i64 ((((x.1 + 1) : Nat) : Int))) rfl rfl rfl (fun za zC zh zk => addb_3 rfl (zh.ev rfl) (zh.ev rfl) (wrap_eq (by omega) (by omega) (by omega)) zk) ?_
            refine WL.asg rfl rfl rfl rfl rfl ?_
            refine WL.nil (WE.sub (K' := [(0, .agg #[.slice sa sg.length sc]), (1, .slice a l.length c), (2, .pointer (some ⟨g2, 0, none⟩)), (5, .pointer (some ⟨gk18, 0, none⟩)), (6, .int .i64 0), (7, .pointer (some ⟨gr24, 0, none⟩)), (8, .int .i64 0), (9, .int .i64 ((((x.1 + 1) : Nat) : Int))), (10, .pointer (some ⟨g39, 0, none⟩)), (26, .bool ((decide ((100 : Int) < (((l.length : Nat) : Int) : Int))))), (48, .bool ((false != false))), (56, .bool (((decide ((((x.1 : Nat) : Int) : Int) < (((l.length : Nat) : Int) : Int))) && true))), (64, .int .i64 ((kget l x.1).act)), (65, .bool ((((kget l x.1).act : Int) == (0 : Int)))), (98, .bool ((((kget l x.1).act : Int) == (1 : Int)))), (107, .bool ((((kget l x.1).act : Int) == (2 : Int)))), (131, .bool ((((kget l x.1).act : Int) == (4 : Int)))), (170, .bool (((((x.2.length : Nat) : Int) : Int) != (((x.2.length : Nat) : Int) : Int))))]) ⟨rfl, rfl, rfl, rfl, rfl, rfl, rfl, rfl, rfl, rfl, rfl, rfl, rfl, rfl, rfl, rfl, rfl, rfl, trivial⟩ ?_)
            refine WE.round ((x.1 + 1, x.2)) ⟨rfl, rfl, rfl, rfl, rfl, rfl, rfl, rfl, rfl, rfl, trivial⟩ ?_ ?_
            ·have hb226 : Below w.heap.size w w224 := (bstep hb53 hb225)
             have hB227 := hB56.below hb225
             have ho229 := ho223.below hb225
             have ho230 := ho221.below hb225
             have hbb228 : BothB w224 w15.heap.size gk18 gr24 sg x.2 := ⟨Y, Yr, ho229, ho230, hYB, hRB, hYR⟩
             exact ⟨(by (try dsimp only); omega), (by (try dsimp only); omega), hb226, hB227, hbb228⟩
            ·(try dsimp only); omega
       ·have h140 : ¬ (((kget l x.1).act : Int) = (1 : Int)) := by simpa using h140
        refine WC.region ?_
        refine WL.val (.bool ((((kget l x.1).act : Int) == (3 : Int)))) rfl rfl rfl (fun za zC zh zk => eql_3 rfl (zh.ev rfl) (zh.ev rfl) zk) ?_
        refine WL.asg rfl rfl rfl rfl rfl (WL.nil (WE.next ?_))
        refine WC.cond rfl (fun h231 => ?_) (fun h231 => ?_)
        ·have h231 : ((kget l x.1).act : Int) = (3 : Int) := by simpa using h231
         refine WC.seq (WC.region (WL.mv rfl rfl rfl rfl rfl (WL.mv rfl rfl rfl rfl rfl ?_)))
         refine WL.val _ rfl rfl rfl (fun za zC zh zk => fld_55_2 rfl (zh.ev rfl) zk) ?_
         refine WL.val _ rfl rfl rfl (fun za zC zh zk => ld_3 rfl (zh.ev rfl) ((hB49.cell 3).trans rfl) zk) ?_
         have ho232 := hK.below hb54
         have ho233 := hR.below hb54
         refine WL.call rfl rfl rfl (fun za zh zC => wp_call (by kernel_rfl) rfl (hv3 (zh.ev rfl) (zh.ev rfl) (zh.ev rfl))) (told_any gk18 gr24 sg x.2 Y Yr (kget l x.1).n _ (by omega) ho232 ho233) ?_
         rintro _ w235 ⟨rfl, hq234⟩
         refine WL.val (.bool false) rfl rfl rfl (fun za zC zh zk => wp_not rfl (zh.ev rfl) zk) ?_
         refine WL.nil (WE.sub (K' := [(0, .agg #[.slice sa sg.length sc]), (1, .slice a l.length c), (2, .pointer (some ⟨g2, 0, none⟩)), (5, .pointer (some ⟨gk18, 0, none⟩)), (6, .int .i64 0), (7, .pointer (some ⟨gr24, 0, none⟩)), (8, .int .i64 0), (9, .int .i64 (((x.1 : Nat) : Int))), (10, .pointer (some ⟨g39, 0, none⟩)), (26, .bool ((decide ((100 : Int) < (((l.length : Nat) : Int) : Int))))), (48, .bool ((false != false))), (56, .bool (((decide ((((x.1 : Nat) : Int) : Int) < (((l.length : Nat) : Int) : Int))) && true))), (64, .int .i64 ((kget l x.1).act)), (65, .bool ((((kget l x.1).act : Int) == (0 : Int)))), (98, .bool ((((kget l x.1).act : Int) == (3 : Int)))), (106, .bool false)]) ⟨rfl, rfl, rfl, rfl, rfl, rfl, rfl, rfl, rfl, rfl, rfl, rfl, rfl, rfl, rfl, rfl, trivial⟩ ?_)
         refine WE.next ?_
         refine WC.condF rfl rfl ?_
         refine WC.skip (WE.blockNormal (WE.next (WC.seq ?_)))
         have ho236 := ho233.below hq234
         have ho238 := ho232.below hq234
         obtain ⟨So237, sao237, sco237, tao237, tco237, hOo237⟩ := id ho236
         have hJo237 : BkSJ w235 0 gk18 sg x.2 (fun _ => False) := ⟨_, ho238, fun _ _ => Nat.zero_le _, fun _ q => q.elim⟩
         refine WC.opt [(true, .val (.pointer (some ⟨gk18, 0, none⟩))), (true, .val (.int .i64 (((x.2.length : Nat) : Int)))), (true, .val (.pointer (some ⟨gr24, 0, none⟩))), (true, .val (.pointer (some ⟨gr24, 0, none⟩))), (true, .val (.pointer (some ⟨gr24, 1, none⟩))), (true, .val (.slice tao237 x.2.length tco237)), (true, .val (.int .i64 (((x.2.length : Nat) : Int)))), (true, .val (.bool (((((x.2.length : Nat) : Int) : Int) != (((x.2.length : Nat) : Int) : Int)))))] [(0, .agg #[.slice sa sg.length sc]), (1, .slice a l.length c), (2, .pointer (some ⟨g2, 0, none⟩)), (5, .pointer (some ⟨gk18, 0, none⟩)), (6, .int .i64 0), (7, .pointer (some ⟨gr24, 0, none⟩)), (8, .int .i64 0), (9, .int .i64 (((x.1 : Nat) : Int))), (10, .pointer (some ⟨g39, 0, none⟩)), (26, .bool ((decide ((100 : Int) < (((l.length : Nat) : Int) : Int))))), (48, .bool ((false != false))), (56, .bool (((decide ((((x.1 : Nat) : Int) : Int) < (((l.length : Nat) : Int) : Int))) && true))), (64, .int .i64 ((kget l x.1).act)), (65, .bool ((((kget l x.1).act : Int) == (0 : Int)))), (98, .bool ((((kget l x.1).act : Int) == (3 : Int)))), (106, .bool false)] ⟨rfl, rfl, rfl, rfl, rfl, rfl, rfl, rfl, rfl, rfl, rfl, rfl, rfl, rfl, rfl, rfl, trivial⟩ (by kernel_rfl) (by kernel_rfl) (by kernel_rfl) ?_ ?_
         ·refine ⟨⟨true, .none rfl, fun h w => optUndef h, fun zβ za zw zc => ?_⟩, ?_⟩
          ·exact wp_move rfl (zc.kn.ev rfl) ⟨_, rfl, Below.refl _ _, optDef zβ rfl⟩
          refine ⟨⟨true, .none rfl, fun h w => optUndef h, fun zβ za zw zc => ?_⟩, ?_⟩
          ·exact wp_call (by kernel_rfl) rfl (hv1 ((evt za 163).trans (optVal (zc.dep 0 163 (by kernel_rfl)) rfl rfl))) (jLen (BkSJ.below hJo237 zc.below)) (fun v w' h => ⟨v, rfl, h.2, optDef zβ h.1⟩)
          refine ⟨⟨true, .none rfl, fun h w => optUndef h, fun zβ za zw zc => ?_⟩, ?_⟩
          ·exact wp_move rfl (zc.kn.ev rfl) ⟨_, rfl, Below.refl _ _, optDef zβ rfl⟩
          refine ⟨⟨true, .none rfl, fun h w => optUndef h, fun zβ za zw zc => ?_⟩, ?_⟩
          ·exact nilCheck_ rfl ((evt za 165).trans (optVal (zc.dep 2 165 (by kernel_rfl)) rfl rfl)) ⟨_, rfl, Below.refl _ _, optDef zβ rfl⟩
          refine ⟨⟨true, .none rfl, fun h w => optUndef h, fun zβ za zw zc => ?_⟩, ?_⟩
          ·exact fld_60_1 rfl ((evt za 166).trans (optVal (zc.dep 3 166 (by kernel_rfl)) rfl rfl)) ⟨_, rfl, Below.refl _ _, optDef zβ rfl⟩
          refine ⟨⟨true, .none rfl, fun h w => optUndef h, fun zβ za zw zc => ?_⟩, ?_⟩
          ·exact ld_25 rfl ((evt za 167).trans (optVal (zc.dep 4 167 (by kernel_rfl)) rfl rfl)) (bkeeps zc.below _ _ hOo237.c1) ⟨_, rfl, Below.refl _ _, optDef zβ rfl⟩
          refine ⟨⟨true, .none rfl, fun h w => optUndef h, fun zβ za zw zc => ?_⟩, ?_⟩
          ·exact len_25 rfl ((evt za 168).trans (optVal (zc.dep 5 168 (by kernel_rfl)) rfl rfl)) ⟨_, rfl, Below.refl _ _, optDef zβ rfl⟩
          refine ⟨⟨true, .none rfl, fun h w => optUndef h, fun zβ za zw zc => ?_⟩, ?_⟩
          ·exact neq_3 rfl ((evt za 164).trans (optVal (zc.dep 1 164 (by kernel_rfl)) rfl rfl)) ((evt za 169).trans (optVal (zc.dep 6 169 (by kernel_rfl)) rfl rfl)) ⟨_, rfl, Below.refl _ _, optDef zβ rfl⟩
          exact trivial
         ·intro za w239 zh hb240 zu
          have zh := zh.cons (d := 170) (v := .bool (((((x.2.length : Nat) : Int) : Int) != (((x.2.length : Nat) : Int) : Int)))) (optVal (zu 7 170 (by kernel_rfl)) rfl rfl)
          clear zu
          refine WE.go zh ?_
          refine WE.next ?_
          refine WC.condF rfl ((by simp)) ?_
          refine WC.skip (WE.blockNormal (WE.next (WC.region (WL.mv rfl rfl rfl rfl rfl ?_))))
          refine WL.val (.int .i64 ((((x.1 + 1) : Nat) : Int))) rfl rfl rfl (fun za zC zh zk => addb_3 rfl (zh.ev rfl) (zh.ev rfl) (wrap_eq (by omega) (by omega) (by omega)) zk) ?_
          refine WL.asg rfl rfl rfl rfl rfl (WL.nil ?_)
          refine WE.round ((x.1 + 1, x.2)) ⟨rfl, rfl, rfl, rfl, rfl, rfl, rfl, rfl, rfl, rfl, trivial⟩ ?_ ?_
          ·have hb241 : Below w.heap.size w w239 := (bstep (bstep hb53 hq234) hb240)
           have hb243 : Below w47.heap.size w47 w239 := (bstep hq234 hb240)
           have hB242 := hB56.below hb243
           have ho245 := ho238.below hb240
           have ho246 := ho236.below hb240
           have hbb244 : BothB w239 w15.heap.size gk18 gr24 sg x.2 := ⟨Y, Yr, ho245, ho246, hYB, hRB, hYR⟩
           exact ⟨(by (try dsimp only); omega), (by (try dsimp only); omega), hb241, hB242, hbb244⟩
          ·(try dsimp only); omega
        ·have h231 : ¬ (((kget l x.1).act : Int) = (3 : Int)) := by simpa using h231
         refine WC.seq (WC.region ?_)
         refine WL.val (.bool ((((kget l x.1).act : Int) == (2 : Int)))) rfl rfl rfl (fun za zC zh zk => eql_3 rfl (zh.ev rfl) (zh.ev rfl) zk) ?_
         refine WL.asg rfl rfl rfl rfl rfl (WL.nil (WE.next ?_))
         refine WC.cond rfl (fun h247 => ?_) (fun h247 => ?_)
         ·have h247 : ((kget l x.1).act : Int) = (2 : Int) := by simpa using h247
          refine WC.seq (WC.region (WL.mv rfl rfl rfl rfl rfl ?_))
          refine WL.val _ rfl rfl rfl (fun za zC zh zk => fld_55_1 rfl (zh.ev rfl) zk) ?_
          refine WL.val _ rfl rfl rfl (fun za zC zh zk => ld_35 rfl (zh.ev rfl) ((hB49.cell 1).trans rfl) ((hB49.cell 2).trans rfl) zk) ?_
          have ho248 := hK.below hb54
          have hJ9 : BkSJ w47 0 gk18 sg x.2 (fun _ => False) := ⟨Y, ho248, fun _ _ => Nat.zero_le _, fun _ q => q.elim⟩
          refine WL.call rfl rfl rfl (fun za zh zC => wp_call (by kernel_rfl) rfl (hv2 (zh.ev rfl) (zh.ev rfl))) (jFind (kget l x.1).t _ (by omega) (by have z := (hlc x.1 (by omega)).2.2.2.2.2.2.2.2.2.1; omega) (IsT.below hb53 (hlc x.1 (by first | omega | (simp; omega))).2.2.2.2.2.2.1) hJ9) ?_
          rintro _ w250 ⟨rfl, hq249⟩
          refine WL.mv rfl rfl rfl rfl rfl ?_
          refine WL.val (.int .i64 ((((((kget l x.1).t.bfind x.2).getD 0) : Nat) : Int))) rfl rfl rfl (fun za zC zh zk => ext2_0 rfl (zh.ev rfl) zk) ?_
          refine WL.val (.bool (((kget l x.1).t.bfind x.2).isSome)) rfl rfl rfl (fun za zC zh zk => ext2_1 rfl (zh.ev rfl) zk) ?_
          refine WL.asg rfl rfl rfl rfl rfl (WL.asg rfl rfl rfl rfl rfl ?_)
          refine WL.nil (WE.sub (K' := [(0, .agg #[.slice sa sg.length sc]), (1, .slice a l.length c), (2, .pointer (some ⟨g2, 0, none⟩)), (5, .pointer (some ⟨gk18, 0, none⟩)), (6, .int .i64 0), (7, .pointer (some ⟨gr24, 0, none⟩)), (8, .int .i64 0), (9, .int .i64 (((x.1 : Nat) : Int))), (10, .pointer (some ⟨g39, 0, none⟩)), (16, .int .i64 ((((((kget l x.1).t.bfind x.2).getD 0) : Nat) : Int))), (17, .bool (((kget l x.1).t.bfind x.2).isSome)), (26, .bool ((decide ((100 : Int) < (((l.length : Nat) : Int) : Int))))), (48, .bool ((false != false))), (56, .bool (((decide ((((x.1 : Nat) : Int) : Int) < (((l.length : Nat) : Int) : Int))) && true))), (64, .int .i64 ((kget l x.1).act)), (65, .bool ((((kget l x.1).act : Int) == (0 : Int)))), (98, .bool ((((kget l x.1).act : Int) == (3 : Int)))), (107, .bool ((((kget l x.1).act : Int) == (2 : Int))))]) ⟨rfl, rfl, rfl, rfl, rfl, rfl, rfl, rfl, rfl, rfl, rfl, rfl, rfl, rfl, rfl, rfl, rfl, rfl, trivial⟩ ?_)
          refine WE.next (WC.seq (WC.region (WL.mv rfl rfl rfl rfl rfl ?_)))
          refine WL.val _ rfl rfl rfl (fun za zC zh zk => fld_55_1 rfl (zh.ev rfl) zk) ?_
          have hB251 := hB49.below hq249
          refine WL.val _ rfl rfl rfl (fun za zC zh zk => ld_35 rfl (zh.ev rfl) ((hB251.cell 1).trans rfl) ((hB251.cell 2).trans rfl) zk) ?_
          have hb252 : Below w.heap.size w w250 := (bstep hb53 hq249)
          have hb254 : Below w28.heap.size w28 w250 := (bstep hb54 hq249)
          have ho253 := hR.below hb254
          refine WL.call rfl rfl rfl (fun za zh zC => wp_call (by kernel_rfl) rfl (hv2 (zh.ev rfl) (zh.ev rfl))) (rbfind_any gr24 sg x.2 Yr (kget l x.1).t _ _ (by omega) (IsT.below hb252 (hlc x.1 (by first | omega | (simp; omega))).2.2.2.2.2.2.1) ho253) ?_
          rintro _ w256 ⟨rfl, hq255⟩
          refine WL.mv rfl rfl rfl rfl rfl ?_
          refine WL.val (.int .i64 ((((((kget l x.1).t.bfind x.2).getD 0) : Nat) : Int))) rfl rfl rfl (fun za zC zh zk => ext2_0 rfl (zh.ev rfl) zk) ?_
          refine WL.val (.bool (((kget l x.1).t.bfind x.2).isSome)) rfl rfl rfl (fun za zC zh zk => ext2_1 rfl (zh.ev rfl) zk) ?_
          refine WL.asg rfl rfl rfl rfl rfl (WL.asg rfl rfl rfl rfl rfl (WL.nil (WE.next (WC.seq ?_))))
          refine WC.opt [(true, .val (.int .i64 ((((((kget l x.1).t.bfind x.2).getD 0) : Nat) : Int)))), (true, .val (.int .i64 ((((((kget l x.1).t.bfind x.2).getD 0) : Nat) : Int)))), (true, .val (.bool ((((((((kget l x.1).t.bfind x.2).getD 0) : Nat) : Int) : Int) != ((((((kget l x.1).t.bfind x.2).getD 0) : Nat) : Int) : Int))))), (true, .val (.bool ((((((((kget l x.1).t.bfind x.2).getD 0) : Nat) : Int) : Int) != ((((((kget l x.1).t.bfind x.2).getD 0) : Nat) : Int) : Int))))), ((true && !(((((((kget l x.1).t.bfind x.2).getD 0) : Nat) : Int) : Int) != ((((((kget l x.1).t.bfind x.2).getD 0) : Nat) : Int) : Int))), .val (.bool (((kget l x.1).t.bfind x.2).isSome))), ((true && !(((((((kget l x.1).t.bfind x.2).getD 0) : Nat) : Int) : Int) != ((((((kget l x.1).t.bfind x.2).getD 0) : Nat) : Int) : Int))), .val (.bool (((kget l x.1).t.bfind x.2).isSome))), ((true && !(((((((kget l x.1).t.bfind x.2).getD 0) : Nat) : Int) : Int) != ((((((kget l x.1).t.bfind x.2).getD 0) : Nat) : Int) : Int))), .val (.bool ((((kget l x.1).t.bfind x.2).isSome != ((kget l x.1).t.bfind x.2).isSome)))), (true, .val (.bool (((((((((kget l x.1).t.bfind x.2).getD 0) : Nat) : Int) : Int) != ((((((kget l x.1).t.bfind x.2).getD 0) : Nat) : Int) : Int)) || (((kget l x.1).t.bfind x.2).isSome != ((kget l x.1).t.bfind x.2).isSome)))))] [(0, .agg #[.slice sa sg.length sc]), (1, .slice a l.length c), (2, .pointer (some ⟨g2, 0, none⟩)), (5, .pointer (some ⟨gk18, 0, none⟩)), (6, .int .i64 0), (7, .pointer (some ⟨gr24, 0, none⟩)), (8, .int .i64 0), (9, .int .i64 (((x.1 : Nat) : Int))), (10, .pointer (some ⟨g39, 0, none⟩)), (16, .int .i64 ((((((kget l x.1).t.bfind x.2).getD 0) : Nat) : Int))), (17, .bool (((kget l x.1).t.bfind x.2).isSome)), (18, .int .i64 ((((((kget l x.1).t.bfind x.2).getD 0) : Nat) : Int))), (19, .bool (((kget l x.1).t.bfind x.2).isSome)), (26, .bool ((decide ((100 : Int) < (((l.length : Nat) : Int) : Int))))), (48, .bool ((false != false))), (56, .bool (((decide ((((x.1 : Nat) : Int) : Int) < (((l.length : Nat) : Int) : Int))) && true))), (64, .int .i64 ((kget l x.1).act)), (65, .bool ((((kget l x.1).act : Int) == (0 : Int)))), (98, .bool ((((kget l x.1).act : Int) == (3 : Int)))), (107, .bool ((((kget l x.1).act : Int) == (2 : Int))))] ⟨rfl, rfl, rfl, rfl, rfl, rfl, rfl, rfl, rfl, rfl, rfl, rfl, rfl, rfl, rfl, rfl, rfl, rfl, rfl, rfl, trivial⟩ (by kernel_rfl) (by kernel_rfl) (by kernel_rfl) ?_ ?_
          ·refine ⟨⟨true, .none rfl, fun h w => optUndef h, fun zβ za zw zc => ?_⟩, ?_⟩
           ·exact wp_move rfl (zc.kn.ev rfl) ⟨_, rfl, Below.refl _ _, optDef zβ rfl⟩
           refine ⟨⟨true, .none rfl, fun h w => optUndef h, fun zβ za zw zc => ?_⟩, ?_⟩
           ·exact wp_move rfl (zc.kn.ev rfl) ⟨_, rfl, Below.refl _ _, optDef zβ rfl⟩
           refine ⟨⟨true, .none rfl, fun h w => optUndef h, fun zβ za zw zc => ?_⟩, ?_⟩
           ·exact neq_3 rfl ((evt za 123).trans (optVal (zc.dep 0 123 (by kernel_rfl)) rfl rfl)) ((evt za 124).trans (optVal (zc.dep 1 124 (by kernel_rfl)) rfl rfl)) ⟨_, rfl, Below.refl _ _, optDef zβ rfl⟩
           refine ⟨⟨true, .none rfl, fun h w => optUndef h, fun zβ za zw zc => ?_⟩, ?_⟩
           ·exact wp_move rfl ((evt za 125).trans (optVal (zc.dep 2 125 (by kernel_rfl)) rfl rfl)) ⟨_, rfl, Below.refl _ _, optDef zβ rfl⟩
           refine ⟨⟨_, .no (d := true) rfl (fun v w h => h), fun h w => optUndef h, fun zβ za zw zc => ?_⟩, ?_⟩
           ·exact wp_move rfl (zc.kn.ev rfl) ⟨_, rfl, Below.refl _ _, optDef zβ rfl⟩
           refine ⟨⟨_, .no (d := true) rfl (fun v w h => h), fun h w => optUndef h, fun zβ za zw zc => ?_⟩, ?_⟩
           ·exact wp_move rfl (zc.kn.ev rfl) ⟨_, rfl, Below.refl _ _, optDef zβ rfl⟩
           refine ⟨⟨_, .no (d := true) rfl (fun v w h => h), fun h w => optUndef h, fun zβ za zw zc => ?_⟩, ?_⟩
           ·exact neq_4 rfl ((evt za 127).trans (optVal (zc.dep 4 127 (by kernel_rfl)) rfl zβ)) ((evt za 128).trans (optVal (zc.dep 5 128 (by kernel_rfl)) rfl zβ)) ⟨_, rfl, Below.refl _ _, optDef zβ rfl⟩
           refine ⟨⟨true, .none rfl, fun h w => optUndef h, fun zβ za zw zc => ?_⟩, ?_⟩
           ·exact wp_or rfl ((evt za 126).trans (optVal (zc.dep 3 126 (by kernel_rfl)) rfl rfl)) (fun hp => ((evt za 129).trans (optVal (zc.dep 6 129 (by kernel_rfl)) rfl (bMkN zβ hp)))) ⟨_, rfl, Below.refl _ _, optDef zβ rfl⟩
           exact trivial
          ·intro za w257 zh hb258 zu
           have zh := zh.cons (d := 130) (v := .bool (((((((((kget l x.1).t.bfind x.2).getD 0) : Nat) : Int) : Int) != ((((((kget l x.1).t.bfind x.2).getD 0) : Nat) : Int) : Int)) || (((kget l x.1).t.bfind x.2).isSome != ((kget l x.1).t.bfind x.2).isSome)))) (optVal (zu 7 130 (by kernel_rfl)) rfl rfl)
           clear zu
           refine WE.go zh ?_
           refine WE.next ?_
           refine WC.condF rfl ((by simp)) ?_
           refine WC.skip (WE.blockNormal (WE.next (WC.seq ?_)))
           have hb260 : Below w250.heap.size w250 w257 := (bstep hq255 hb258)
           have ho259 := ho253.below hb260
           have hb263 : Below w47.heap.size w47 w257 := (bstep hq249 hb260)
           have ho262 := ho248.below hb263
           obtain ⟨So261, sao261, sco261, tao261, tco261, hOo261⟩ := id ho259
           have hJo261 : BkSJ w257 0 gk18 sg x.2 (fun _ => False) := ⟨_, ho262, fun _ _ => Nat.zero_le _, fun _ q => q.elim⟩
           refine WC.opt [(true, .val (.pointer (some ⟨gk18, 0, none⟩))), (true, .val (.int .i64 (((x.2.length : Nat) : Int)))), (true, .val (.pointer (some ⟨gr24, 0, none⟩))), (true, .val (.pointer (some ⟨gr24, 0, none⟩))), (true, .val (.pointer (some ⟨gr24, 1, none⟩))), (true, .val (.slice tao261 x.2.length tco261)), (true, .val (.int .i64 (((x.2.length : Nat) : Int)))), (true, .val (.bool (((((x.2.length : Nat) : Int) : Int) != (((x.2.length : Nat) : Int) : Int)))))] [(0, .agg #[.slice sa sg.length sc]), (1, .slice a l.length c), (2, .pointer (some ⟨g2, 0, none⟩)), (5, .pointer (some ⟨gk18, 0, none⟩)), (6, .int .i64 0), (7, .pointer (some ⟨gr24, 0, none⟩)), (8, .int .i64 0), (9, .int .i64 (((x.1 : Nat) : Int))), (10, .pointer (some ⟨g39, 0, none⟩)), (16, .int .i64 ((((((kget l x.1).t.bfind x.2).getD 0) : Nat) : Int))), (17, .bool (((kget l x.1).t.bfind x.2).isSome)), (18, .int .i64 ((((((kget l x.1).t.bfind x.2).getD 0) : Nat) : Int))), (19, .bool (((kget l x.1).t.bfind x.2).isSome)), (26, .bool ((decide ((100 : Int) < (((l.length : Nat) : Int) : Int))))), (48, .bool ((false != false))), (56, .bool (((decide ((((x.1 : Nat) : Int) : Int) < (((l.length : Nat) : Int) : Int))) && true))), (64, .int .i64 ((kget l x.1).act)), (65, .bool ((((kget l x.1).act : Int) == (0 : Int)))), (98, .bool ((((kget l x.1).act : Int) == (3 : Int)))), (107, .bool ((((kget l x.1).act : Int) == (2 : Int)))), (130, .bool (((((((((kget l x.1).t.bfind x.2).getD 0) : Nat) : Int) : Int) != ((((((kget l x.1).t.bfind x.2).getD 0) : Nat) : Int) : Int)) || (((kget l x.1).t.bfind x.2).isSome != ((kget l x.1).t.bfind x.2).isSome))))] ⟨rfl, rfl, rfl, rfl, rfl, rfl, rfl, rfl, rfl, rfl, rfl, rfl, rfl, rfl, rfl, rfl, rfl, rfl, rfl, rfl, rfl, trivial⟩ (by kernel_rfl) (by kernel_rfl) (by kernel_rfl) ?_ ?_
           ·refine ⟨⟨true, .none rfl, fun h w => optUndef h, fun zβ za zw zc => ?_⟩, ?_⟩
            ·exact wp_move rfl (zc.kn.ev rfl) ⟨_, rfl, Below.refl _ _, optDef zβ rfl⟩
            refine ⟨⟨true, .none rfl, fun h w => optUndef h, fun zβ za zw zc => ?_⟩, ?_⟩
            ·exact wp_call (by kernel_rfl) rfl (hv1 ((evt za 163).trans (optVal (zc.dep 0 163 (by kernel_rfl)) rfl rfl))) (jLen (BkSJ.below hJo261 zc.below)) (fun v w' h => ⟨v, rfl, h.2, optDef zβ h.1⟩)
            refine ⟨⟨true, .none rfl, fun h w => optUndef h, fun zβ za zw zc => ?_⟩, ?_⟩
            ·exact wp_move rfl (zc.kn.ev rfl) ⟨_, rfl, Below.refl _ _, optDef zβ rfl⟩
            refine ⟨⟨true, .none rfl, fun h w => optUndef h, fun zβ za zw zc => ?_⟩, ?_⟩
            ·exact nilCheck_ rfl ((evt za 165).trans (optVal (zc.dep 2 165 (by kernel_rfl)) rfl rfl)) ⟨_, rfl, Below.refl _ _, optDef zβ rfl⟩
            refine ⟨⟨true, .none rfl, fun h w => optUndef h, fun zβ za zw zc => ?_⟩, ?_⟩
            ·exact fld_60_1 rfl ((evt za 166).trans (optVal (zc.dep 3 166 (by kernel_rfl)) rfl rfl)) ⟨_, rfl, Below.refl _ _, optDef zβ rfl⟩
            refine ⟨⟨true, .none rfl, fun h w => optUndef h, fun zβ za zw zc => ?_⟩, ?_⟩
            ·exact ld_25 rfl ((evt za 167).trans (optVal (zc.dep 4 167 (by kernel_rfl)) rfl rfl)) (bkeeps zc.below _ _ hOo261.c1) ⟨_, rfl, Below.refl _ _, optDef zβ rfl⟩
            refine ⟨⟨true, .none rfl, fun h w => optUndef h, fun zβ za zw zc => ?_⟩, ?_⟩
            ·exact len_25 rfl ((evt za 168).trans (optVal (zc.dep 5 168 (by kernel_rfl)) rfl rfl)) ⟨_, rfl, Below.refl _ _, optDef zβ rfl⟩
            refine ⟨⟨true, .none rfl, fun h w => optUndef h, fun zβ za zw zc => ?_⟩, ?_⟩
            ·exact neq_3 rfl ((evt za 164).trans (optVal (zc.dep 1 164 (by kernel_rfl)) rfl rfl)) ((evt za 169).trans (optVal (zc.dep 6 169 (by kernel_rfl)) rfl rfl)) ⟨_, rfl, Below.refl _ _, optDef zβ rfl⟩
            exact trivial
           ·intro za w264 zh hb265 zu
            have zh := zh.cons (d := 170) (v := .bool (((((x.2.length : Nat) : Int) : Int) != (((x.2.length : Nat) : Int) : Int)))) (optVal (zu 7 170 (by kernel_rfl)) rfl rfl)
            clear zu
            refine WE.go zh ?_
            refine WE.next ?_
            refine WC.condF rfl ((by simp)) ?_
            refine WC.skip (WE.blockNormal (WE.next (WC.region (WL.mv rfl rfl rfl rfl rfl ?_))))
            refine WL.val (.int .i64 ((((x.1 + 1) : Nat) : Int))) rfl rfl rfl (fun za zC zh zk => addb_3 rfl (zh.ev rfl) (zh.ev rfl) (wrap_eq (by omega) (by omega) (by omega)) zk) ?_
            refine WL.asg rfl rfl rfl rfl rfl (WL.nil ?_)
            refine WE.round ((x.1 + 1, x.2)) ⟨rfl, rfl, rfl, rfl, rfl, rfl, rfl, rfl, rfl, rfl, trivial⟩ ?_ ?_
            ·have hb266 : Below w.heap.size w w264 := (bstep (bstep hb53 hb263) hb265)
             have hb268 : Below w47.heap.size w47 w264 := (bstep hb263 hb265)
             have hB267 := hB56.below hb268
             have ho270 := ho262.below hb265
             have ho271 := ho259.below hb265
             have hbb269 : BothB w264 w15.heap.size gk18 gr24 sg x.2 := ⟨Y, Yr, ho270, ho271, hYB, hRB, hYR⟩
             exact ⟨(by (try dsimp only); omega), (by (try dsimp only); omega), hb266, hB267, hbb269⟩
            ·(try dsimp only); omega
         ·have h247 : ¬ (((kget l x.1).act : Int) = (2 : Int)) := by simpa using h247
          refine WC.seq (WC.region ?_)
          refine WL.val (.bool ((((kget l x.1).act : Int) == (4 : Int)))) rfl rfl rfl (fun za zC zh zk => eql_3 rfl (zh.ev rfl) (zh.ev rfl) zk) ?_
          refine WL.asg rfl rfl rfl rfl rfl (WL.nil (WE.next ?_))
          refine WC.cond rfl (fun h272 => ?_) (fun h272 => ?_)
          ·have h272 : ((kget l x.1).act : Int) = (4 : Int) := by simpa using h272
           refine WC.seq (WC.region (WL.mv rfl rfl rfl rfl rfl ?_))
           refine WL.val _ rfl rfl rfl (fun za zC zh zk => fld_55_2 rfl (zh.ev rfl) zk) ?_
           refine WL.val _ rfl rfl rfl (fun za zC zh zk => ld_3 rfl (zh.ev rfl) ((hB49.cell 3).trans rfl) zk) ?_
           refine WL.val _ rfl rfl rfl (fun za zC zh zk => fld_55_4 rfl (zh.ev rfl) zk) ?_
           refine WL.val _ rfl rfl rfl (fun za zC zh zk => ld_53 rfl (zh.ev rfl) ((hB49.cell 5).trans rfl) zk) ?_
           refine WL.val _ rfl rfl rfl (fun za zC zh zk => fld_55_3 rfl (zh.ev rfl) zk) ?_
           refine WL.val _ rfl rfl rfl (fun za zC zh zk => ld_3 rfl (zh.ev rfl) ((hB49.cell 4).trans rfl) zk) ?_
           have hl273 := hB56.lt
           have hl274 := hB49.lt
           have ho275 := hK.below hb54
           have ho276 := hR.below hb54
           have hs01 : w28.heap.size ≤ w47.heap.size := hb54.size
           refine WL.call rfl rfl rfl (fun za zh zC => wp_call (by kernel_rfl) rfl (hv4 (zh.ev rfl) (zh.ev rfl) (zh.ev rfl) (zh.ev rfl))) (bRep_any gk18 sg x.2 Y (kget l x.1).n (kget l x.1).m (kget l x.1).p _ _ _ (by omega) (hlc x.1 (by omega)).2.2.2.2.2.2.2.2.1 (PIs.below (hlc x.1 (by omega)).2.2.2.2.2.2.2.1 hb53) ho275) ?_
           rintro _ w281 ⟨rfl, ⟨Y277, hK278, hZ279⟩, hc280⟩
           have hb282 := chg_below hb53 hc280 (fun b q k => by have z := hYB b k; omega)
           have ho283 := RbS.chg ho276 hc280 (fun b q k => hYR b k q)
           have hB284 := chg_blk hB56 hc280 (fun k => by have z := hYl _ k; have z2 := hYB _ k; omega)
           have hB285 := chg_blk hB49 hc280 (fun k => by have z := hYl _ k; have z2 := hYB _ k; omega)
           refine WL.mv rfl rfl rfl rfl rfl ?_
           refine WL.val (.int .i64 ((repVI sg x.2 (kget l x.1).n (kget l x.1).m (kget l x.1).p))) rfl rfl rfl (fun za zC zh zk => ext2_0 rfl (zh.ev rfl) zk) ?_
           refine WL.val (.int .i64 ((repEI sg x.2 (kget l x.1).n (kget l x.1).m (kget l x.1).p))) rfl rfl rfl (fun za zC zh zk => ext2_1 rfl (zh.ev rfl) zk) ?_
           refine WL.asg rfl rfl rfl rfl rfl (WL.asg rfl rfl rfl rfl rfl ?_)
           refine WL.nil (WE.sub (K' := [(0, .agg #[.slice sa sg.length sc]), (1, .slice a l.length c), (2, .pointer (some ⟨g2, 0, none⟩)), (5, .pointer (some ⟨gk18, 0, none⟩)), (6, .int .i64 0), (7, .pointer (some ⟨gr24, 0, none⟩)), (8, .int .i64 0), (9, .int .i64 (((x.1 : Nat) : Int))), (10, .pointer (some ⟨g39, 0, none⟩)), (20, .int .i64 ((repVI sg x.2 (kget l x.1).n (kget l x.1).m (kget l x.1).p))), (21, .int .i64 ((repEI sg x.2 (kget l x.1).n (kget l x.1).m (kget l x.1).p))), (26, .bool ((decide ((100 : Int) < (((l.length : Nat) : Int) : Int))))), (48, .bool ((false != false))), (56, .bool (((decide ((((x.1 : Nat) : Int) : Int) < (((l.length : Nat) : Int) : Int))) && true))), (64, .int .i64 ((kget l x.1).act)), (65, .bool ((((kget l x.1).act : Int) == (0 : Int)))), (98, .bool ((((kget l x.1).act : Int) == (3 : Int)))), (107, .bool ((((kget l x.1).act : Int) == (2 : Int)))), (131, .bool ((((kget l x.1).act : Int) == (4 : Int))))]) ⟨rfl, rfl, rfl, rfl, rfl, rfl, rfl, rfl, rfl, rfl, rfl, rfl, rfl, rfl, rfl, rfl, rfl, rfl, rfl, trivial⟩ ?_)
           refine WE.next (WC.seq (WC.region (WL.mv rfl rfl rfl rfl rfl ?_)))
           refine WL.val _ rfl rfl rfl (fun za zC zh zk => fld_55_2 rfl (zh.ev rfl) zk) ?_
           refine WL.val _ rfl rfl rfl (fun za zC zh zk => ld_3 rfl (zh.ev rfl) ((hB285.cell 3).trans rfl) zk) ?_
           refine WL.val _ rfl rfl rfl (fun za zC zh zk => fld_55_4 rfl (zh.ev rfl) zk) ?_
           refine WL.val _ rfl rfl rfl (fun za zC zh zk => ld_53 rfl (zh.ev rfl) ((hB285.cell 5).trans rfl) zk) ?_
           refine WL.val _ rfl rfl rfl (fun za zC zh zk => fld_55_3 rfl (zh.ev rfl) zk) ?_
           refine WL.val _ rfl rfl rfl (fun za zC zh zk => ld_3 rfl (zh.ev rfl) ((hB285.cell 4).trans rfl) zk) ?_
           have hl286 := hB284.lt
           have hl287 := hB285.lt
           have hs292 : w28.heap.size ≤ w281.heap.size := (Nat.le_trans hb54.size hc280.size)
           have hs12 : w47.heap.size ≤ w281.heap.size := hc280.size
           have h8l : ∀ b, Y277 b → b < w281.heap.size := BkS.lt hK278
           refine WL.call rfl rfl rfl (fun za zh zC => wp_call (by kernel_rfl) rfl (hv4 (zh.ev rfl) (zh.ev rfl) (zh.ev rfl) (zh.ev rfl))) (rbRep_any gr24 sg x.2 Yr (kget l x.1).n (kget l x.1).m (kget l x.1).p _ _ _ (by omega) (hlc x.1 (by omega)).2.2.2.2.2.2.2.2.1 (PIs.below (hlc x.1 (by omega)).2.2.2.2.2.2.2.1 hb282) ho283) ?_
           rintro _ w293 ⟨rfl, ⟨Y288, hK289, hZ290⟩, hc291⟩
           have hb294 := chg_below hb282 hc291 (fun b q k => by have z := hRB b k; omega)
           have ho295 := BkS.chg hK278 hc291 (fun b q k => by rcases hZ279 b q with z | z; exact hYR b z k; (have z2 := hRl b k; omega))
           have hB296 := chg_blk hB284 hc291 (fun k => by have z := hRl _ k; have z2 := hRB _ k; omega)
           have hB297 := chg_blk hB285 hc291 (fun k => by have z := hRl _ k; have z2 := hRB _ k; omega)
           refine WL.mv rfl rfl rfl rfl rfl ?_
           refine WL.val (.int .i64 ((repVI sg x.2 (kget l x.1).n (kget l x.1).m (kget l x.1).p))) rfl rfl rfl (fun za zC zh zk => ext2_0 rfl (zh.ev rfl) zk) ?_
           refine WL.val (.int .i64 ((repEI sg x.2 (kget l x.1).n (kget l x.1).m (kget l x.1).p))) rfl rfl rfl (fun za zC zh zk => ext2_1 rfl (zh.ev rfl) zk) ?_
           refine WL.asg rfl rfl rfl rfl rfl (WL.asg rfl rfl rfl rfl rfl (WL.nil (WE.next (WC.seq ?_))))
           refine WC.opt [(true, .val (.int .i64 ((repVI sg x.2 (kget l x.1).n (kget l x.1).m (kget l x.1).p)))), (true, .val (.int .i64 ((repVI sg x.2 (kget l x.1).n (kget l x.1).m (kget l x.1).p)))), (true, .val (.bool ((((repVI sg x.2 (kget l x.1).n (kget l x.1).m (kget l x.1).p) : Int) != ((repVI sg x.2 (kget l x.1).n (kget l x.1).m (kget l x.1).p) : Int))))), (true, .val (.bool ((((repVI sg x.2 (kget l x.1).n (kget l x.1).m (kget l x.1).p) : Int) != ((repVI sg x.2 (kget l x.1).n (kget l x.1).m (kget l x.1).p) : Int))))), ((true && !(((repVI sg x.2 (kget l x.1).n (kget l x.1).m (kget l x.1).p) : Int) != ((repVI sg x.2 (kget l x.1).n (kget l x.1).m (kget l x.1).p) : Int))), .val (.int .i64 ((repEI sg x.2 (kget l x.1).n (kget l x.1).m (kget l x.1).p)))), ((true && !(((repVI sg x.2 (kget l x.1).n (kget l x.1).m (kget l x.1).p) : Int) != ((repVI sg x.2 (kget l x.1).n (kget l x.1).m (kget l x.1).p) : Int))), .val (.int .i64 ((repEI sg x.2 (kget l x.1).n (kget l x.1).m (kget l x.1).p)))), ((true && !(((repVI sg x.2 (kget l x.1).n (kget l x.1).m (kget l x.1).p) : Int) != ((repVI sg x.2 (kget l x.1).n (kget l x.1).m (kget l x.1).p) : Int))), .val (.bool ((((repEI sg x.2 (kget l x.1).n (kget l x.1).m (kget l x.1).p) : Int) != ((repEI sg x.2 (kget l x.1).n (kget l x.1).m (kget l x.1).p) : Int))))), (true, .val (.bool (((((repVI sg x.2 (kget l x.1).n (kget l x.1).m (kget l x.1).p) : Int) != ((repVI sg x.2 (kget l x.1).n (kget l x.1).m (kget l x.1).p) : Int)) || (((repEI sg x.2 (kget l x.1).n (kget l x.1).m (kget l x.1).p) : Int) != ((repEI sg x.2 (kget l x.1).n (kget l x.1).m (kget l x.1).p) : Int))))))] [(0, .agg #[.slice sa sg.length sc]), (1, .slice a l.length c), (2, .pointer (some ⟨g2, 0, none⟩)), (5, .pointer (some ⟨gk18, 0, none⟩)), (6, .int .i64 0), (7, .pointer (some ⟨gr24, 0, none⟩)), (8, .int .i64 0), (9, .int .i64 (((x.1 : Nat) : Int))), (10, .pointer (some ⟨g39, 0, none⟩)), (20, .int .i64 ((repVI sg x.2 (kget l x.1).n (kget l x.1).m (kget l x.1).p))), (21, .int .i64 ((repEI sg x.2 (kget l x.1).n (kget l x.1).m (kget l x.1).p))), (22, .int .i64 ((repVI sg x.2 (kget l x.1).n (kget l x.1).m (kget l x.1).p))), (23, .int .i64 ((repEI sg x.2 (kget l x.1).n (kget l x.1).m (kget l x.1).p))), (26, .bool ((decide ((100 : Int) < (((l.length : Nat) : Int) : Int))))), (48, .bool ((false != false))), (56, .bool (((decide ((((x.1 : Nat) : Int) : Int) < (((l.length : Nat) : Int) : Int))) && true))), (64, .int .i64 ((kget l x.1).act)), (65, .bool ((((kget l x.1).act : Int) == (0 : Int)))), (98, .bool ((((kget l x.1).act : Int) == (3 : Int)))), (107, .bool ((((kget l x.1).act : Int) == (2 : Int)))), (131, .bool ((((kget l x.1).act : Int) == (4 : Int))))] ⟨rfl, rfl, rfl, rfl, rfl, rfl, rfl, rfl, rfl, rfl, rfl, rfl, rfl, rfl, rfl, rfl, rfl, rfl, rfl, rfl, rfl, trivial⟩ (by kernel_rfl) (by kernel_rfl) (by kernel_rfl) ?_ ?_
           ·refine ⟨⟨true, .none rfl, fun h w => optUndef h, fun zβ za zw zc => ?_⟩, ?_⟩
            ·exact wp_move rfl (zc.kn.ev rfl) ⟨_, rfl, Below.refl _ _, optDef zβ rfl⟩
            refine ⟨⟨true, .none rfl, fun h w => optUndef h, fun zβ za zw zc => ?_⟩, ?_⟩
            ·exact wp_move rfl (zc.kn.ev rfl) ⟨_, rfl, Below.refl _ _, optDef zβ rfl⟩
            refine ⟨⟨true, .none rfl, fun h w => optUndef h, fun zβ za zw zc => ?_⟩, ?_⟩
            ·exact neq_3 rfl ((evt za 155).trans (optVal (zc.dep 0 155 (by kernel_rfl)) rfl rfl)) ((evt za 156).trans (optVal (zc.dep 1 156 (by kernel_rfl)) rfl rfl)) ⟨_, rfl, Below.refl _ _, optDef zβ rfl⟩
            refine ⟨⟨true, .none rfl, fun h w => optUndef h, fun zβ za zw zc => ?_⟩, ?_⟩
            ·exact wp_move rfl ((evt za 157).trans (optVal (zc.dep 2 157 (by kernel_rfl)) rfl rfl)) ⟨_, rfl, Below.refl _ _, optDef zβ rfl⟩
            refine ⟨⟨_, .no (d := true) rfl (fun v w h => h), fun h w => optUndef h, fun zβ za zw zc => ?_⟩, ?_⟩
            ·exact wp_move rfl (zc.kn.ev rfl) ⟨_, rfl, Below.refl _ _, optDef zβ rfl⟩
            refine ⟨⟨_, .no (d := true) rfl (fun v w h => h), fun h w => optUndef h, fun zβ za zw zc => ?_⟩, ?_⟩
            ·exact wp_move rfl (zc.kn.ev rfl) ⟨_, rfl, Below.refl _ _, optDef zβ rfl⟩
            refine ⟨⟨_, .no (d := true) rfl (fun v w h => h), fun h w => optUndef h, fun zβ za zw zc => ?_⟩, ?_⟩
            ·exact neq_27 rfl ((evt za 159).trans (optVal (zc.dep 4 159 (by kernel_rfl)) rfl zβ)) ((evt za 160).trans (optVal (zc.dep 5 160 (by kernel_rfl)) rfl zβ)) ⟨_, rfl, Below.refl _ _, optDef zβ rfl⟩
            refine ⟨⟨true, .none rfl, fun h w => optUndef h, fun zβ za zw zc => ?_⟩, ?_⟩
            ·exact wp_or rfl ((evt za 158).trans (optVal (zc.dep 3 158 (by kernel_rfl)) rfl rfl)) (fun hp => ((evt za 161).trans (optVal (zc.dep 6 161 (by kernel_rfl)) rfl (bMkN zβ hp)))) ⟨_, rfl, Below.refl _ _, optDef zβ rfl⟩
            exact trivial
           ·intro za w298 zh hb299 zu
            have zh := zh.cons (d := 162) (v := .bool (((((repVI sg x.2 (kget l x.1).n (kget l x.1).m (kget l x.1).p) : Int) != ((repVI sg x.2 (kget l x.1).n (kget l x.1).m (kget l x.1).p) : Int)) || (((repEI sg x.2 (kget l x.1).n (kget l x.1).m (kget l x.1).p) : Int) != ((repEI sg x.2 (kget l x.1).n (kget l x.1).m (kget l x.1).p) : Int))))) (optVal (zu 7 162 (by kernel_rfl)) rfl rfl)
            clear zu
            refine WE.go zh ?_
            refine WE.next ?_
            refine WC.condF rfl ((by simp)) ?_
            refine WC.skip (WE.blockNormal (WE.next (WC.seq ?_)))
            have ho300 := hK289.below hb299
            have ho302 := ho295.below hb299
            obtain ⟨So301, sao301, sco301, tao301, tco301, hOo301⟩ := id ho300
            have hJo301 : BkSJ w298 0 gk18 sg (repNI sg x.2 (kget l x.1).n (kget l x.1).m (kget l x.1).p) (fun _ => False) := ⟨_, ho302, fun _ _ => Nat.zero_le _, fun _ q => q.elim⟩
            refine WC.opt [(true, .val (.pointer (some ⟨gk18, 0, none⟩))), (true, .val (.int .i64 (((((repNI sg x.2 (kget l x.1).n (kget l x.1).m (kget l x.1).p)).length : Nat) : Int)))), (true, .val (.pointer (some ⟨gr24, 0, none⟩))), (true, .val (.pointer (some ⟨gr24, 0, none⟩))), (true, .val (.pointer (some ⟨gr24, 1, none⟩))), (true, .val (.slice tao301 (((repNI sg x.2 (kget l x.1).n (kget l x.1).m (kget l x.1).p)).length) tco301)), (true, .val (.int .i64 (((((repNI sg x.2 (kget l x.1).n (kget l x.1).m (kget l x.1).p)).length : Nat) : Int)))), (true, .val (.bool (((((((repNI sg x.2 (kget l x.1).n (kget l x.1).m (kget l x.1).p)).length : Nat) : Int) : Int) != (((((repNI sg x.2 (kget l x.1).n (kget l x.1).m (kget l x.1).p)).length : Nat) : Int) : Int)))))] [(0, .agg #[.slice sa sg.length sc]), (1, .slice a l.length c), (2, .pointer (some ⟨g2, 0, none⟩)), (5, .pointer (some ⟨gk18, 0, none⟩)), (6, .int .i64 0), (7, .pointer (some ⟨gr24, 0, none⟩)), (8, .int .i64 0), (9, .int .i64 (((x.1 : Nat) : Int))), (10, .pointer (some ⟨g39, 0, none⟩)), (20, .int .i64 ((repVI sg x.2 (kget l x.1).n (kget l x.1).m (kget l x.1).p))), (21, .int .i64 ((repEI sg x.2 (kget l x.1).n (kget l x.1).m (kget l x.1).p))), (22, .int .i64 ((repVI sg x.2 (kget l x.1).n (kget l x.1).m (kget l x.1).p))), (23, .int .i64 ((repEI sg x.2 (kget l x.1).n (kget l x.1).m (kget l x.1).p))), (26, .bool ((decide ((100 : Int) < (((l.length : Nat) : Int) : Int))))), (48, .bool ((false != false))), (56, .bool (((decide ((((x.1 : Nat) : Int) : Int) < (((l.length : Nat) : Int) : Int))) && true))), (64, .int .i64 ((kget l x.1).act)), (65, .bool ((((kget l x.1).act : Int) == (0 : Int)))), (98, .bool ((((kget l x.1).act : Int) == (3 : Int)))), (107, .bool ((((kget l x.1).act : Int) == (2 : Int)))), (131, .bool ((((kget l x.1).act : Int) == (4 : Int)))), (162, .bool (((((repVI sg x.2 (kget l x.1).n (kget l x.1).m (kget l x.1).p) : Int) != ((repVI sg x.2 (kget l x.1).n (kget l x.1).m (kget l x.1).p) : Int)) || (((repEI sg x.2 (kget l x.1).n (kget l x.1).m (kget l x.1).p) : Int) != ((repEI sg x.2 (kget l x.1).n (kget l x.1).m (kget l x.1).p) : Int)))))] ⟨rfl, rfl, rfl, rfl, rfl, rfl, rfl, rfl, rfl, rfl, rfl, rfl, rfl, rfl, rfl, rfl, rfl, rfl, rfl, rfl, rfl, rfl, trivial⟩ (by kernel_rfl) (by kernel_rfl) (by kernel_rfl) ?_ ?_
            ·refine ⟨⟨true, .none rfl, fun h w => optUndef h, fun zβ za zw zc => ?_⟩, ?_⟩
             ·exact wp_move rfl (zc.kn.ev rfl) ⟨_, rfl, Below.refl _ _, optDef zβ rfl⟩
             refine ⟨⟨true, .none rfl, fun h w => optUndef h, fun zβ za zw zc => ?_⟩, ?_⟩
             ·exact wp_call (by kernel_rfl) rfl (hv1 ((evt za 163).trans (optVal (zc.dep 0 163 (by kernel_rfl)) rfl rfl))) (jLen (BkSJ.below hJo301 zc.below)) (fun v w' h => ⟨v, rfl, h.2, optDef zβ h.1⟩)
             refine ⟨⟨true, .none rfl, fun h w => optUndef h, fun zβ za zw zc => ?_⟩, ?_⟩
             ·exact wp_move rfl (zc.kn.ev rfl) ⟨_, rfl, Below.refl _ _, optDef zβ rfl⟩
             refine ⟨⟨true, .none rfl, fun h w => optUndef h, fun zβ za zw zc => ?_⟩, ?_⟩
             ·exact nilCheck_ rfl ((evt za 165).trans (optVal (zc.dep 2 165 (by kernel_rfl)) rfl rfl)) ⟨_, rfl, Below.refl _ _, optDef zβ rfl⟩
             refine ⟨⟨true, .none rfl, fun h w => optUndef h, fun zβ za zw zc => ?_⟩, ?_⟩
             ·exact fld_60_1 rfl ((evt za 166).trans (optVal (zc.dep 3 166 (by kernel_rfl)) rfl rfl)) ⟨_, rfl, Below.refl _ _, optDef zβ rfl⟩
             refine ⟨⟨true, .none rfl, fun h w => optUndef h, fun zβ za zw zc => ?_⟩, ?_⟩
             ·exact ld_25 rfl ((evt za 167).trans (optVal (zc.dep 4 167 (by kernel_rfl)) rfl rfl)) (bkeeps zc.below _ _ hOo301.c1) ⟨_, rfl, Below.refl _ _, optDef zβ rfl⟩
             refine ⟨⟨true, .none rfl, fun h w => optUndef h, fun zβ za zw zc => ?_⟩, ?_⟩
             ·exact len_25 rfl ((evt za 168).trans (optVal (zc.dep 5 168 (by kernel_rfl)) rfl rfl)) ⟨_, rfl, Below.refl _ _, optDef zβ rfl⟩
             refine ⟨⟨true, .none rfl, fun h w => optUndef h, fun zβ za zw zc => ?_⟩, ?_⟩
             ·exact neq_3 rfl ((evt za 164).trans (optVal (zc.dep 1 164 (by kernel_rfl)) rfl rfl)) ((evt za 169).trans (optVal (zc.dep 6 169 (by kernel_rfl)) rfl rfl)) ⟨_, rfl, Below.refl _ _, optDef zβ rfl⟩
             exact trivial
            ·intro za w303 zh hb304 zu
             have zh := zh.cons (d := 170) (v := .bool (((((((repNI sg x.2 (kget l x.1).n (kget l x.1).m (kget l x.1).p)).length : Nat) : Int) : Int) != (((((repNI sg x.2 (kget l x.1).n (kget l x.1).m (kget l x.1).p)).length : Nat) : Int) : Int)))) (optVal (zu 7 170 (by kernel_rfl)) rfl rfl)
             clear zu
             refine WE.go zh ?_
             refine WE.next ?_
             refine WC.condF rfl ((by simp)) ?_
             refine WC.skip (WE.blockNormal (WE.next (WC.region (WL.mv rfl rfl rfl rfl rfl ?_))))
             refine WL.val (.int .i64 ((((x.1 + 1) : Nat) : Int))) rfl rfl rfl (fun za zC zh zk => addb_3 rfl (zh.ev rfl) (zh.ev rfl) (wrap_eq (by omega) (by omega) (by omega)) zk) ?_
             refine WL.asg rfl rfl rfl rfl rfl ?_
             refine WL.nil (WE.sub (K' := [(0, .agg #[.slice sa sg.length sc]), (1, .slice a l.length c), (2, .pointer (some ⟨g2, 0, none⟩)), (5, .pointer (some ⟨gk18, 0, none⟩)), (6, .int .i64 0), (7, .pointer (some ⟨gr24, 0, none⟩)), (8, .int .i64 0), (9, .int .i64 ((((x.1 + 1) : Nat) : Int))), (10, .pointer (some ⟨g39, 0, none⟩)), (20, .int .i64 ((repVI sg x.2 (kget l x.1).n (kget l x.1).m (kget l x.1).p))), (21, .int .i64 ((repEI sg x.2 (kget l x.1).n (kget l x.1).m (kget l x.1).p))), (22, .int .i64 ((repVI sg x.2 (kget l x.1).n (kget l x.1).m (kget l x.1).p))), (23, .int .i64 ((repEI sg x.2 (kget l x.1).n (kget l x.1).m (kget l x.1).p))), (26, .bool ((decide ((100 : Int) < (((l.length : Nat) : Int) : Int))))), (48, .bool ((false != false))), (56, .bool (((decide ((((x.1 : Nat) : Int) : Int) < (((l.length : Nat) : Int) : Int))) && true))), (64, .int .i64 ((kget l x.1).act)), (65, .bool ((((kget l x.1).act : Int) == (0 : Int)))), (98, .bool ((((kget l x.1).act : Int) == (3 : Int)))), (107, .bool ((((kget l x.1).act : Int) == (2 : Int)))), (131, .bool ((((kget l x.1).act : Int) == (4 : Int)))), (162, .bool (((((repVI sg x.2 (kget l x.1).n (kget l x.1).m (kget l x.1).p) : Int) != ((repVI sg x.2 (kget l x.1).n (kget l x.1).m (kget l x.1).p) : Int)) || (((repEI sg x.2 (kget l x.1).n (kget l x.1).m (kget l x.1).p) : Int) != ((repEI sg x.2 (kget l x.1).n (kget l x.1).m (kget l x.1).p) : Int))))), (170, .bool (((((((repNI sg x.2 (kget l x.1).n (kget l x.1).m (kget l x.1).p)).length : Nat) : Int) : Int) != (((((repNI sg x.2 (kget l x.1).n (kget l x.1).m (kget l x.1).p)).length : Nat) : Int) : Int))))]) ⟨rfl, rfl, rfl, rfl, rfl, rfl, rfl, rfl, rfl, rfl, rfl, rfl, rfl, rfl, rfl, rfl, rfl, rfl, rfl, rfl, rfl, rfl, rfl, trivial⟩ ?_)
             refine WE.round ((x.1 + 1, (repNI sg x.2 (kget l x.1).n (kget l x.1).m (kget l x.1).p))) ⟨rfl, rfl, rfl, rfl, rfl, rfl, rfl, rfl, rfl, rfl, trivial⟩ ?_ ?_
             ·have hb305 : Below w.heap.size w w303 := (bstep (bstep hb294 hb299) hb304)
              have hb307 : Below w293.heap.size w293 w303 := (bstep hb299 hb304)
              have hB306 := hB296.below hb307
              have ho309 := ho302.below hb304
              have ho310 := ho300.below hb304
              have hbb308 : BothB w303 w15.heap.size gk18 gr24 sg ((repNI sg x.2 (kget l x.1).n (kget l x.1).m (kget l x.1).p)) := BothB.next ho309 ho310 hYB hRB hYl hRl hYR hZ279 h8l hZ290 hs01 hs12 hB0
              exact ⟨(by (try dsimp only); omega), (by (try dsimp only); have z := repNI_len (sg := sg) hok (kget l x.1).n (kget l x.1).m (kget l x.1).p; omega), hb305, hB306, hbb308⟩
             ·(try dsimp only); omega
          ·have h272 : ¬ (((kget l x.1).act : Int) = (4 : Int)) := by simpa using h272
           refine WC.skip (WE.blockNormal (WE.next (WC.seq ?_)))
           have ho311 := hR.below hb54
           have ho313 := hK.below hb54
           obtain ⟨So312, sao312, sco312, tao312, tco312, hOo312⟩ := id ho311
           have hJo312 : BkSJ w47 0 gk18 sg x.2 (fun _ => False) := ⟨_, ho313, fun _ _ => Nat.zero_le _, fun _ q => q.elim⟩
           refine WC.opt [(true, .val (.pointer (some ⟨gk18, 0, none⟩))), (true, .val (.int .i64 (((x.2.length : Nat) : Int)))), (true, .val (.pointer (some ⟨gr24, 0, none⟩))), (true, .val (.pointer (some ⟨gr24, 0, none⟩))), (true, .val (.pointer (some ⟨gr24, 1, none⟩))), (true, .val (.slice tao312 x.2.length tco312)), (true, .val (.int .i64 (((x.2.length : Nat) : Int)))), (true, .val (.bool (((((x.2.length : Nat) : Int) : Int) != (((x.2.length : Nat) : Int) : Int)))))] [(0, .agg #[.slice sa sg.length sc]), (1, .slice a l.length c), (2, .pointer (some ⟨g2, 0, none⟩)), (5, .pointer (some ⟨gk18, 0, none⟩)), (6, .int .i64 0), (7, .pointer (some ⟨gr24, 0, none⟩)), (8, .int .i64 0), (9, .int .i64 (((x.1 : Nat) : Int))), (10, .pointer (some ⟨g39, 0, none⟩)), (26, .bool ((decide ((100 : Int) < (((l.length : Nat) : Int) : Int))))), (48, .bool ((false != false))), (56, .bool (((decide ((((x.1 : Nat) : Int) : Int) < (((l.length : Nat) : Int) : Int))) && true))), (64, .int .i64 ((kget l x.1).act)), (65, .bool ((((kget l x.1).act : Int) == (0 : Int)))), (98, .bool ((((kget l x.1).act : Int) == (3 : Int)))), (107, .bool ((((kget l x.1).act : Int) == (2 : Int)))), (131, .bool ((((kget l x.1).act : Int) == (4 : Int))))] ⟨rfl, rfl, rfl, rfl, rfl, rfl, rfl, rfl, rfl, rfl, rfl, rfl, rfl, rfl, rfl, rfl, rfl, trivial⟩ (by kernel_rfl) (by kernel_rfl) (by kernel_rfl) ?_ ?_
           ·refine ⟨⟨true, .none rfl, fun h w => optUndef h, fun zβ za zw zc => ?_⟩, ?_⟩
            ·exact wp_move rfl (zc.kn.ev rfl) ⟨_, rfl, Below.refl _ _, optDef zβ rfl⟩
            refine ⟨⟨true, .none rfl, fun h w => optUndef h, fun zβ za zw zc => ?_⟩, ?_⟩
            ·exact wp_call (by kernel_rfl) rfl (hv1 ((evt za 163).trans (optVal (zc.dep 0 163 (by kernel_rfl)) rfl rfl))) (jLen (BkSJ.below hJo312 zc.below)) (fun v w' h => ⟨v, rfl, h.2, optDef zβ h.1⟩)
            refine ⟨⟨true, .none rfl, fun h w => optUndef h, fun zβ za zw zc => ?_⟩, ?_⟩
            ·exact wp_move rfl (zc.kn.ev rfl) ⟨_, rfl, Below.refl _ _, optDef zβ rfl⟩
            refine ⟨⟨true, .none rfl, fun h w => optUndef h, fun zβ za zw zc => ?_⟩, ?_⟩
            ·exact nilCheck_ rfl ((evt za 165).trans (optVal (zc.dep 2 165 (by kernel_rfl)) rfl rfl)) ⟨_, rfl, Below.refl _ _, optDef zβ rfl⟩
            refine ⟨⟨true, .none rfl, fun h w => optUndef h, fun zβ za zw zc => ?_⟩, ?_⟩
            ·exact fld_60_1 rfl ((evt za 166).trans (optVal (zc.dep 3 166 (by kernel_rfl)) rfl rfl)) ⟨_, rfl, Below.refl _ _, optDef zβ rfl⟩
            refine ⟨⟨true, .none rfl, fun h w => optUndef h, fun zβ za zw zc => ?_⟩, ?_⟩
            ·exact ld_25 rfl ((evt za 167).trans (optVal (zc.dep 4 167 (by kernel_rfl)) rfl rfl)) (bkeeps zc.below _ _ hOo312.c1) ⟨_, rfl, Below.refl _ _, optDef zβ rfl⟩
            refine ⟨⟨true, .none rfl, fun h w => optUndef h, fun zβ za zw zc => ?_⟩, ?_⟩
            ·exact len_25 rfl ((evt za 168).trans (optVal (zc.dep 5 168 (by kernel_rfl)) rfl rfl)) ⟨_, rfl, Below.refl _ _, optDef zβ rfl⟩
            refine ⟨⟨true, .none rfl, fun h w => optUndef h, fun zβ za zw zc => ?_⟩, ?_⟩
            ·exact neq_3 rfl ((evt za 164).trans (optVal (zc.dep 1 164 (by kernel_rfl)) rfl rfl)) ((evt za 169).trans (optVal (zc.dep 6 169 (by kernel_rfl)) rfl rfl)) ⟨_, rfl, Below.refl _ _, optDef zβ rfl⟩
            exact trivial
           ·intro za w314 zh hb315 zu
            have zh := zh.cons (d := 170) (v := .bool (((((x.2.length : Nat) : Int) : Int) != (((x.2.length : Nat) : Int) : Int)))) (optVal (zu 7 170 (by kernel_rfl)) rfl rfl)
            clear zu
            refine WE.go zh ?_
            refine WE.next ?_
            refine WC.condF rfl ((by simp)) ?_
            refine WC.skip (WE.blockNormal (WE.next (WC.region (WL.mv rfl rfl rfl rfl rfl ?_))))
            refine WL.val (.int .i64 ((((x.1 + 1) : Nat) : Int))) rfl rfl rfl (fun za zC zh zk => addb_3 rfl (zh.ev rfl) (zh.ev rfl) (wrap_eq (by omega) (by omega) (by omega)) zk) ?_
            refine WL.asg rfl rfl rfl rfl rfl ?_
            refine WL.nil (WE.sub (K' := [(0, .agg #[.slice sa sg.length sc]), (1, .slice a l.length c), (2, .pointer (some ⟨g2, 0, none⟩)), (5, .pointer (some ⟨gk18, 0, none⟩)), (6, .int .i64 0), (7, .pointer (some ⟨gr24, 0, none⟩)), (8, .int .i64 0), (9, .int .i64 ((((x.1 + 1) : Nat) : Int))), (10, .pointer (some ⟨g39, 0, none⟩)), (26, .bool ((decide ((100 : Int) < (((l.length : Nat) : Int) : Int))))), (48, .bool ((false != false))), (56, .bool (((decide ((((x.1 : Nat) : Int) : Int) < (((l.length : Nat) : Int) : Int))) && true))), (64, .int .i64 ((kget l x.1).act)), (65, .bool ((((kget l x.1).act : Int) == (0 : Int)))), (98, .bool ((((kget l x.1).act : Int) == (3 : Int)))), (107, .bool ((((kget l x.1).act : Int) == (2 : Int)))), (131, .bool ((((kget l x.1).act : Int) == (4 : Int)))), (170, .bool (((((x.2.length : Nat) : Int) : Int) != (((x.2.length : Nat) : Int) : Int))))]) ⟨rfl, rfl, rfl, rfl, rfl, rfl, rfl, rfl, rfl, rfl, rfl, rfl, rfl, rfl, rfl, rfl, rfl, rfl, trivial⟩ ?_)
            refine WE.round ((x.1 + 1, x.2)) ⟨rfl, rfl, rfl, rfl, rfl, rfl, rfl, rfl, rfl, rfl, trivial⟩ ?_ ?_
            ·have hb316 : Below w.heap.size w w314 := (bstep hb53 hb315)
             have hB317 := hB56.below hb315
             have ho319 := ho313.below hb315
             have ho320 := ho311.below hb315
             have hbb318 : BothB w314 w15.heap.size gk18 gr24 sg x.2 := ⟨Y, Yr, ho319, ho320, hYB, hRB, hYR⟩
             exact ⟨(by (try dsimp only); omega), (by (try dsimp only); omega), hb316, hB317, hbb318⟩
            ·(try dsimp only); omega
     ·have h36 : ¬ (((((x.1 : Nat) : Int) : Int) < (((l.length : Nat) : Int) : Int)) ∧ (true = true)) := by simpa using h36
      refine WC.exit (WE.thenExit (WE.thenExit (WE.blockIs rfl (WE.next (WC.seq (WC.region ?_))))))
      refine WL.call rfl rfl rfl (fun za zh zC => wp_call (by kernel_rfl) rfl (hv0)) (wakes_any _) ?_
      rintro _ w322 ⟨rfl, hq321⟩
      refine WL.asg rfl rfl rfl rfl rfl (WL.nil (WE.next (WC.ret (WE.ret1 rfl rfl ?_))))
      have hb323 : Below w.heap.size w w322 := (bstep (bstep hb31 hb35) hq321)
      exact ⟨_, rfl, rfl, hb323⟩
  ·refine WL.val _ rfl rfl rfl (fun za zC zh zk => ld_24 rfl (zh.ev rfl) ((hB4.cell 0).trans rfl) zk) ?_
   refine WL.call rfl rfl rfl (fun za zh zC => wp_call (by kernel_rfl) rfl (hv1 (zh.ev rfl))) (rcopyS_sig sg _ _ (by omega) (IsSig.below hb5 hst)) ?_
   rintro vsm324 w327 ⟨hsm325, hb326⟩
   refine WL.call rfl rfl rfl (fun za zh zC => wp_call (by kernel_rfl) rfl (hv1 (zh.ev rfl))) (newN sg _ _ (by omega) hsm325 hck) ?_
   rintro _ w329 ⟨rfl, hq328⟩
   refine WL.mv rfl rfl rfl rfl rfl ?_
   refine WL.val (.pointer none) rfl rfl rfl (fun za zC zh zk => ext2_0 rfl (zh.ev rfl) zk) ?_
   refine WL.val (.int .i64 2) rfl rfl rfl (fun za zC zh zk => ext2_1 rfl (zh.ev rfl) zk) ?_
   refine WL.asg rfl rfl rfl rfl rfl (WL.asg rfl rfl rfl rfl rfl (WL.nil (WE.next (WC.seq (WC.region ?_)))))
   have hb331 : Below w1.heap.size w1 w329 := (bstep hb326 hq328)
   have hB330 := hB4.below hb331
   refine WL.val _ rfl rfl rfl (fun za zC zh zk => ld_24 rfl (zh.ev rfl) ((hB330.cell 0).trans rfl) zk) ?_
   have hb332 : Below w.heap.size w w329 := (bstep hb5 hb331)
   refine WL.call rfl rfl rfl (fun za zh zC => wp_call (by kernel_rfl) rfl (hv1 (zh.ev rfl))) (rnewN sg _ _ (by omega) (IsSig.below hb332 hst) hck) ?_
   rintro _ w334 ⟨rfl, hq333⟩
   refine WL.mv rfl rfl rfl rfl rfl ?_
   refine WL.val (.pointer none) rfl rfl rfl (fun za zC zh zk => ext2_0 rfl (zh.ev rfl) zk) ?_
   refine WL.val (.int .i64 2) rfl rfl rfl (fun za zC zh zk => ext2_1 rfl (zh.ev rfl) zk) ?_
   refine WL.asg rfl rfl rfl rfl rfl (WL.asg rfl rfl rfl rfl rfl (WL.nil (WE.next (WC.seq (WC.seq (WC.region (WL.mv rfl rfl rfl rfl rfl (WL.mv rfl rfl rfl rfl rfl ?_))))))))
   refine WL.val (.bool false) rfl rfl rfl (fun za zC zh zk => neq_27 rfl (zh.ev rfl) (zh.ev rfl) zk) ?_
   refine WL.mv rfl rfl rfl rfl rfl ?_
   refine WL.want (d := 42) rfl rfl rfl ?_
   refine WL.mv rfl rfl rfl rfl rfl ?_
   refine WL.want (d := 42) rfl rfl rfl ?_
   refine WL.val (.bool true) rfl rfl rfl (fun za zC zh zk => eqln_26 rfl (zh.ev rfl) (zh.ev rfl) zk) ?_
   refine WL.want (d := 42) rfl rfl rfl ?_
   refine WL.mv rfl rfl rfl rfl rfl ?_
   refine WL.want (d := 42) rfl rfl rfl ?_
   refine WL.val (.bool true) rfl rfl rfl (fun za zC zh zk => neq_27 rfl (zh.ev rfl) (zh.ev rfl) zk) ?_
   refine WL.want (d := 42) rfl rfl rfl ?_
   refine WL.val (.bool ((true != true))) rfl rfl rfl (fun za zC zh zk => neq_4 rfl (zh.ev rfl) (zh.ev rfl) zk) ?_
   refine WL.val (.bool ((true != true))) rfl rfl rfl (fun za zC zh zk => wp_pickF rfl (zh.ev rfl) (zh.ev rfl) zk) ?_
   refine WL.nil (WE.sub (K' := [(0, .agg #[.slice sa sg.length sc]), (1, .slice a l.length c), (2, .pointer (some ⟨g2, 0, none⟩)), (4, .bool false), (5, .pointer none), (6, .int .i64 2), (7, .pointer none), (8, .int .i64 2), (26, .bool ((decide ((100 : Int) < (((l.length : Nat) : Int) : Int))))), (48, .bool ((true != true)))]) ⟨rfl, rfl, rfl, rfl, rfl, rfl, rfl, rfl, rfl, rfl, trivial⟩ ?_)
   refine WE.next ?_
   refine WC.condF rfl (rfl) ?_
   refine WC.skip (WE.next (WC.seq (WC.seq (WC.region (WL.asg rfl rfl rfl rfl rfl (WL.nil (WE.next (WC.block ?_))))))))
   refine WC.loop (X := Nat) (fun x => l.length - x) (fun x => [(0, .agg #[.slice sa sg.length sc]), (1, .slice a l.length c), (2, .pointer (some ⟨g2, 0, none⟩)), (5, .pointer none), (6, .int .i64 2), (7, .pointer none), (8, .int .i64 2), (9, .int .i64 (((x : Nat) : Int))), (26, .bool ((decide ((100 : Int) < (((l.length : Nat) : Int) : Int))))), (48, .bool ((true != true)))]) (fun x w335 => x ≤ l.length ∧ Below w.heap.size w w335 ∧ Blk w335 g2 24 #[.slice sa sg.length sc]) 0 ⟨rfl, rfl, rfl, rfl, rfl, rfl, rfl, rfl, rfl, rfl, trivial⟩ ?_ ?_
   ·have hb336 : Below w.heap.size w w334 := (bstep hb332 hq333)
    have hB337 := hB330.below hq333
    exact ⟨Nat.zero_le _, hb336, hB337⟩
   ·rintro x w335 ⟨hk, hb338, hB339⟩
    refine WC.seq (WC.seq ?_)
    refine WC.opt [(true, .val (.int .i64 (((x : Nat) : Int)))), (true, .val (.slice a l.length c)), (true, .val (.int .i64 (((l.length : Nat) : Int)))), (true, .val (.bool ((decide ((((x : Nat) : Int) : Int) < (((l.length : Nat) : Int) : Int)))))), (true, .val (.bool ((decide ((((x : Nat) : Int) : Int) < (((l.length : Nat) : Int) : Int)))))), ((true && (decide ((((x : Nat) : Int) : Int) < (((l.length : Nat) : Int) : Int)))), .val (.int .i64 2)), ((true && (decide ((((x : Nat) : Int) : Int) < (((l.length : Nat) : Int) : Int)))), .val (.bool false)), (true, .val (.bool (((decide ((((x : Nat) : Int) : Int) < (((l.length : Nat) : Int) : Int))) && false))))] [(0, .agg #[.slice sa sg.length sc]), (1, .slice a l.length c), (2, .pointer (some ⟨g2, 0, none⟩)), (5, .pointer none), (6, .int .i64 2), (7, .pointer none), (8, .int .i64 2), (9, .int .i64 (((x : Nat) : Int))), (26, .bool ((decide ((100 : Int) < (((l.length : Nat) : Int) : Int))))), (48, .bool ((true != true)))] ⟨rfl, rfl, rfl, rfl, rfl, rfl, rfl, rfl, rfl, rfl, trivial⟩ (by kernel_rfl) (by kernel_rfl) (by kernel_rfl) ?_ ?_
    ·refine ⟨⟨true, .none rfl, fun h w => optUndef h, fun zβ za zw zc => ?_⟩, ?_⟩
     ·exact wp_move rfl (zc.kn.ev rfl) ⟨_, rfl, Below.refl _ _, optDef zβ rfl⟩
     refine ⟨⟨true, .none rfl, fun h w => optUndef h, fun zβ za zw zc => ?_⟩, ?_⟩
     ·exact wp_move rfl (zc.kn.ev rfl) ⟨_, rfl, Below.refl _ _, optDef zβ rfl⟩
     refine ⟨⟨true, .none rfl, fun h w => optUndef h, fun zβ za zw zc => ?_⟩, ?_⟩
     ·exact len_48 rfl ((evt za 50).trans (optVal (zc.dep 1 50 (by kernel_rfl)) rfl rfl)) ⟨_, rfl, Below.refl _ _, optDef zβ rfl⟩
     refine ⟨⟨true, .none rfl, fun h w => optUndef h, fun zβ za zw zc => ?_⟩, ?_⟩
     ·exact lss_3 rfl ((evt za 49).trans (optVal (zc.dep 0 49 (by kernel_rfl)) rfl rfl)) ((evt za 51).trans (optVal (zc.dep 2 51 (by kernel_rfl)) rfl rfl)) ⟨_, rfl, Below.refl _ _, optDef zβ rfl⟩
     refine ⟨⟨true, .none rfl, fun h w => optUndef h, fun zβ za zw zc => ?_⟩, ?_⟩
     ·exact wp_move rfl ((evt za 52).trans (optVal (zc.dep 3 52 (by kernel_rfl)) rfl rfl)) ⟨_, rfl, Below.refl _ _, optDef zβ rfl⟩
     refine ⟨⟨_, .yes (d := true) rfl (fun v w h => h), fun h w => optUndef h, fun zβ za zw zc => ?_⟩, ?_⟩
     ·exact wp_move rfl (zc.kn.ev rfl) ⟨_, rfl, Below.refl _ _, optDef zβ rfl⟩
     refine ⟨⟨_, .yes (d := true) rfl (fun v w h => h), fun h w => optUndef h, fun zβ za zw zc => ?_⟩, ?_⟩
     ·exact eql_27 rfl ((evt za 54).trans (optVal (zc.dep 5 54 (by kernel_rfl)) rfl zβ)) (zc.kn.ev rfl) ⟨_, rfl, Below.refl _ _, optDef zβ rfl⟩
     refine ⟨⟨true, .none rfl, fun h w => optUndef h, fun zβ za zw zc => ?_⟩, ?_⟩
     ·exact wp_and rfl ((evt za 53).trans (optVal (zc.dep 4 53 (by kernel_rfl)) rfl rfl)) (fun hp => ((evt za 55).trans (optVal (zc.dep 6 55 (by kernel_rfl)) rfl (bMk zβ hp)))) ⟨_, rfl, Below.refl _ _, optDef zβ rfl⟩
     exact trivial
    ·intro za w340 zh hb341 zu
     have zh := zh.cons (d := 56) (v := .bool (((decide ((((x : Nat) : Int) : Int) < (((l.length : Nat) : Int) : Int))) && false))) (optVal (zu 7 56 (by kernel_rfl)) rfl rfl)
     clear zu
     refine WE.go zh ?_
     refine WE.next ?_
     refine WC.condF rfl ((by simp)) ?_
     refine WC.exit (WE.thenExit (WE.thenExit (WE.blockIs rfl (WE.next (WC.seq (WC.region ?_))))))
     refine WL.call rfl rfl rfl (fun za zh zC => wp_call (by kernel_rfl) rfl (hv0)) (wakes_any _) ?_
     rintro _ w343 ⟨rfl, hq342⟩
     refine WL.asg rfl rfl rfl rfl rfl (WL.nil (WE.next (WC.ret (WE.ret1 rfl rfl ?_))))
     have hb344 : Below w.heap.size w w343 := (bstep (bstep hb338 hb341) hq342)
     exact ⟨_, rfl, rfl, hb344⟩
end Go.Proofs.Ytbohlpfndiiimaa

namespace Go.Proofs.Ytbohlpfndiiimaa
open Go.ChangeShapes Go.WideShapes Go.ChangeAt Go.RowKit
local instance : Inhabited T := ⟨.mk 0 []⟩
section
variable {H : Type} {enc : TypeId × Value → H} {w : World} {base : Nat} {spare : Nat → Bool} {held : Bool}
set_option maxRecDepth 100000 in
theorem open_SysN (fuel : Nat) (cs : List Value) (x : DataW H × List MemPlace) (h : DataW.trod enc Try.prog w base spare held fuel 22 cs = some x) :
    ∃ (l : List Sy) (a : Option Addr) (cap : Nat), cs = [.slice a l.length cap] ∧ l.length ≤ cap ∧ cap ≤ maxLen ∧ IsSys w l a ∧ l.length ≤ Rows.uptoBulk x.1 := by
  obtain ⟨l, a, cap, ds, sp, rfl, h1, h2, h3, h4, h5, _⟩ := open_row Try.underlying22 (k := 3) (by kernel_rfl) (by omega) h (R := IsSy) (S := fun _ _ => True) (fun n cs x hx => by
    obtain ⟨y, hy⟩ := open_Sy _ _ _ hx
    exact ⟨y, hy, trivial⟩)
  refine ⟨l, a, cap, rfl, h1, h2, h3, ?_⟩
  rcases h5 with ⟨_, rfl, _⟩ | e
  · simp
  · have := len_le_bulk ds
    rw [e]; simp only [Rows.uptoBulk]; omega
set_option maxRecDepth 100000 in
theorem arg_Sig {r : Reach} {b : Nat} {v : Value} {d : DataW H} {p : List MemPlace} (h : Value.okWide Try.prog w r b 24 v) (ht : DataW.Trod enc Try.prog w base spare held 24 v d p) :
    ∃ l : List Sy, IsSig w l v ∧ l.length ≤ Rows.uptoBulk d := by
  have hC : Try.prog.cellsOf 24 = 1 := by kernel_rfl
  have hC1 : Try.prog.cellsOf 22 = 1 := by kernel_rfl
  obtain ⟨cs, rfl, _⟩ := okWide_struct Try.underlying24 h
  obtain ⟨fuel, hf⟩ := ht
  obtain ⟨xs, n, rfl, hx, hl, hlen, hf⟩ := DataW.trod_struct Try.underlying24 hf
  rw [hC] at hl
  match xs, hlen, hx with
  | [y0], _, hx =>
    have hl' : cs.toList.length = 1 := hl
    match e : cs.toList, hl' with
    | [c0], _ =>
      have hcs : cs = #[c0] := by apply Array.toList_inj.1; exact e
      subst hcs
      have g0 : DataW.trod enc Try.prog w base spare held n 22 [c0] = some y0 := by simpa [hC1, Value.cells] using hf 0 _ rfl
      obtain ⟨l, a, cap, e, h1, h2, h3, h4⟩ := open_SysN _ _ _ g0
      simp only [List.cons.injEq, and_true] at e
      subst e
      refine ⟨l, ⟨a, cap, rfl, h1, h2, h3⟩, ?_⟩
      have hd : d = .agg [y0.1] := congrArg Prod.fst hx
      rw [hd]; simp only [Rows.uptoBulk, Rows.uptoBulkAll]; omega
end
end Go.Proofs.Ytbohlpfndiiimaa
