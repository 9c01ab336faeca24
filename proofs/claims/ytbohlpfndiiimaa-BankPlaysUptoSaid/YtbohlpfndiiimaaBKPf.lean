/- Rows of integers, opened. -/
import Derived.Test.YtbohlpfndiiimaaBKPe
import Derived.Test.YtbohlpfndiiimaaBKPc
import Derived.Test.YtbohlpfndiiimaaBKPa
import Derived.Test.YtbohlpfndiiimaaBKPb
import Derived.Scope
import Derived.Test.YtbohlpfndiiimaaBKPd
import Derived.WalkKit

/- May a term be? The program. -/
namespace Go.Proofs.Ytbohlpfndiiimaa
open Go.RowKit Go
set_option linter.unusedVariables false
set_option linter.unusedSimpArgs false
/-- May a symbol stand at a place, with so many arguments? -/
def nodeB (sg : List Sy) (top : Bool) (f : Int) (n : Nat) : Bool := if f < 0 then true else (decide (((f.toNat : Nat) : Int) < ((sg.length : Nat) : Int)) && ((sget sg f.toNat).ar == (n : Int))) && (top || !(sget sg f.toNat).pred)
mutual
def T.ovr (sg : List Sy) (top : Bool) : T → Bool
 | .mk f l => nodeB sg top f l.length && T.ovrL sg l
def T.ovrL (sg : List Sy) : List T → Bool
 | [] => true
 | t :: r => t.ovr sg false && T.ovrL sg r
end
theorem ovrL_all (sg : List Sy) : ∀ l : List T, T.ovrL sg l = l.all (T.ovr sg false)
 | [] => rfl
 | t :: r => by rw [T.ovrL, ovrL_all sg r]; rfl
theorem ovr_no1 {sg : List Sy} {top : Bool} {f : Int} {l : List T} (h : nodeB sg top f l.length = false) : (T.mk f l).ovr sg top = false := by rw [T.ovr, h]; rfl
theorem ovr_no2 {sg : List Sy} {top : Bool} {f : Int} {l : List T} {k : Nat} (hk : k < l.length) (h : (tget l k).ovr sg false = false) : (T.mk f l).ovr sg top = false := by
 rw [T.ovr, ovrL_all, List.all_eq_false.2 ⟨_, tget_mem hk, by rw [h]; decide⟩, Bool.and_false]
theorem ovr_yes {sg : List Sy} {top : Bool} {f : Int} {l : List T} (h : nodeB sg top f l.length = true) (h2 : ∀ k, k < l.length → (tget l k).ovr sg false = true) : (T.mk f l).ovr sg top = true := by
 rw [T.ovr, h, ovrL_all, Bool.true_and, List.all_eq_true]
 intro t ht
 obtain ⟨k, hk, rfl⟩ := List.getElem_of_mem ht
 rw [← tget_lt hk]; exact h2 k hk
section
variable (sg : List Sy) (w0 : World) (gt gs : Nat) (sa : Option Addr) (sc : Nat) (hsys : IsSys w0 sg sa) (hgt : w0.heap.size ≤ gt) (hne : gt ≠ gs)
include hsys hgt hne in
set_option maxRecDepth 100000 in
theorem tchk1_any (f : Int) (n : Nat) (top : Bool) (b o : Nat) (a : Option Addr) (c : Nat) (hcf : w0.cell? ⟨b, o, none⟩ = some (.int .i64 f)) (hca : w0.cell? ⟨b, o + 1, none⟩ = some (.slice a n c)) (w : World) (hb0 : Below w0.heap.size w0 w) (hBt : Blk w gt 4 #[.bool top]) (hBs : Blk w gs 24 #[.slice sa sg.length sc]) :
  Calls Try.prog 54 #[.pointer (some ⟨b, o, none⟩), .pointer (some ⟨gt, 0, none⟩), .pointer (some ⟨gs, 0, none⟩)] w (Ret fun v' w' => v' = .bool (nodeB sg top f n) ∧ Blk w' gt 4 #[.bool false] ∧ Chg (fun q => q = gt) w w') := by
 have hgtl := hBt.lt
 refine Calls.walk (l := [.pointer (some ⟨b, o, none⟩), .pointer (some ⟨gt, 0, none⟩), .pointer (some ⟨gs, 0, none⟩)]) Try.func54 rfl (by kernel_rfl) ?_
 refine WC.sub (K' := [(0, .pointer (some ⟨b, o, none⟩)), (1, .pointer (some ⟨gt, 0, none⟩)), (2, .pointer (some ⟨gs, 0, none⟩))]) ⟨rfl, rfl, rfl, trivial⟩ ?_
 refine WC.seq (WC.region (WL.asg rfl rfl rfl rfl rfl (WL.nil (WE.next (WC.seq (WC.region ?_))))))
 refine WL.val _ rfl rfl rfl (fun za zC zh zk => ld_4 rfl (zh.ev rfl) ((hBt.cell 0).trans rfl) zk) ?_
 refine WL.asg rfl rfl rfl rfl rfl (WL.nil (WE.next (WC.seq (WC.region ?_))))
 refine WL.step (post := fun _ w' => Upd gt w w' ∧ Blk w' gt 4 #[.bool false]) rfl rfl rfl (fun za zC zh zk => st_4 rfl (zh.ev rfl) (zh.ev rfl) hBt (by first | decide | simp) (fun v => zk v _ ⟨Upd.at_ _ _ _ _, hBt.set_ 0 _⟩)) ?_
 rintro v4 w1 ⟨hu2, hB3⟩
 have hb5 := upd_below hb0 hu2 (by omega)
 have hB6 := upd_blk hBs hu2 (by omega)
 refine WL.nil (WE.next (WC.seq (WC.seq ?_)))
 have hC3 : Chg (fun q => q = gt) w w1 := .ofUpd hu2 rfl
 refine WC.region (WL.mv rfl rfl rfl rfl rfl ?_)
 refine WL.val _ rfl rfl rfl (fun za zC zh zk => nilCheck_ rfl (zh.ev rfl) zk) ?_
 refine WL.val _ rfl rfl rfl (fun za zC zh zk => fld_35_0 rfl (zh.ev rfl) zk) ?_
 have hc7 := bkeeps hb5 _ _ hcf
 refine WL.val _ rfl rfl rfl (fun za zC zh zk => ld_3 rfl (zh.ev rfl) hc7 zk) ?_
 refine WL.val (.bool ((decide ((f : Int) < (0 : Int))))) rfl rfl rfl (fun za zC zh zk => lss_3 rfl (zh.ev rfl) (zh.ev rfl) zk) ?_
 refine WL.nil (WE.next ?_)
 refine WC.cond rfl (fun h8 => ?_) (fun h8 => ?_)
 ·have h8 : (f : Int) < (0 : Int) := by simpa using h8
  refine WC.seq (WC.region (WL.asg rfl rfl rfl rfl rfl (WL.nil (WE.next (WC.ret (WE.thenRet (WE.ret1 rfl rfl ?_)))))))
  exact ⟨_, rfl, congrArg Value.bool (Eq.symm (by unfold nodeB; rw [if_pos (by omega)])), hB3, hC3⟩
 ·have h8 : ¬ ((f : Int) < (0 : Int)) := by simpa using h8
  refine WC.skip (WE.next (WC.seq ?_))
  have hf0 : ¬ f < 0 := by omega
  have hcf9 : w0.cell? ⟨b, o, none⟩ = some (.int .i64 ((f.toNat : Nat) : Int)) := by rw [show ((f.toNat : Nat) : Int) = f by omega]; exact hcf
  have hc9 := bkeeps hb5 _ _ hcf9
  obtain ⟨b10, o11, ha12, hc13⟩ := IsSys.open hsys
  have hc14 := bkeeps hb5 _ _ hca
  refine WC.opt [(true, .val (.pointer (some ⟨b, o, none⟩))), (true, .val (.pointer (some ⟨b, o, none⟩))), (true, .val (.pointer (some ⟨b, o, none⟩))), (true, .val (.int .i64 (((f.toNat : Nat) : Int)))), (true, .val (.pointer (some ⟨gs, 0, none⟩))), (true, .val (.slice sa sg.length sc)), (true, .val (.int .i64 (((sg.length : Nat) : Int)))), (true, .val (.bool ((decide ((((f.toNat : Nat) : Int) : Int) < (((sg.length : Nat) : Int) : Int)))))), (true, .val (.bool ((decide ((((f.toNat : Nat) : Int) : Int) < (((sg.length : Nat) : Int) : Int)))))), ((true && (decide ((((f.toNat : Nat) : Int) : Int) < (((sg.length : Nat) : Int) : Int)))), .val (.pointer (some ⟨gs, 0, none⟩))), ((true && (decide ((((f.toNat : Nat) : Int) : Int) < (((sg.length : Nat) : Int) : Int)))), .val (.slice sa sg.length sc)), ((true && (decide ((((f.toNat : Nat) : Int) : Int) < (((sg.length : Nat) : Int) : Int)))), .val (.pointer (some ⟨b, o, none⟩))), ((true && (decide ((((f.toNat : Nat) : Int) : Int) < (((sg.length : Nat) : Int) : Int)))), .val (.pointer (some ⟨b, o, none⟩))), ((true && (decide ((((f.toNat : Nat) : Int) : Int) < (((sg.length : Nat) : Int) : Int)))), .val (.pointer (some ⟨b, o, none⟩))), ((true && (decide ((((f.toNat : Nat) : Int) : Int) < (((sg.length : Nat) : Int) : Int)))), .val (.int .i64 (((f.toNat : Nat) : Int)))), ((true && (decide ((((f.toNat : Nat) : Int) : Int) < (((sg.length : Nat) : Int) : Int)))), .val (.pointer (some ⟨b10, o11 + f.toNat * 3, none⟩))), ((true && (decide ((((f.toNat : Nat) : Int) : Int) < (((sg.length : Nat) : Int) : Int)))), .val (.pointer (some ⟨b10, o11 + f.toNat * 3 + 1, none⟩))), ((true && (decide ((((f.toNat : Nat) : Int) : Int) < (((sg.length : Nat) : Int) : Int)))), .val (.int .i64 ((sget sg f.toNat).ar))), ((true && (decide ((((f.toNat : Nat) : Int) : Int) < (((sg.length : Nat) : Int) : Int)))), .val (.pointer (some ⟨b, o, none⟩))), ((true && (decide ((((f.toNat : Nat) : Int) : Int) < (((sg.length : Nat) : Int) : Int)))), .val (.pointer (some ⟨b, o, none⟩))), ((true && (decide ((((f.toNat : Nat) : Int) : Int) < (((sg.length : Nat) : Int) : Int)))), .val (.pointer (some ⟨b, o + 1, none⟩))), ((true && (decide ((((f.toNat : Nat) : Int) : Int) < (((sg.length : Nat) : Int) : Int)))), .val (.slice a n c)), ((true && (decide ((((f.toNat : Nat) : Int) : Int) < (((sg.length : Nat) : Int) : Int)))), .val (.int .i64 (((n : Nat) : Int)))), ((true && (decide ((((f.toNat : Nat) : Int) : Int) < (((sg.length : Nat) : Int) : Int)))), .val (.bool ((((sget sg f.toNat).ar : Int) == (((n : Nat) : Int) : Int))))), (true, .val (.bool (((decide ((((f.toNat : Nat) : Int) : Int) < (((sg.length : Nat) : Int) : Int))) && (((sget sg f.toNat).ar : Int) == (((n : Nat) : Int) : Int)))))), (true, .val (.bool (((decide ((((f.toNat : Nat) : Int) : Int) < (((sg.length : Nat) : Int) : Int))) && (((sget sg f.toNat).ar : Int) == (((n : Nat) : Int) : Int)))))), ((true && ((decide ((((f.toNat : Nat) : Int) : Int) < (((sg.length : Nat) : Int) : Int))) && (((sget sg f.toNat).ar : Int) == (((n : Nat) : Int) : Int)))), .val (.bool top)), ((true && ((decide ((((f.toNat : Nat) : Int) : Int) < (((sg.length : Nat) : Int) : Int))) && (((sget sg f.toNat).ar : Int) == (((n : Nat) : Int) : Int)))), .val (.bool top)), (((true && ((decide ((((f.toNat : Nat) : Int) : Int) < (((sg.length : Nat) : Int) : Int))) && (((sget sg f.toNat).ar : Int) == (((n : Nat) : Int) : Int)))) && !top), .val (.pointer (some ⟨gs, 0, none⟩))), (((true && ((decide ((((f.toNat : Nat) : Int) : Int) < (((sg.length : Nat) : Int) : Int))) && (((sget sg f.toNat).ar : Int) == (((n : Nat) : Int) : Int)))) && !top), .val (.slice sa sg.length sc)), (((true && ((decide ((((f.toNat : Nat) : Int) : Int) < (((sg.length : Nat) : Int) : Int))) && (((sget sg f.toNat).ar : Int) == (((n : Nat) : Int) : Int)))) && !top), .val (.pointer (some ⟨b, o, none⟩))), (((true && ((decide ((((f.toNat : Nat) : Int) : Int) < (((sg.length : Nat) : Int) : Int))) && (((sget sg f.toNat).ar : Int) == (((n : Nat) : Int) : Int)))) && !top), .val (.pointer (some ⟨b, o, none⟩))), (((true && ((decide ((((f.toNat : Nat) : Int) : Int) < (((sg.length : Nat) : Int) : Int))) && (((sget sg f.toNat).ar : Int) == (((n : Nat) : Int) : Int)))) && !top), .val (.pointer (some ⟨b, o, none⟩))), (((true && ((decide ((((f.toNat : Nat) : Int) : Int) < (((sg.length : Nat) : Int) : Int))) && (((sget sg f.toNat).ar : Int) == (((n : Nat) : Int) : Int)))) && !top), .val (.int .i64 (((f.toNat : Nat) : Int)))), (((true && ((decide ((((f.toNat : Nat) : Int) : Int) < (((sg.length : Nat) : Int) : Int))) && (((sget sg f.toNat).ar : Int) == (((n : Nat) : Int) : Int)))) && !top), .val (.pointer (some ⟨b10, o11 + f.toNat * 3, none⟩))), (((true && ((decide ((((f.toNat : Nat) : Int) : Int) < (((sg.length : Nat) : Int) : Int))) && (((sget sg f.toNat).ar : Int) == (((n : Nat) : Int) : Int)))) && !top), .val (.pointer (some ⟨b10, o11 + f.toNat * 3 + 2, none⟩))), (((true && ((decide ((((f.toNat : Nat) : Int) : Int) < (((sg.length : Nat) : Int) : Int))) && (((sget sg f.toNat).ar : Int) == (((n : Nat) : Int) : Int)))) && !top), .val (.bool ((sget sg f.toNat).pred))), (((true && ((decide ((((f.toNat : Nat) : Int) : Int) < (((sg.length : Nat) : Int) : Int))) && (((sget sg f.toNat).ar : Int) == (((n : Nat) : Int) : Int)))) && !top), .val (.bool ((!(sget sg f.toNat).pred)))), ((true && ((decide ((((f.toNat : Nat) : Int) : Int) < (((sg.length : Nat) : Int) : Int))) && (((sget sg f.toNat).ar : Int) == (((n : Nat) : Int) : Int)))), .val (.bool ((top || (!(sget sg f.toNat).pred))))), (true, .val (.bool ((((decide ((((f.toNat : Nat) : Int) : Int) < (((sg.length : Nat) : Int) : Int))) && (((sget sg f.toNat).ar : Int) == (((n : Nat) : Int) : Int))) && (top || (!(sget sg f.toNat).pred)))))), (true, .val (.bool ((((decide ((((f.toNat : Nat) : Int) : Int) < (((sg.length : Nat) : Int) : Int))) && (((sget sg f.toNat).ar : Int) == (((n : Nat) : Int) : Int))) && (top || (!(sget sg f.toNat).pred))))))] [(0, .pointer (some ⟨b, o, none⟩)), (1, .pointer (some ⟨gt, 0, none⟩)), (2, .pointer (some ⟨gs, 0, none⟩)), (5, .bool top), (11, .bool ((decide ((f : Int) < (0 : Int)))))] ⟨rfl, rfl, rfl, rfl, rfl, trivial⟩ (by kernel_rfl) (by kernel_rfl) (by kernel_rfl) ?_ ?_
  ·refine ⟨⟨true, .none rfl, fun h w => optUndef h, fun zβ za zw zc => ?_⟩, ?_⟩
   ·exact wp_move rfl (zc.kn.ev rfl) ⟨_, rfl, Below.refl _ _, optDef zβ rfl⟩
   refine ⟨⟨true, .none rfl, fun h w => optUndef h, fun zβ za zw zc => ?_⟩, ?_⟩
   ·exact nilCheck_ rfl ((evt za 12).trans (optVal (zc.dep 0 12 (by kernel_rfl)) rfl rfl)) ⟨_, rfl, Below.refl _ _, optDef zβ rfl⟩
   refine ⟨⟨true, .none rfl, fun h w => optUndef h, fun zβ za zw zc => ?_⟩, ?_⟩
   ·exact fld_35_0 rfl ((evt za 13).trans (optVal (zc.dep 1 13 (by kernel_rfl)) rfl rfl)) ⟨_, rfl, Below.refl _ _, optDef zβ rfl⟩
   refine ⟨⟨true, .none rfl, fun h w => optUndef h, fun zβ za zw zc => ?_⟩, ?_⟩
   ·exact ld_3 rfl ((evt za 14).trans (optVal (zc.dep 2 14 (by kernel_rfl)) rfl rfl)) (bkeeps zc.below _ _ hc9) ⟨_, rfl, Below.refl _ _, optDef zβ rfl⟩
   refine ⟨⟨true, .none rfl, fun h w => optUndef h, fun zβ za zw zc => ?_⟩, ?_⟩
   ·exact fld_24_0 rfl (zc.kn.ev rfl) ⟨_, rfl, Below.refl _ _, optDef zβ rfl⟩
   refine ⟨⟨true, .none rfl, fun h w => optUndef h, fun zβ za zw zc => ?_⟩, ?_⟩
   ·exact ld_22 rfl ((evt za 16).trans (optVal (zc.dep 4 16 (by kernel_rfl)) rfl rfl)) (bkeeps zc.below _ _ ((hB6.cell 0).trans rfl)) ⟨_, rfl, Below.refl _ _, optDef zβ rfl⟩
   refine ⟨⟨true, .none rfl, fun h w => optUndef h, fun zβ za zw zc => ?_⟩, ?_⟩
   ·exact len_22 rfl ((evt za 17).trans (optVal (zc.dep 5 17 (by kernel_rfl)) rfl rfl)) ⟨_, rfl, Below.refl _ _, optDef zβ rfl⟩
   refine ⟨⟨true, .none rfl, fun h w => optUndef h, fun zβ za zw zc => ?_⟩, ?_⟩
   ·exact lss_3 rfl ((evt za 15).trans (optVal (zc.dep 3 15 (by kernel_rfl)) rfl rfl)) ((evt za 18).trans (optVal (zc.dep 6 18 (by kernel_rfl)) rfl rfl)) ⟨_, rfl, Below.refl _ _, optDef zβ rfl⟩
   refine ⟨⟨true, .none rfl, fun h w => optUndef h, fun zβ za zw zc => ?_⟩, ?_⟩
   ·exact wp_move rfl ((evt za 19).trans (optVal (zc.dep 7 19 (by kernel_rfl)) rfl rfl)) ⟨_, rfl, Below.refl _ _, optDef zβ rfl⟩
   refine ⟨⟨_, .yes (d := true) rfl (fun v w h => h), fun h w => optUndef h, fun zβ za zw zc => ?_⟩, ?_⟩
   ·exact fld_24_0 rfl (zc.kn.ev rfl) ⟨_, rfl, Below.refl _ _, optDef zβ rfl⟩
   refine ⟨⟨_, .yes (d := true) rfl (fun v w h => h), fun h w => optUndef h, fun zβ za zw zc => ?_⟩, ?_⟩
   ·exact ld_22 rfl ((evt za 21).trans (optVal (zc.dep 9 21 (by kernel_rfl)) rfl zβ)) (bkeeps zc.below _ _ ((hB6.cell 0).trans rfl)) ⟨_, rfl, Below.refl _ _, optDef zβ rfl⟩
   refine ⟨⟨_, .yes (d := true) rfl (fun v w h => h), fun h w => optUndef h, fun zβ za zw zc => ?_⟩, ?_⟩
   ·exact wp_move rfl (zc.kn.ev rfl) ⟨_, rfl, Below.refl _ _, optDef zβ rfl⟩
   refine ⟨⟨_, .yes (d := true) rfl (fun v w h => h), fun h w => optUndef h, fun zβ za zw zc => ?_⟩, ?_⟩
   ·exact nilCheck_ rfl ((evt za 23).trans (optVal (zc.dep 11 23 (by kernel_rfl)) rfl zβ)) ⟨_, rfl, Below.refl _ _, optDef zβ rfl⟩
   refine ⟨⟨_, .yes (d := true) rfl (fun v w h => h), fun h w => optUndef h, fun zβ za zw zc => ?_⟩, ?_⟩
   ·exact fld_35_0 rfl ((evt za 24).trans (optVal (zc.dep 12 24 (by kernel_rfl)) rfl zβ)) ⟨_, rfl, Below.refl _ _, optDef zβ rfl⟩
   refine ⟨⟨_, .yes (d := true) rfl (fun v w h => h), fun h w => optUndef h, fun zβ za zw zc => ?_⟩, ?_⟩
   ·exact ld_3 rfl ((evt za 25).trans (optVal (zc.dep 13 25 (by kernel_rfl)) rfl zβ)) (bkeeps zc.below _ _ hc9) ⟨_, rfl, Below.refl _ _, optDef zβ rfl⟩
   refine ⟨⟨_, .yes (d := true) rfl (fun v w h => h), fun h w => optUndef h, fun zβ za zw zc => ?_⟩, ?_⟩
   ·exact ix_22 (k := f.toNat) rfl ((evt za 22).trans (optVal (zc.dep 10 22 (by kernel_rfl)) rfl zβ)) (ha12 f.toNat (by first | omega | (have zz := zβ; simp only [Bool.and_eq_true, Bool.or_eq_true, Bool.true_and, Bool.not_eq_true', Bool.or_eq_false_iff, Bool.and_eq_false_iff, beq_eq_false_iff_ne, ne_eq, beq_iff_eq, decide_eq_true_eq, decide_eq_false_iff_not, bne_iff_ne, bne_eq_false_iff_eq] at zz; omega))) ((evt za 26).trans (optVal (zc.dep 14 26 (by kernel_rfl)) rfl zβ)) (by first | omega | (have zz := zβ; simp only [Bool.and_eq_true, Bool.or_eq_true, Bool.true_and, Bool.not_eq_true', Bool.or_eq_false_iff, Bool.and_eq_false_iff, beq_eq_false_iff_ne, ne_eq, beq_iff_eq, decide_eq_true_eq, decide_eq_false_iff_not, bne_iff_ne, bne_eq_false_iff_eq] at zz; omega)) ⟨_, rfl, Below.refl _ _, optDef zβ rfl⟩
   refine ⟨⟨_, .yes (d := true) rfl (fun v w h => h), fun h w => optUndef h, fun zβ za zw zc => ?_⟩, ?_⟩
   ·exact fld_66_1 rfl ((evt za 27).trans (optVal (zc.dep 15 27 (by kernel_rfl)) rfl zβ)) ⟨_, rfl, Below.refl _ _, optDef zβ rfl⟩
   refine ⟨⟨_, .yes (d := true) rfl (fun v w h => h), fun h w => optUndef h, fun zβ za zw zc => ?_⟩, ?_⟩
   ·exact ld_3 rfl ((evt za 28).trans (optVal (zc.dep 16 28 (by kernel_rfl)) rfl zβ)) (bkeeps (bstep hb5 zc.below) _ _ (hc13 f.toNat (by first | omega | (have zz := zβ; simp only [Bool.and_eq_true, Bool.or_eq_true, Bool.true_and, Bool.not_eq_true', Bool.or_eq_false_iff, Bool.and_eq_false_iff, beq_eq_false_iff_ne, ne_eq, beq_iff_eq, decide_eq_true_eq, decide_eq_false_iff_not, bne_iff_ne, bne_eq_false_iff_eq] at zz; omega))).2.1) ⟨_, rfl, Below.refl _ _, optDef zβ rfl⟩
   refine ⟨⟨_, .yes (d := true) rfl (fun v w h => h), fun h w => optUndef h, fun zβ za zw zc => ?_⟩, ?_⟩
   ·exact wp_move rfl (zc.kn.ev rfl) ⟨_, rfl, Below.refl _ _, optDef zβ rfl⟩
   refine ⟨⟨_, .yes (d := true) rfl (fun v w h => h), fun h w => optUndef h, fun zβ za zw zc => ?_⟩, ?_⟩
   ·exact nilCheck_ rfl ((evt za 30).trans (optVal (zc.dep 18 30 (by kernel_rfl)) rfl zβ)) ⟨_, rfl, Below.refl _ _, optDef zβ rfl⟩
   refine ⟨⟨_, .yes (d := true) rfl (fun v w h => h), fun h w => optUndef h, fun zβ za zw zc => ?_⟩, ?_⟩
   ·exact fld_35_1 rfl ((evt za 31).trans (optVal (zc.dep 19 31 (by kernel_rfl)) rfl zβ)) ⟨_, rfl, Below.refl _ _, optDef zβ rfl⟩
   refine ⟨⟨_, .yes (d := true) rfl (fun v w h => h), fun h w => optUndef h, fun zβ za zw zc => ?_⟩, ?_⟩
   ·exact ld_25 rfl ((evt za 32).trans (optVal (zc.dep 20 32 (by kernel_rfl)) rfl zβ)) (bkeeps zc.below _ _ hc14) ⟨_, rfl, Below.refl _ _, optDef zβ rfl⟩
   refine ⟨⟨_, .yes (d := true) rfl (fun v w h => h), fun h w => optUndef h, fun zβ za zw zc => ?_⟩, ?_⟩
   ·exact len_25 rfl ((evt za 33).trans (optVal (zc.dep 21 33 (by kernel_rfl)) rfl zβ)) ⟨_, rfl, Below.refl _ _, optDef zβ rfl⟩
   refine ⟨⟨_, .yes (d := true) rfl (fun v w h => h), fun h w => optUndef h, fun zβ za zw zc => ?_⟩, ?_⟩
   ·exact eql_3 rfl ((evt za 29).trans (optVal (zc.dep 17 29 (by kernel_rfl)) rfl zβ)) ((evt za 34).trans (optVal (zc.dep 22 34 (by kernel_rfl)) rfl zβ)) ⟨_, rfl, Below.refl _ _, optDef zβ rfl⟩
   refine ⟨⟨true, .none rfl, fun h w => optUndef h, fun zβ za zw zc => ?_⟩, ?_⟩
   ·exact wp_and rfl ((evt za 20).trans (optVal (zc.dep 8 20 (by kernel_rfl)) rfl rfl)) (fun hp => ((evt za 35).trans (optVal (zc.dep 23 35 (by kernel_rfl)) rfl (bMk zβ hp)))) ⟨_, rfl, Below.refl _ _, optDef zβ rfl⟩
   refine ⟨⟨true, .none rfl, fun h w => optUndef h, fun zβ za zw zc => ?_⟩, ?_⟩
   ·exact wp_move rfl ((evt za 36).trans (optVal (zc.dep 24 36 (by kernel_rfl)) rfl rfl)) ⟨_, rfl, Below.refl _ _, optDef zβ rfl⟩
   refine ⟨⟨_, .yes (d := true) rfl (fun v w h => h), fun h w => optUndef h, fun zβ za zw zc => ?_⟩, ?_⟩
   ·exact wp_move rfl (zc.kn.ev rfl) ⟨_, rfl, Below.refl _ _, optDef zβ rfl⟩
   refine ⟨⟨_, .yes (d := true) rfl (fun v w h => h), fun h w => optUndef h, fun zβ za zw zc => ?_⟩, ?_⟩
   ·exact wp_move rfl ((evt za 38).trans (optVal (zc.dep 26 38 (by kernel_rfl)) rfl zβ)) ⟨_, rfl, Below.refl _ _, optDef zβ rfl⟩
   refine ⟨⟨_, .no (d := (true && ((decide ((((f.toNat : Nat) : Int) : Int) < (((sg.length : Nat) : Int) : Int))) && (((sget sg f.toNat).ar : Int) == (((n : Nat) : Int) : Int))))) rfl (fun v w h => h), fun h w => optUndef h, fun zβ za zw zc => ?_⟩, ?_⟩
   ·exact fld_24_0 rfl (zc.kn.ev rfl) ⟨_, rfl, Below.refl _ _, optDef zβ rfl⟩
   refine ⟨⟨_, .no (d := (true && ((decide ((((f.toNat : Nat) : Int) : Int) < (((sg.length : Nat) : Int) : Int))) && (((sget sg f.toNat).ar : Int) == (((n : Nat) : Int) : Int))))) rfl (fun v w h => h), fun h w => optUndef h, fun zβ za zw zc => ?_⟩, ?_⟩
   ·exact ld_22 rfl ((evt za 40).trans (optVal (zc.dep 28 40 (by kernel_rfl)) rfl zβ)) (bkeeps zc.below _ _ ((hB6.cell 0).trans rfl)) ⟨_, rfl, Below.refl _ _, optDef zβ rfl⟩
   refine ⟨⟨_, .no (d := (true && ((decide ((((f.toNat : Nat) : Int) : Int) < (((sg.length : Nat) : Int) : Int))) && (((sget sg f.toNat).ar : Int) == (((n : Nat) : Int) : Int))))) rfl (fun v w h => h), fun h w => optUndef h, fun zβ za zw zc => ?_⟩, ?_⟩
   ·exact wp_move rfl (zc.kn.ev rfl) ⟨_, rfl, Below.refl _ _, optDef zβ rfl⟩
   refine ⟨⟨_, .no (d := (true && ((decide ((((f.toNat : Nat) : Int) : Int) < (((sg.length : Nat) : Int) : Int))) && (((sget sg f.toNat).ar : Int) == (((n : Nat) : Int) : Int))))) rfl (fun v w h => h), fun h w => optUndef h, fun zβ za zw zc => ?_⟩, ?_⟩
   ·exact nilCheck_ rfl ((evt za 42).trans (optVal (zc.dep 30 42 (by kernel_rfl)) rfl zβ)) ⟨_, rfl, Below.refl _ _, optDef zβ rfl⟩
   refine ⟨⟨_, .no (d := (true && ((decide ((((f.toNat : Nat) : Int) : Int) < (((sg.length : Nat) : Int) : Int))) && (((sget sg f.toNat).ar : Int) == (((n : Nat) : Int) : Int))))) rfl (fun v w h => h), fun h w => optUndef h, fun zβ za zw zc => ?_⟩, ?_⟩
   ·exact fld_35_0 rfl ((evt za 43).trans (optVal (zc.dep 31 43 (by kernel_rfl)) rfl zβ)) ⟨_, rfl, Below.refl _ _, optDef zβ rfl⟩
   refine ⟨⟨_, .no (d := (true && ((decide ((((f.toNat : Nat) : Int) : Int) < (((sg.length : Nat) : Int) : Int))) && (((sget sg f.toNat).ar : Int) == (((n : Nat) : Int) : Int))))) rfl (fun v w h => h), fun h w => optUndef h, fun zβ za zw zc => ?_⟩, ?_⟩
   ·exact ld_3 rfl ((evt za 44).trans (optVal (zc.dep 32 44 (by kernel_rfl)) rfl zβ)) (bkeeps zc.below _ _ hc9) ⟨_, rfl, Below.refl _ _, optDef zβ rfl⟩
   refine ⟨⟨_, .no (d := (true && ((decide ((((f.toNat : Nat) : Int) : Int) < (((sg.length : Nat) : Int) : Int))) && (((sget sg f.toNat).ar : Int) == (((n : Nat) : Int) : Int))))) rfl (fun v w h => h), fun h w => optUndef h, fun zβ za zw zc => ?_⟩, ?_⟩
   ·exact ix_22 (k := f.toNat) rfl ((evt za 41).trans (optVal (zc.dep 29 41 (by kernel_rfl)) rfl zβ)) (ha12 f.toNat (by first | omega | (have zz := zβ; simp only [Bool.and_eq_true, Bool.or_eq_true, Bool.true_and, Bool.not_eq_true', Bool.or_eq_false_iff, Bool.and_eq_false_iff, beq_eq_false_iff_ne, ne_eq, beq_iff_eq, decide_eq_true_eq, decide_eq_false_iff_not, bne_iff_ne, bne_eq_false_iff_eq] at zz; omega))) ((evt za 45).trans (optVal (zc.dep 33 45 (by kernel_rfl)) rfl zβ)) (by first | omega | (have zz := zβ; simp only [Bool.and_eq_true, Bool.or_eq_true, Bool.true_and, Bool.not_eq_true', Bool.or_eq_false_iff, Bool.and_eq_false_iff, beq_eq_false_iff_ne, ne_eq, beq_iff_eq, decide_eq_true_eq, decide_eq_false_iff_not, bne_iff_ne, bne_eq_false_iff_eq] at zz; omega)) ⟨_, rfl, Below.refl _ _, optDef zβ rfl⟩
   refine ⟨⟨_, .no (d := (true && ((decide ((((f.toNat : Nat) : Int) : Int) < (((sg.length : Nat) : Int) : Int))) && (((sget sg f.toNat).ar : Int) == (((n : Nat) : Int) : Int))))) rfl (fun v w h => h), fun h w => optUndef h, fun zβ za zw zc => ?_⟩, ?_⟩
   ·exact fld_66_2 rfl ((evt za 46).trans (optVal (zc.dep 34 46 (by kernel_rfl)) rfl zβ)) ⟨_, rfl, Below.refl _ _, optDef zβ rfl⟩
   refine ⟨⟨_, .no (d := (true && ((decide ((((f.toNat : Nat) : Int) : Int) < (((sg.length : Nat) : Int) : Int))) && (((sget sg f.toNat).ar : Int) == (((n : Nat) : Int) : Int))))) rfl (fun v w h => h), fun h w => optUndef h, fun zβ za zw zc => ?_⟩, ?_⟩
   ·exact ld_4 rfl ((evt za 47).trans (optVal (zc.dep 35 47 (by kernel_rfl)) rfl zβ)) (bkeeps (bstep hb5 zc.below) _ _ (hc13 f.toNat (by first | omega | (have zz := zβ; simp only [Bool.and_eq_true, Bool.or_eq_true, Bool.true_and, Bool.not_eq_true', Bool.or_eq_false_iff, Bool.and_eq_false_iff, beq_eq_false_iff_ne, ne_eq, beq_iff_eq, decide_eq_true_eq, decide_eq_false_iff_not, bne_iff_ne, bne_eq_false_iff_eq] at zz; omega))).2.2) ⟨_, rfl, Below.refl _ _, optDef zβ rfl⟩
   refine ⟨⟨_, .no (d := (true && ((decide ((((f.toNat : Nat) : Int) : Int) < (((sg.length : Nat) : Int) : Int))) && (((sget sg f.toNat).ar : Int) == (((n : Nat) : Int) : Int))))) rfl (fun v w h => h), fun h w => optUndef h, fun zβ za zw zc => ?_⟩, ?_⟩
   ·exact wp_not rfl ((evt za 48).trans (optVal (zc.dep 36 48 (by kernel_rfl)) rfl zβ)) ⟨_, rfl, Below.refl _ _, optDef zβ rfl⟩
   refine ⟨⟨_, .yes (d := true) rfl (fun v w h => h), fun h w => optUndef h, fun zβ za zw zc => ?_⟩, ?_⟩
   ·exact wp_or rfl ((evt za 39).trans (optVal (zc.dep 27 39 (by kernel_rfl)) rfl zβ)) (fun hp => ((evt za 49).trans (optVal (zc.dep 37 49 (by kernel_rfl)) rfl (bMkN zβ hp)))) ⟨_, rfl, Below.refl _ _, optDef zβ rfl⟩
   refine ⟨⟨true, .none rfl, fun h w => optUndef h, fun zβ za zw zc => ?_⟩, ?_⟩
   ·exact wp_and rfl ((evt za 37).trans (optVal (zc.dep 25 37 (by kernel_rfl)) rfl rfl)) (fun hp => ((evt za 50).trans (optVal (zc.dep 38 50 (by kernel_rfl)) rfl (bMk zβ hp)))) ⟨_, rfl, Below.refl _ _, optDef zβ rfl⟩
   refine ⟨⟨true, .none rfl, fun h w => optUndef h, fun zβ za zw zc => ?_⟩, ?_⟩
   ·exact wp_assign rfl ((evt za 51).trans (optVal (zc.dep 39 51 (by kernel_rfl)) rfl rfl)) ⟨_, rfl, Below.refl _ _, optDef zβ rfl⟩
   exact trivial
  ·intro za w15 zh hb16 zu
   have zh := zh.cons (d := 4) (v := .bool ((((decide ((((f.toNat : Nat) : Int) : Int) < (((sg.length : Nat) : Int) : Int))) && (((sget sg f.toNat).ar : Int) == (((n : Nat) : Int) : Int))) && (top || (!(sget sg f.toNat).pred))))) (optVal (zu 40 4 (by kernel_rfl)) rfl rfl)
   clear zu
   refine WE.go zh ?_
   refine WE.next (WC.ret (WE.ret1 rfl rfl ?_))
   have hB17 := hB3.below hb16
   exact ⟨_, rfl, congrArg Value.bool (Eq.symm (by unfold nodeB; rw [if_neg hf0])), hB17, (Chg.trans hC3 (.ofBelow hb16))⟩
include hsys hgt hne in
set_option maxRecDepth 100000 in
theorem teach_any : ∀ (t : T) (top : Bool) (b o : Nat) (a : Option Addr) (c : Nat) (w : World), t.size ≤ 4294967296 → w0.cell? ⟨b, o, none⟩ = some (.int .i64 t.f) → w0.cell? ⟨b, o + 1, none⟩ = some (.slice a t.args.length c) → IsT w0 t (.agg #[.int .i64 t.f, .slice a t.args.length c]) → Below w0.heap.size w0 w → Blk w gt 4 #[.bool top] → Blk w gs 24 #[.slice sa sg.length sc] →
  Calls Try.prog 53 #[.pointer (some ⟨b, o, none⟩), .func (.func 54) #[] #[.pointer (some ⟨gt, 0, none⟩), .pointer (some ⟨gs, 0, none⟩)]] w (Ret fun v' w' => v' = .bool (t.ovr sg top) ∧ Blk w' gt 4 #[.bool false] ∧ Chg (fun q => q = gt) w w') := by
 refine T.ind (fun f l ih => ?_)
 intro top b o a c w hsz hcf hca hv hb0 hBt hBs
 simp only [T.f_mk, T.args_mk] at hcf hca hv
 have hrow := isT_row hv
 have hl := hrow.2.2.2
 have hlen := len_le_sizeL l
 have hsz' := hsz
 rw [T.size] at hsz'
 have hgtl := hBt.lt
 have hC0 := Chg.refl (fun q => q = gt) w
 refine Calls.walk (l := [.pointer (some ⟨b, o, none⟩), .func (.func 54) #[] #[.pointer (some ⟨gt, 0, none⟩), .pointer (some ⟨gs, 0, none⟩)]]) Try.func53 rfl (by kernel_rfl) ?_
 refine WC.sub (K' := [(0, .pointer (some ⟨b, o, none⟩)), (1, .func (.func 54) #[] #[.pointer (some ⟨gt, 0, none⟩), .pointer (some ⟨gs, 0, none⟩)])]) ⟨rfl, rfl, trivial⟩ ?_
 refine WC.seq (WC.region (WL.asg rfl rfl rfl rfl rfl (WL.nil (WE.next (WC.seq (WC.seq (WC.region (WL.mv rfl rfl rfl rfl rfl (WL.mv rfl rfl rfl rfl rfl ?_)))))))))
 have hb3 : Below w0.heap.size w0 w := hb0
 refine WL.call rfl rfl rfl (fun za zh zC => wp_callv (by kernel_rfl) rfl (zh.ev rfl) (hv1 (zh.ev rfl))) (tchk1_any sg w0 gt gs sa sc hsys hgt hne f l.length top b o a c hcf hca _ hb3 hBt hBs) ?_
 rintro _ w4 ⟨rfl, hB1, hc2⟩
 have hC5 := Chg.trans hC0 hc2
 have hb6 := chg_below hb3 hc2 (fun q hq e => by have z : q = gt := e; omega)
 have hB7 := chg_blk hBs hc2 (fun e => hne (Eq.symm e))
 refine WL.val (.bool ((!(nodeB sg top f l.length)))) rfl rfl rfl (fun za zC zh zk => wp_not rfl (zh.ev rfl) zk) ?_
 refine WL.nil (WE.next ?_)
 refine WC.cond rfl (fun h8 => ?_) (fun h8 => ?_)
 ·have h8 : ¬ ((nodeB sg top f l.length) = true) := by simpa using h8
  have hnd : nodeB sg top f l.length = false := by simpa using h8
  refine WC.seq (WC.region (WL.asg rfl rfl rfl rfl rfl (WL.nil (WE.next (WC.ret (WE.thenRet (WE.ret1 rfl rfl ?_)))))))
  exact ⟨_, rfl, congrArg Value.bool (Eq.symm (ovr_no1 hnd)), hB1, hC5⟩
 ·have h8 : ¬ (¬ ((nodeB sg top f l.length) = true)) := by simpa using h8
  have hnd : nodeB sg top f l.length = true := by simpa using h8
  refine WC.skip (WE.next (WC.seq (WC.seq (WC.region (WL.mv rfl rfl rfl rfl rfl ?_)))))
  refine WL.val _ rfl rfl rfl (fun za zC zh zk => nilCheck_ rfl (zh.ev rfl) zk) ?_
  refine WL.val _ rfl rfl rfl (fun za zC zh zk => fld_35_1 rfl (zh.ev rfl) zk) ?_
  have hc9 := bkeeps hb6 _ _ hca
  refine WL.val _ rfl rfl rfl (fun za zC zh zk => ld_25 rfl (zh.ev rfl) hc9 zk) ?_
  refine WL.val (.int .i64 (((l.length : Nat) : Int))) rfl rfl rfl (fun za zC zh zk => len_25 rfl (zh.ev rfl) zk) ?_
  refine WL.mv rfl rfl rfl rfl rfl (WL.nil (WE.next (WC.block ?_)))
  refine WC.loop (X := Nat) (fun k => l.length - k) (fun k => [(0, .pointer (some ⟨b, o, none⟩)), (1, .func (.func 54) #[] #[.pointer (some ⟨gt, 0, none⟩), .pointer (some ⟨gs, 0, none⟩)]), (9, .bool ((!(nodeB sg top f l.length)))), (14, .int .i64 (((l.length : Nat) : Int))), (15, .int .i64 (((k : Nat) : Int)))]) (fun k w10 => k ≤ l.length ∧ (∀ i, i < k → (tget l i).ovr sg false = true) ∧ Chg (fun q => q = gt) w w10 ∧ Below w0.heap.size w0 w10 ∧ Blk w10 gt 4 #[.bool false] ∧ Blk w10 gs 24 #[.slice sa sg.length sc]) 0 ⟨rfl, rfl, rfl, rfl, rfl, trivial⟩ ?_ ?_
  ·exact ⟨Nat.zero_le _, fun i hi => absurd hi (Nat.not_lt_zero i), hC5, hb6, hB1, hB7⟩
  ·rintro k w10 ⟨hk, hall, hCx, hb11, hB12, hB13⟩
   refine WC.seq (WC.region ?_)
   refine WL.val (.bool ((decide ((((k : Nat) : Int) : Int) < (((l.length : Nat) : Int) : Int))))) rfl rfl rfl (fun za zC zh zk => lss_3 rfl (zh.ev rfl) (zh.ev rfl) zk) ?_
   refine WL.nil (WE.next (WC.seq ?_))
   refine WC.cond rfl (fun h14 => ?_) (fun h14 => ?_)
   ·have h14 : (((k : Nat) : Int) : Int) < (((l.length : Nat) : Int) : Int) := by simpa using h14
    refine WC.skip (WE.next (WC.seq (WC.block (WC.seq (WC.region (WL.mv rfl rfl rfl rfl rfl (WL.asg rfl rfl rfl rfl rfl (WL.nil (WE.next (WC.seq (WC.region (WL.mv rfl rfl rfl rfl rfl ?_))))))))))))
    refine WL.val _ rfl rfl rfl (fun za zC zh zk => nilCheck_ rfl (zh.ev rfl) zk) ?_
    refine WL.val _ rfl rfl rfl (fun za zC zh zk => fld_35_1 rfl (zh.ev rfl) zk) ?_
    have hc15 := bkeeps hb11 _ _ hca
    refine WL.val _ rfl rfl rfl (fun za zC zh zk => ld_25 rfl (zh.ev rfl) hc15 zk) ?_
    refine WL.mv rfl rfl rfl rfl rfl ?_
    obtain ⟨b16, o17, A18, C19, ha20, hc21⟩ := IsTs.open hl
    refine WL.val _ rfl rfl rfl (fun za zC zh zk => ix_25 (k := k) rfl (zh.ev rfl) (ha20 k (by first | omega | (simp; omega))) (zh.ev rfl) (by first | omega | (simp; omega)) zk) ?_
    refine WL.mv rfl rfl rfl rfl rfl ?_
    have hb24 : Below w0.heap.size w0 w10 := hb11
    refine WL.call rfl rfl rfl (fun za zh zC => wp_call (by kernel_rfl) rfl (hv2 (zh.ev rfl) (zh.ev rfl))) (ih (tget l k) (tget_mem (by omega)) false b16 (o17 + k * 2) _ _ _ (size_at (by omega) hsz) (hc21 k (by first | omega | (simp; omega))).1 (hc21 k (by first | omega | (simp; omega))).2.1 (hc21 k (by first | omega | (simp; omega))).2.2 hb24 hB12 hB13) ?_
    rintro _ w25 ⟨rfl, hB22, hc23⟩
    have hC26 := Chg.trans hCx hc23
    have hb27 := chg_below hb24 hc23 (fun q hq e => by have z : q = gt := e; omega)
    have hB28 := chg_blk hB13 hc23 (fun e => hne (Eq.symm e))
    refine WL.val (.bool ((!((tget l k).ovr sg false)))) rfl rfl rfl (fun za zC zh zk => wp_not rfl (zh.ev rfl) zk) ?_
    refine WL.nil (WE.next ?_)
    refine WC.cond rfl (fun h29 => ?_) (fun h29 => ?_)
    ·have h29 : ¬ (((tget l k).ovr sg false) = true) := by simpa using h29
     have hch : (tget l k).ovr sg false = false := by simpa using h29
     refine WC.seq (WC.region (WL.asg rfl rfl rfl rfl rfl (WL.nil (WE.next (WC.ret (WE.blockRet (WE.thenRet (WE.thenRet (WE.blockRet (WE.thenRet (WE.ret1 rfl rfl ?_)))))))))))
     exact ⟨_, rfl, congrArg Value.bool (Eq.symm (ovr_no2 (by omega) hch)), hB22, hC26⟩
    ·have h29 : ¬ (¬ (((tget l k).ovr sg false) = true)) := by simpa using h29
     have hch : (tget l k).ovr sg false = true := by simpa using h29
     refine WC.skip (WE.blockNormal (WE.next (WC.region ?_)))
     refine WL.val (.int .i64 ((((k + 1) : Nat) : Int))) rfl rfl rfl (fun za zC zh zk => addb_3 rfl (zh.ev rfl) (zh.ev rfl) (wrap_eq (by omega) (by omega) (by omega)) zk) ?_
     refine WL.mv rfl rfl rfl rfl rfl (WL.nil ?_)
     refine WE.round (k + 1) ⟨rfl, rfl, rfl, rfl, rfl, trivial⟩ ?_ ?_
     ·exact ⟨by omega, (fun i hi => by rcases Nat.lt_or_ge i k with z | z; exact hall i z; (obtain rfl : i = k := by omega); exact hch), hC26, hb27, hB22, hB28⟩
     ·omega
   ·have h14 : ¬ ((((k : Nat) : Int) : Int) < (((l.length : Nat) : Int) : Int)) := by simpa using h14
    refine WC.exit (WE.thenExit (WE.thenExit (WE.blockIs rfl (WE.next (WC.seq (WC.region (WL.asg rfl rfl rfl rfl rfl (WL.nil (WE.next (WC.ret (WE.ret1 rfl rfl ?_)))))))))))
    exact ⟨_, rfl, congrArg Value.bool (Eq.symm (ovr_yes hnd (fun i hi => hall i (by omega)))), hB12, hCx⟩
end
/-- Whether a term may be put: 0, or 2. -/
def chkB (sg : List Sy) (t : T) : Bool := decide (sigCheck sg = 0) && smallB 48 t && t.ovr sg true
def chkI (sg : List Sy) (t : T) : Int := if chkB sg t = true then 0 else 2
set_option maxRecDepth 100000 in
theorem tmchk_any (sg : List Sy) (t : T) (w : World) (vs v : Value) (hsz : t.size ≤ 4294967296) (hs : IsSig w sg vs) (hv : IsT w t v) :
  Calls Try.prog 30 #[vs, v] w (Ret fun v' w' => v' = .int .i64 (chkI sg t) ∧ Below w.heap.size w w') := by
 have hst := hs
 have hvt := hv
 obtain ⟨sa, sc, rfl, hsc, hsm, hsys⟩ := hs
 obtain ⟨_, a, c, rfl, _, _, _⟩ := hv.form
 refine Calls.walk (l := [.agg #[.slice sa sg.length sc], .agg #[.int .i64 t.f, .slice a t.args.length c]]) Try.func30 rfl (by kernel_rfl) ?_
 refine WC.sub (K' := [(0, .agg #[.slice sa sg.length sc]), (1, .agg #[.int .i64 t.f, .slice a t.args.length c])]) ⟨rfl, rfl, trivial⟩ ?_
 refine WC.seq (WC.region ?_)
 refine WL.step (post := NewBlk w 24 #[.slice sa sg.length sc]) rfl rfl rfl (fun za zC zh zk => box_24 rfl (zh.ev rfl) (zk _ _ (newBlk _ _ _))) ?_
 rintro _ w1 ⟨g2, rfl, hg3, hB4, hb5, hz6⟩
 have hl7 : w.heap.size ≤ g2 := by omega
 refine WL.step (post := NewBlk w1 35 #[.int .i64 t.f, .slice a t.args.length c]) rfl rfl rfl (fun za zC zh zk => box_35 rfl (zh.ev rfl) (zk _ _ (newBlk _ _ _))) ?_
 rintro _ w8 ⟨g9, rfl, hg10, hB11, hb12, hz13⟩
 have hl14 : g2 < g9 := by have z1 := hB4.lt; omega
 have hl15 : w.heap.size ≤ g9 := by have z2 := (hb5).size; omega
 refine WL.asg rfl rfl rfl rfl rfl (WL.nil (WE.next (WC.seq (WC.seq ?_))))
 have hB16 := hB4.below hb12
 have hb17 : Below w.heap.size w w8 := (bstep hb5 hb12)
 refine WC.opt [(true, .val (.agg #[.slice sa sg.length sc])), (true, .val (.int .i64 ((sigCheck sg)))), (true, .val (.bool ((((sigCheck sg) : Int) != (0 : Int))))), (true, .val (.bool ((((sigCheck sg) : Int) != (0 : Int))))), ((true && !(((sigCheck sg) : Int) != (0 : Int))), .val (.agg #[.int .i64 t.f, .slice a t.args.length c])), ((true && !(((sigCheck sg) : Int) != (0 : Int))), .val (.bool ((smallB 48 t)))), ((true && !(((sigCheck sg) : Int) != (0 : Int))), .val (.bool ((!(smallB 48 t))))), (true, .val (.bool (((((sigCheck sg) : Int) != (0 : Int)) || (!(smallB 48 t))))))] [(0, .agg #[.slice sa sg.length sc]), (1, .agg #[.int .i64 t.f, .slice a t.args.length c]), (2, .pointer (some ⟨g2, 0, none⟩)), (3, .pointer (some ⟨g9, 0, none⟩)), (4, .int .i64 0)] ⟨rfl, rfl, rfl, rfl, rfl, trivial⟩ (by kernel_rfl) (by kernel_rfl) (by kernel_rfl) ?_ ?_
 ·refine ⟨⟨true, .none rfl, fun h w => optUndef h, fun zβ za zw zc => ?_⟩, ?_⟩
  ·exact ld_24 rfl (zc.kn.ev rfl) (bkeeps zc.below _ _ ((hB16.cell 0).trans rfl)) ⟨_, rfl, Below.refl _ _, optDef zβ rfl⟩
  refine ⟨⟨true, .none rfl, fun h w => optUndef h, fun zβ za zw zc => ?_⟩, ?_⟩
  ·exact wp_call (by kernel_rfl) rfl (hv1 ((evt za 7).trans (optVal (zc.dep 0 7 (by kernel_rfl)) rfl rfl))) (pcheck_any sg _ _ (IsSig.below (bstep hb17 zc.below) hst)) (fun v w' h => ⟨v, rfl, h.2, optDef zβ h.1⟩)
  refine ⟨⟨true, .none rfl, fun h w => optUndef h, fun zβ za zw zc => ?_⟩, ?_⟩
  ·exact neq_27 rfl ((evt za 8).trans (optVal (zc.dep 1 8 (by kernel_rfl)) rfl rfl)) (zc.kn.ev rfl) ⟨_, rfl, Below.refl _ _, optDef zβ rfl⟩
  refine ⟨⟨true, .none rfl, fun h w => optUndef h, fun zβ za zw zc => ?_⟩, ?_⟩
  ·exact wp_move rfl ((evt za 9).trans (optVal (zc.dep 2 9 (by kernel_rfl)) rfl rfl)) ⟨_, rfl, Below.refl _ _, optDef zβ rfl⟩
  refine ⟨⟨_, .no (d := true) rfl (fun v w h => h), fun h w => optUndef h, fun zβ za zw zc => ?_⟩, ?_⟩
  ·exact ld_35 rfl (zc.kn.ev rfl) (bkeeps zc.below _ _ ((hB11.cell 0).trans rfl)) (bkeeps zc.below _ _ ((hB11.cell 1).trans rfl)) ⟨_, rfl, Below.refl _ _, optDef zβ rfl⟩
  refine ⟨⟨_, .no (d := true) rfl (fun v w h => h), fun h w => optUndef h, fun zβ za zw zc => ?_⟩, ?_⟩
  ·exact wp_call (by kernel_rfl) rfl (hv2 ((evt za 11).trans (optVal (zc.dep 4 11 (by kernel_rfl)) rfl zβ)) (zc.kn.ev rfl)) (tsmall_any t 48 (by omega) _ _ (IsT.below (bstep hb17 zc.below) hvt)) (fun v w' h => ⟨v, rfl, h.2, optDef zβ h.1⟩)
  refine ⟨⟨_, .no (d := true) rfl (fun v w h => h), fun h w => optUndef h, fun zβ za zw zc => ?_⟩, ?_⟩
  ·exact wp_not rfl ((evt za 12).trans (optVal (zc.dep 5 12 (by kernel_rfl)) rfl zβ)) ⟨_, rfl, Below.refl _ _, optDef zβ rfl⟩
  refine ⟨⟨true, .none rfl, fun h w => optUndef h, fun zβ za zw zc => ?_⟩, ?_⟩
  ·exact wp_or rfl ((evt za 10).trans (optVal (zc.dep 3 10 (by kernel_rfl)) rfl rfl)) (fun hp => ((evt za 13).trans (optVal (zc.dep 6 13 (by kernel_rfl)) rfl (bMkN zβ hp)))) ⟨_, rfl, Below.refl _ _, optDef zβ rfl⟩
  exact trivial
 ·intro za w18 zh hb19 zu
  have zh := zh.cons (d := 14) (v := .bool (((((sigCheck sg) : Int) != (0 : Int)) || (!(smallB 48 t))))) (optVal (zu 7 14 (by kernel_rfl)) rfl rfl)
  clear zu
  refine WE.go zh ?_
  refine WE.next ?_
  refine WC.cond rfl (fun h20 => ?_) (fun h20 => ?_)
  ·have h20 : (((sigCheck sg) : Int) ≠ (0 : Int)) ∨ (¬ ((smallB 48 t) = true)) := by simpa using h20
   refine WC.seq (WC.region (WL.asg rfl rfl rfl rfl rfl (WL.nil (WE.next (WC.ret (WE.thenRet (WE.ret1 rfl rfl ?_)))))))
   have hb21 : Below w.heap.size w w18 := (bstep hb17 hb19)
   exact ⟨_, rfl, by unfold chkI chkB; have z := h20; rw [if_neg (fun q => by simp at q z; rcases z with z | z; exact z q.1.1; rw [q.1.2] at z; cases z)], hb21⟩
  ·have h20 : ¬ ((((sigCheck sg) : Int) ≠ (0 : Int)) ∨ (¬ ((smallB 48 t) = true))) := by simpa using h20
   refine WC.skip (WE.next (WC.seq ?_))
   have hB22 := hB11.below hb19
   have hb23 : Below w.heap.size w w18 := (bstep hb17 hb19)
   have h3c0 := ((hB22.cell 0).trans rfl)
   have h3c1 := ((hB22.cell 1).trans rfl)
   have hb03 : Below w.heap.size w w18 := hb23
   refine WC.region ?_
   refine WL.step (post := NewBlk w18 4 #[.bool false]) rfl rfl rfl (fun za zC zh zk => alloc_4 rfl (zk _ _ (newBlk _ _ _))) ?_
   rintro _ w24 ⟨g25, rfl, hg26, hB27, hb28, hz29⟩
   have hl30 : g2 < g25 := by have z1 := hB16.lt; have z2 := (hb19).size; omega
   have hl31 : g9 < g25 := by have z1 := hB22.lt; omega
   have hl32 : w.heap.size ≤ g25 := by have z2 := (hb23).size; omega
   have hl33 : w18.heap.size ≤ g25 := by omega
   refine WL.step (post := fun _ w' => Upd g25 w24 w' ∧ Blk w' g25 4 #[.bool true]) rfl rfl rfl (fun za zC zh zk => st_4 rfl (zh.ev rfl) (zh.ev rfl) hB27 (by first | decide | simp) (fun v => zk v _ ⟨Upd.at_ _ _ _ _, hB27.set_ 0 _⟩)) ?_
   rintro v37 w34 ⟨hu35, hB36⟩
   have hb38 : Below w.heap.size w w24 := (bstep hb23 hb28)
   have hb39 := upd_below hb38 hu35 (by omega)
   have hb40 := upd_below hb28 hu35 (by omega)
   have hb42 : Below w8.heap.size w8 w24 := (bstep hb19 hb28)
   have hB41 := hB16.below hb42
   have hB43 := upd_blk hB41 hu35 (by omega)
   have hB44 := hB22.below hb28
   have hB45 := upd_blk hB44 hu35 (by omega)
   refine WL.nil (WE.next (WC.seq (WC.region ?_)))
   refine WL.val (.func (Fn.func 54) #[] #[.pointer (some ⟨g25, 0, none⟩), .pointer (some ⟨g2, 0, none⟩)]) rfl rfl rfl (fun za zC zh zk => mkfn rfl (hv0) (hv2 (zh.ev rfl) (zh.ev rfl)) zk) ?_
   have hb48 : Below w.heap.size w w34 := hb39
   have hb49 : Below w18.heap.size w18 w34 := hb40
   refine WL.call rfl rfl rfl (fun za zh zC => wp_call (by kernel_rfl) rfl (hv2 (zh.ev rfl) (zh.ev rfl))) (teach_any sg w18 g25 g2 sa sc (IsSys.below hb03 hsys) (by omega) (by omega) t true g9 0 a c _ hsz h3c0 h3c1 (IsT.below hb03 hvt) hb49 hB36 hB43) ?_
   rintro _ w50 ⟨rfl, hB46, hc47⟩
   have hb51 := chg_below hb48 hc47 (fun q hq e => by have z : q = g25 := e; omega)
   refine WL.asg rfl rfl rfl rfl rfl (WL.nil (WE.next (WC.seq (WC.seq (WC.region (WL.mv rfl rfl rfl rfl rfl ?_))))))
   refine WL.val (.bool ((!(t.ovr sg true)))) rfl rfl rfl (fun za zC zh zk => wp_not rfl (zh.ev rfl) zk) ?_
   refine WL.nil (WE.next ?_)
   refine WC.cond rfl (fun h52 => ?_) (fun h52 => ?_)
   ·have h52 : ¬ ((t.ovr sg true) = true) := by simpa using h52
    have ho9 : t.ovr sg true = false := by simpa using h52
    refine WC.seq (WC.region (WL.asg rfl rfl rfl rfl rfl (WL.nil (WE.next (WC.ret (WE.thenRet (WE.ret1 rfl rfl ?_)))))))
    exact ⟨_, rfl, by unfold chkI chkB; rw [ho9]; simp, hb51⟩
   ·have h52 : ¬ (¬ ((t.ovr sg true) = true)) := by simpa using h52
    have ho9 : t.ovr sg true = true := by simpa using h52
    refine WC.skip (WE.next (WC.seq (WC.region (WL.asg rfl rfl rfl rfl rfl (WL.nil (WE.next (WC.ret (WE.ret1 rfl rfl ?_))))))))
    exact ⟨_, rfl, by unfold chkI chkB; rw [ho9]; have z := h20; simp at z; simp [z], hb51⟩
end Go.Proofs.Ytbohlpfndiiimaa

/- Terms compared, as a plain function. -/
namespace Go.Proofs.Ytbohlpfndiiimaa
namespace T
mutual
def same : T → T → Bool
  | .mk f l, .mk g k => (f == g) && sameL l k
def sameL : List T → List T → Bool
  | [], [] => true
  | a :: r, b :: q => same a b && sameL r q
  | [], _ :: _ => false
  | _ :: _, [] => false
end
mutual
theorem same_iff : ∀ (s t : T), same s t = true ↔ s = t
  | .mk f l, .mk g k => by
    rw [same, Bool.and_eq_true, sameL_iff l k, beq_iff_eq]
    simp
theorem sameL_iff : ∀ (l k : List T), sameL l k = true ↔ l = k
  | [], [] => by simp [sameL]
  | a :: r, b :: q => by rw [sameL, Bool.and_eq_true, same_iff a b, sameL_iff r q]; simp
  | [], _ :: _ => by simp [sameL]
  | _ :: _, [] => by simp [sameL]
end
theorem same_refl (s : T) : same s s = true := (same_iff s s).2 rfl
mutual
def cmp : T → T → Int
  | .mk f l, .mk g k => if f ≠ g then (if f < 0 ∧ g < 0 then (if g < f then -1 else 1) else if f < g then -1 else 1) else cmpL l k
def cmpL : List T → List T → Int
  | [], [] => 0
  | a :: r, b :: q => if cmp a b = 0 then cmpL r q else cmp a b
  | [], _ :: _ => -1
  | _ :: _, [] => 1
end
mutual
theorem cmp_zero : ∀ (s t : T), cmp s t = 0 ↔ s = t
  | .mk f l, .mk g k => by
    rw [cmp]
    have h := cmpL_zero l k
    by_cases hfg : f = g
    · subst hfg; simp [h]
    · rw [if_pos (by simpa using hfg)]
      simp only [T.mk.injEq, hfg, false_and, iff_false]
      (repeat' split) <;> simp
theorem cmpL_zero : ∀ (l k : List T), cmpL l k = 0 ↔ l = k
  | [], [] => by simp [cmpL]
  | a :: r, b :: q => by
    rw [cmpL]
    have h1 := cmp_zero a b
    have h2 := cmpL_zero r q
    by_cases h : cmp a b = 0
    · rw [if_pos h, h2, h1.1 h]; simp
    · rw [if_neg h]
      simp only [h, false_iff, List.cons.injEq, not_and]
      intro e; exact absurd (h1.2 e) h
  | [], _ :: _ => by simp [cmpL]
  | _ :: _, [] => by simp [cmpL]
end
theorem cmp_same (s t : T) : if same s t = true then cmp s t = 0 else ¬ cmp s t = 0 := by
  by_cases h : s = t
  · rw [if_pos ((same_iff s t).2 h)]; exact (cmp_zero s t).2 h
  · rw [if_neg (fun e => h ((same_iff s t).1 e))]; exact fun e => h ((cmp_zero s t).1 e)
theorem cmpL_drop (l q : List T) (k : Nat) (h : k < l.length) (h' : k < q.length) : cmpL (l.drop k) (q.drop k) = if cmp l[k] q[k] = 0 then cmpL (l.drop (k + 1)) (q.drop (k + 1)) else cmp l[k] q[k] := by
  rw [List.drop_eq_getElem_cons h, List.drop_eq_getElem_cons h', cmpL]
theorem cmpL_long (l q : List T) (k : Nat) (h : k < l.length) (h' : q.length ≤ k) : cmpL (l.drop k) (q.drop k) = 1 := by
  rw [List.drop_eq_getElem_cons h, List.drop_eq_nil_of_le h', cmpL]
theorem cmpL_short (l q : List T) (h : l.length < q.length) : cmpL (l.drop l.length) (q.drop l.length) = -1 := by
  rw [List.drop_eq_getElem_cons h, List.drop_eq_nil_of_le (Nat.le_refl _), cmpL]
theorem cmpL_end (l q : List T) (h : q.length ≤ l.length) : cmpL (l.drop l.length) (q.drop l.length) = 0 := by
  rw [List.drop_eq_nil_of_le h, List.drop_eq_nil_of_le (Nat.le_refl _), cmpL]
end T
end Go.Proofs.Ytbohlpfndiiimaa

/- Banks of terms, plain: what lies in a bank does not hang on the order in which terms came. -/
namespace Go.Proofs.Ytbohlpfndiiimaa
set_option linter.unusedVariables false
set_option linter.unusedSimpArgs false
def tms (N : List En) : List T := (List.range N.length).map (tmE N)
theorem mem_tms {N : List En} {t : T} : t ∈ tms N ↔ ∃ i, i < N.length ∧ tmE N i = t := by
  unfold tms
  rw [List.mem_map]
  constructor
  · rintro ⟨i, hi, e⟩; exact ⟨i, List.mem_range.1 hi, e⟩
  · rintro ⟨i, hi, e⟩; exact ⟨i, List.mem_range.2 hi, e⟩
mutual
/-- A term's parts, itself with them. -/
def T.sub : T → List T
  | .mk f l => .mk f l :: T.subL l
def T.subL : List T → List T
  | [] => []
  | t :: r => t.sub ++ T.subL r
end
theorem tms_put {N N' : List En} (h0 : BOk N) (h : BPut N N') {t : T} (ht : t ∈ tms N) : t ∈ tms N' := by
  obtain ⟨i, hi, e⟩ := mem_tms.1 ht
  exact mem_tms.2 ⟨i, Nat.lt_of_lt_of_le hi h.le, (h.tm h0 hi).trans e⟩
mutual
theorem mem_bput : ∀ (t : T) (N : List En), BOk N → ∀ s, s ∈ tms (t.bput N).1 ↔ s ∈ tms N ∨ s ∈ t.sub
  | .mk f l, N, h, s => by
    obtain ⟨h1, h2, h3, h4⟩ := bputL_ok l N h
    obtain ⟨k1, k2, k3, k4⟩ := bput_ok (.mk f l) N h
    have hm := mem_bputL l N h
    constructor
    · intro hs
      obtain ⟨i, hi, e⟩ := mem_tms.1 hs
      rw [T.bput] at hi e
      unfold addE at hi e
      cases hq : idxE (T.bputL l N).1 ⟨f, (T.bputL l N).2⟩ with
      | some n =>
        rw [hq] at hi e
        rcases (hm s).1 (mem_tms.2 ⟨i, hi, e⟩) with q | q
        · exact .inl q
        · exact .inr (by rw [T.sub]; exact List.mem_cons_of_mem _ q)
      | none =>
        rw [hq] at hi e
        (try dsimp only at hi e)
        by_cases c : i < (T.bputL l N).1.length
        · rw [tmE_app h1.ok c] at e
          rcases (hm s).1 (mem_tms.2 ⟨i, c, e⟩) with q | q
          · exact .inl q
          · exact .inr (by rw [T.sub]; exact List.mem_cons_of_mem _ q)
        · have hi2 : i = (T.bputL l N).1.length := by rw [List.length_append] at hi; have : i < (T.bputL l N).1.length + 1 := hi; omega
          have z := k3
          rw [T.bput] at z
          unfold addE at z
          rw [hq] at z
          (try dsimp only at z)
          rw [hi2, z] at e
          exact .inr (by rw [T.sub, ← e]; exact List.mem_cons_self)
    · intro hs
      rcases hs with hs | hs
      · exact tms_put h k1 hs
      · rw [T.sub] at hs
        rcases List.mem_cons.1 hs with rfl | hs
        · exact mem_tms.2 ⟨_, k2, k3⟩
        · have z := (hm s).2 (.inr hs)
          have kk := (addE_ok (x := ⟨f, (T.bputL l N).2⟩) h1.ok h2).1
          rw [T.bput]
          exact tms_put h1.ok kk z
theorem mem_bputL : ∀ (l : List T) (N : List En), BOk N → ∀ s, s ∈ tms (T.bputL l N).1 ↔ s ∈ tms N ∨ s ∈ T.subL l
  | [], N, h, s => by rw [T.bputL, T.subL]; simp
  | t :: r, N, h, s => by
    have h1 := (bput_ok t N h).1
    rw [T.bputL]
    show s ∈ tms (T.bputL r (t.bput N).1).1 ↔ _
    rw [mem_bputL r _ h1.ok s, mem_bput t N h s, T.subL, List.mem_append, or_assoc]
end
end Go.Proofs.Ytbohlpfndiiimaa

/- Scopes (functions with labels) through which the run goes without a goto. -/
namespace Go.Proofs.Ytbohlpfndiiimaa
open Go.RowKit Go
set_option linter.unusedVariables false
set_option linter.unusedSimpArgs false
section
variable {P : Program} {n : Fr} {K : Known} {w : World} {Q : Exit → Act → World → Prop} {c : Code}
end
end Go.Proofs.Ytbohlpfndiiimaa

/- Put, as a bank tells it: the program. -/
namespace Go.Proofs.Ytbohlpfndiiimaa
open Go.RowKit Go
set_option linter.unusedVariables false
set_option linter.unusedSimpArgs false
mutual
/-- The symbols are ints. -/
def T.sy : T → Prop
 | .mk f l => I64 f ∧ T.syL l
def T.syL : List T → Prop
 | [] => True
 | t :: r => t.sy ∧ T.syL r
end
mutual
theorem IsT.sy {w : World} : ∀ {t : T} {v : Value}, IsT w t v → t.sy
 | .mk f l, v, ⟨h1, _, _, _, _, _, h2⟩ => ⟨h1, IsTs.syL h2⟩
theorem IsTs.syL {w : World} : ∀ {l : List T} {a : Option Addr} {i : Nat}, IsTs w l a i → T.syL l
 | [], _, _, _ => trivial
 | t :: r, a, i, ⟨⟨_, _, _, _, _, _, _, h3⟩, h4⟩ => ⟨IsT.sy h3, IsTs.syL h4⟩
end
mutual
theorem sub_size : ∀ (t s : T), s ∈ t.sub → s.size ≤ t.size
 | .mk f l, s, h => by
  rw [T.sub] at h
  rcases List.mem_cons.1 h with rfl | h
  ·exact Nat.le_refl _
  ·have := subL_size l s h
   rw [T.size]; omega
theorem subL_size : ∀ (l : List T) (s : T), s ∈ T.subL l → s.size ≤ T.sizeL l
 | [], s, h => by rw [T.subL] at h; cases h
 | t :: r, s, h => by
  rw [T.subL] at h
  rw [T.sizeL]
  rcases List.mem_append.1 h with h | h
  ·have := sub_size t s h; omega
  ·have := subL_size r s h; omega
end
mutual
theorem sub_sy : ∀ (t s : T), s ∈ t.sub → t.sy → s.sy
 | .mk f l, s, h, k => by
  rw [T.sub] at h
  rcases List.mem_cons.1 h with rfl | h
  ·exact k
  ·exact subL_sy l s h k.2
theorem subL_sy : ∀ (l : List T) (s : T), s ∈ T.subL l → T.syL l → s.sy
 | [], s, h, _ => by rw [T.subL] at h; cases h
 | t :: r, s, h, k => by
  rw [T.subL] at h
  rcases List.mem_append.1 h with h | h
  ·exact sub_sy t s h k.1
  ·exact subL_sy r s h k.2
end
/-- A bank of terms that may be. -/
structure NEk (N : List En) : Prop where
 ok : BOk N
 tm : ∀ s ∈ tms N, s.size ≤ 300 ∧ s.sy
theorem NEk.nil : NEk [] := ⟨.nil, fun s h => by simp [tms] at h⟩
theorem NEk.put {N : List En} {t : T} (h : NEk N) (hz : t.size ≤ 300) (hs : t.sy) : NEk (t.bput N).1 := ⟨(bput_ok t N h.ok).1.ok, fun s hm => by
 rcases (mem_bput t N h.ok s).1 hm with q | q
 ·exact h.tm s q
 ·exact ⟨Nat.le_trans (sub_size t s q) hz, sub_sy t s q hs⟩⟩
theorem NEk.at_ {N : List En} (h : NEk N) {i : Nat} (hi : i < N.length) : (tmE N i).size ≤ 300 ∧ (tmE N i).sy := h.tm _ (mem_tms.2 ⟨i, hi, rfl⟩)
theorem NEk.fn {N : List En} (h : NEk N) : FnI N := fun i hi => by
 have z := (h.at_ hi).2
 rw [tmE_eq h.ok hi] at z
 exact z.1
theorem smallB_le {t : T} (h : smallB 48 t = true) : t.size ≤ 300 := by
 rw [smallB_small] at h
 unfold T.small at h
 simp only [Bool.and_eq_true, decide_eq_true_eq] at h
 exact h.1.1
theorem chkI_iff (sg : List Sy) (t : T) : chkI sg t = 0 ↔ chkB sg t = true := by unfold chkI; split <;> simp [*]
theorem chkB_le {sg : List Sy} {t : T} (h : chkB sg t = true) : t.size ≤ 300 := by
 unfold chkB at h
 simp only [Bool.and_eq_true] at h
 exact smallB_le h.1.2
/-- What Put leaves, and tells. -/
def bputI (sg : List Sy) (N : List En) (t : T) : List En := if chkI sg t = 0 then (t.bput N).1 else N
def bputV (sg : List Sy) (N : List En) (t : T) : Int := if chkI sg t = 0 then (((t.bput N).2 : Nat) : Int) else 0
theorem bputI_len {sg : List Sy} {N : List En} {t : T} (h : NEk N) : (bputI sg N t).length ≤ N.length + 300 := by
 unfold bputI
 split
 ·rename_i c
  have := (bput_ok t N h.ok).2.2.2
  have := chkB_le ((chkI_iff sg t).1 c)
  omega
 ·omega
/-- A bank and its signature, whose blocks are of 'Y'. -/
def BkS (w : World) (g : Nat) (sg : List Sy) (Y : Nat → Prop) (N : List En) : Prop := ∃ Z sa sc, BkIs w g (.slice sa sg.length sc) Z N ∧ Own w (fun b => ¬ Z b ∧ Y b) 66 3 sa sc sg.length (syCells sg) ∧ (∀ x ∈ sg, I64 x.ar ∧ x.name.size ≤ maxLen) ∧ (∀ b, Z b → Y b) ∧ (∀ b, Y b → b < w.heap.size) ∧ NEk N
section
variable {w w' : World} {g B : Nat} {sg : List Sy} {Y X X2 : Nat → Prop} {N : List En}
theorem BkS.chg (h : BkS w g sg Y N) (hc : Chg X w w') (hX : ∀ b, Y b → ¬ X b) : BkS w' g sg Y N := by
 obtain ⟨Z, sa, sc, h1, h2, h3, h4, h5, h6⟩ := h
 exact ⟨Z, sa, sc, h1.chg hc (fun b q => hX b (h4 b q)), h2.chg hc (fun b q => hX b q.2), h3, h4, fun b q => Nat.lt_of_lt_of_le (h5 b q) hc.size, h6⟩
theorem BkS.below (h : BkS w g sg Y N) (hb : Below w.heap.size w w') : BkS w' g sg Y N := h.chg (X := fun _ => False) (.ofBelow hb) (fun _ _ => id)
theorem BkS.lt (h : BkS w g sg Y N) : ∀ b, Y b → b < w.heap.size := by obtain ⟨Z, sa, sc, h1, h2, h3, h4, h5, h6⟩ := h; exact h5
theorem BkS.ok (h : BkS w g sg Y N) : NEk N := by obtain ⟨Z, sa, sc, h1, h2, h3, h4, h5, h6⟩ := h; exact h6
theorem BkS.hg (h : BkS w g sg Y N) : Y g := by obtain ⟨Z, sa, sc, h1, h2, h3, h4, h5, h6⟩ := h; exact h4 _ h1.hg
theorem BkS.is (h : BkS w g sg Y N) : ∃ Z sa sc, BkIs w g (.slice sa sg.length sc) Z N := by obtain ⟨Z, sa, sc, h1, h2, h3, h4, h5, h6⟩ := h; exact ⟨Z, sa, sc, h1⟩
/-- A bank whose blocks came from 'B' on, and none of them of 'X'. -/
def BkSJ (w : World) (B g : Nat) (sg : List Sy) (N : List En) (X : Nat → Prop) : Prop := ∃ Y, BkS w g sg Y N ∧ (∀ b, Y b → B ≤ b) ∧ ∀ b, X b → ¬ Y b
theorem BkSJ.below (h : BkSJ w B g sg N X) (hb : Below w.heap.size w w') : BkSJ w' B g sg N X := by
 obtain ⟨Y, h1, h2, h3⟩ := h
 exact ⟨Y, h1.below hb, h2, h3⟩
theorem BkSJ.avoid (h : BkSJ w B g sg N X) (hX : ∀ b, X2 b → X b ∨ w.heap.size ≤ b ∨ b < B) : BkSJ w B g sg N X2 := by
 obtain ⟨Y, h1, h2, h3⟩ := h
 refine ⟨Y, h1, h2, fun b q k => ?_⟩
 rcases hX b q with z | z | z
 ·exact h3 b z k
 ·have := h1.lt b k; omega
 ·have := h2 b k; omega
end
set_option maxRecDepth 100000 in
theorem bputw_any (g : Nat) (sg : Value) (t : T) (N : List En) (Z A : Nat → Prop) (w : World) (v : Value) (hsz : t.size ≤ 4294967296) (hNl : N.length + t.size ≤ 1048576) (hK : BkIs w g sg Z N) (ht : InT A w t v) (hA : ∀ b, A b → ¬ Z b ∧ b < w.heap.size) :
  Calls Try.prog 31 #[.pointer (some ⟨g, 0, none⟩), v] w (Ret fun v' w' => v' = .int .i64 (((t.bput N).2 : Nat) : Int) ∧ (∃ Z', BkIs w' g sg Z' (t.bput N).1 ∧ ∀ b, Z' b → Z b ∨ w.heap.size ≤ b) ∧ Chg Z w w') := by
 obtain ⟨hf, a, c, rfl, hlc, hcm, hts⟩ := ht.form
 have hZl := hK.lt
 refine Calls.walk (l := [.pointer (some ⟨g, 0, none⟩), .agg #[.int .i64 t.f, .slice a t.args.length c]]) Try.func31 rfl (by kernel_rfl) ?_
 refine WC.sub (K' := [(0, .pointer (some ⟨g, 0, none⟩)), (1, .agg #[.int .i64 t.f, .slice a t.args.length c])]) ⟨rfl, rfl, trivial⟩ ?_
 refine WC.seq (WC.region ?_)
 refine WL.step (post := NewBlk w 26 #[.pointer (some ⟨g, 0, none⟩)]) rfl rfl rfl (fun za zC zh zk => box_26 rfl (zh.ev rfl) (zk _ _ (newBlk _ _ _))) ?_
 rintro _ w1 ⟨g2, rfl, hg3, hB4, hb5, hz6⟩
 have hl7 : w.heap.size ≤ g2 := by omega
 refine WL.step (post := NewBlk w1 35 #[.int .i64 t.f, .slice a t.args.length c]) rfl rfl rfl (fun za zC zh zk => box_35 rfl (zh.ev rfl) (zk _ _ (newBlk _ _ _))) ?_
 rintro _ w8 ⟨g9, rfl, hg10, hB11, hb12, hz13⟩
 have hl14 : g2 < g9 := by have z1 := hB4.lt; omega
 have hl15 : w.heap.size ≤ g9 := by have z2 := (hb5).size; omega
 refine WL.asg rfl rfl rfl rfl rfl (WL.nil (WE.next (WC.seq (WC.region ?_))))
 refine WL.step (post := NewBlk w8 73 #[.nilFunc]) rfl rfl rfl (fun za zC zh zk => alloc_73 rfl (zk _ _ (newBlk _ _ _))) ?_
 rintro _ w16 ⟨g17, rfl, hg18, hB19, hb20, hz21⟩
 have hl22 : g2 < g17 := by have z1 := hB4.lt; have z2 := (hb12).size; omega
 have hl23 : g9 < g17 := by have z1 := hB11.lt; omega
 have hb24 : Below w.heap.size w w8 := (bstep hb5 hb12)
 have hl25 : w.heap.size ≤ g17 := by have z2 := (hb24).size; omega
 refine WL.nil (WE.next (WC.seq (WC.region ?_)))
 refine WL.val (.func (Fn.func 55) #[] #[.pointer (some ⟨g17, 0, none⟩), .pointer (some ⟨g2, 0, none⟩)]) rfl rfl rfl (fun za zC zh zk => mkfn rfl (hv0) (hv2 (zh.ev rfl) (zh.ev rfl)) zk) ?_
 refine WL.step (post := fun _ w' => Upd g17 w16 w' ∧ Blk w' g17 73 #[.func (Fn.func 55) #[] #[.pointer (some ⟨g17, 0, none⟩), .pointer (some ⟨g2, 0, none⟩)]]) rfl rfl rfl (fun za zC zh zk => st_73 rfl (zh.ev rfl) (zh.ev rfl) hB19 (by first | decide | simp) (fun v => zk v _ ⟨Upd.at_ _ _ _ _, hB19.set_ 0 _⟩)) ?_
 rintro v29 w26 ⟨hu27, hB28⟩
 have hb30 : Below w.heap.size w w16 := (bstep hb24 hb20)
 have hb31 := upd_below hb30 hu27 (by omega)
 have hb33 : Below w1.heap.size w1 w16 := (bstep hb12 hb20)
 have hB32 := hB4.below hb33
 have hB34 := upd_blk hB32 hu27 (by omega)
 have hB35 := hB11.below hb20
 have hB36 := upd_blk hB35 hu27 (by omega)
 refine WL.nil (WE.next (WC.seq (WC.region ?_)))
 refine WL.val _ rfl rfl rfl (fun za zC zh zk => ld_73 rfl (zh.ev rfl) ((hB28.cell 0).trans rfl) zk) ?_
 refine WL.val _ rfl rfl rfl (fun za zC zh zk => ld_35 rfl (zh.ev rfl) ((hB36.cell 0).trans rfl) ((hB36.cell 1).trans rfl) zk) ?_
 have hbW := (hb31).size
 refine WL.call rfl rfl rfl (fun za zh zC => wp_callv (by kernel_rfl) rfl (zh.ev rfl) (hv1 (zh.ev rfl))) (bwalk_any g sg g17 g2 t N Z A _ _ hsz hNl (BkIs.below hK hb31) hB28 hB34 (fun q => by have z := hZl _ q; omega) (fun q => by have z := hZl _ q; omega) (InT.below hb31 ht) (fun b q => ⟨(hA b q).1, by have z := (hA b q).2; omega⟩)) ?_
 rintro _ w41 ⟨rfl, ⟨Z37, hK38, hZ39⟩, hc40⟩
 have hC42 := Chg.trans (.ofBelow hb31) hc40
 have hbj := hK38
 refine WL.asg rfl rfl rfl rfl rfl (WL.nil (WE.next (WC.ret (WE.ret1 rfl rfl ?_))))
 exact ⟨_, rfl, rfl, ⟨Z37, BkIs.below hK38 (Below.refl _ _), fun b q => by rcases hZ39 b q with z | z; exact .inl z; (right; omega)⟩, hC42⟩
end Go.Proofs.Ytbohlpfndiiimaa

/- Copies of rows: the program. -/
namespace Go.Proofs.Ytbohlpfndiiimaa
open Go.RowKit Go
set_option linter.unusedVariables false
set_option linter.unusedSimpArgs false
theorem isSys_none {w : World} {l : List Sy} (h : IsSys w l none) : l = [] := by
 cases l with
 | nil => rfl
 | cons x r => obtain ⟨b, o, ha, _⟩ := h.open; have := ha 0 (by simp); cases this
set_option maxRecDepth 100000 in
theorem clone_any (l : List Sy) (w : World) (a : Option Addr) (c : Nat) (hc : l.length ≤ c) (hm : c ≤ maxLen) (hz : l.length ≤ 4294967296) (hl : IsSys w l a) : Calls Try.prog 27 #[.slice a l.length c] w (Ret fun v' w' => ∃ ra rc, v' = .slice ra l.length rc ∧ World.ownsRow w' w.heap.size 66 3 (.slice ra l.length rc) l.length (syCells l) ∧ Below w.heap.size w w') := by
 unfold maxLen at hm
 refine Calls.walk (l := [.slice a l.length c]) Try.func27 rfl (by kernel_rfl) ?_
 refine WC.sub (K' := [(0, .slice a l.length c)]) ⟨rfl, trivial⟩ ?_
 refine WC.seq (WC.region (WL.asg rfl rfl rfl rfl rfl (WL.nil (WE.next (WC.seq (WC.seq (WC.region (WL.mv rfl rfl rfl rfl rfl ?_))))))))
 refine WL.val (.bool a.isNone) rfl rfl rfl (fun za zC zh zk => eqlnil_22 rfl (zh.ev rfl) (zh.ev rfl) zk) ?_
 refine WL.nil (WE.next ?_)
 refine WC.cond rfl (fun h1 => ?_) (fun h1 => ?_)
 ·skip
  refine WC.seq (WC.region (WL.asg rfl rfl rfl rfl rfl (WL.nil (WE.next (WC.ret (WE.thenRet (WE.ret1 rfl rfl ?_)))))))
  have e : l = [] := isSys_none (by have z := ‹a.isNone = true›; cases a with | none => exact hl | some x => cases z)
  subst e
  exact ⟨_, rfl, none, 0, rfl, World.ownsRow_nil _ _ _ _, (Below.refl _ _)⟩
 ·skip
  refine WC.skip (WE.next (WC.seq (WC.region ?_)))
  refine WL.step (post := NewRow w 66 #[] 0) rfl rfl rfl (fun za zC zh zk => row_22_0 rfl  (zk _ _ (newRow _ _ _ _))) ?_
  rintro _ w2 ⟨g3, rfl, hg4, hB5, hb6, hz7⟩
  have hl8 : w.heap.size ≤ g3 := by omega
  have hr9 : Own w2 (fun b => w.heap.size ≤ b) 66 3 (some ⟨g3, 0, none⟩) 0 0 [] := own_empty hB5 (by (try dsimp only at *); omega)
  refine WL.mv rfl rfl rfl rfl rfl ?_
  refine WL.step (post := fun v w' => ∃ ra rc, v = .slice ra (0 + l.length) rc ∧ Own w' (fun b => w.heap.size ≤ b) 66 3 ra rc (0 + l.length) ([] ++ (syCells l)) ∧ Chg (fun b => w.heap.size ≤ b) w2 w') rfl rfl rfl (fun za zC zh zk => app_22 (S := (fun b => w.heap.size ≤ b)) (xs := []) (news := (syCells l)) rfl (zh.ev rfl) (zh.ev rfl) hr9 (SrcIs.ofSys (IsSys.below hb6 hl)) (syCells_len _) (syCells_oneCell _) (by omega) (by omega) (by have z1 := hb6.size; (try dsimp only at *); omega) (fun ra rc w' h1 h2 => zk _ _ ⟨ra, rc, rfl, h1, h2⟩)) ?_
  rintro _ w10 ⟨ra11, rc12, rfl, hr13, hc14⟩
  have hb15 := chg_below hb6 hc14 (fun b hb => (by (try dsimp only at *); omega))
  refine WL.asg rfl rfl rfl rfl rfl (WL.nil (WE.next (WC.ret (WE.ret1 rfl rfl ?_))))
  refine ⟨_, rfl, ra11, rc12, by rw [Nat.zero_add], ?_, hb15⟩
  have z := hr13
  rw [Nat.zero_add, List.nil_append] at z
  exact z.to (fun b hb => hb)
/-- Numbers, as cells. -/
def nsC (l : List Nat) : List Value := l.map fun n => .int .i64 ((n : Nat) : Int)
theorem nsC_len (l : List Nat) : (nsC l).length = l.length * 1 := by simp [nsC]
theorem nsC_one (l : List Nat) : ∀ u ∈ nsC l, u.oneCell' = true := by
 intro u hu
 simp only [nsC, List.mem_map] at hu
 obtain ⟨x, _, rfl⟩ := hu
 rfl
theorem InRow.srcN {S : Nat → Prop} {w : World} {l : List Nat} {a : Option Addr} {c : Nat} (h : InRow eltN S w l a) : SrcIs w (.slice a l.length c) l.length (nsC l) := by
 cases l with
 | nil =>
  cases a with
  | none => exact .inr ⟨c, rfl, rfl, rfl⟩
  | some ad => exact .inl ⟨ad, c, rfl, fun j u hj => by simp [nsC] at hj⟩
 | cons x r =>
  obtain ⟨b, o, ha, _, hc⟩ := h.openNS
  obtain rfl := ha 0 (by simp)
  refine .inl ⟨_, _, rfl, fun j u hj => ?_⟩
  have hj' : j < (nsC (x :: r)).length := (List.getElem?_eq_some_iff.1 hj).1
  rw [nsC_len, Nat.mul_one] at hj'
  rw [add_plain2]
  have e := hc j hj'
  unfold nsC at hj
  rw [List.getElem?_map, List.getElem?_eq_getElem hj', Option.map_some] at hj
  rw [aget_lt hj'] at e
  rw [e, ← hj]
theorem InRow.noneN {S : Nat → Prop} {w : World} {l : List Nat} (h : InRow eltN S w l none) : l = [] := by
 cases l with
 | nil => rfl
 | cons x r => obtain ⟨b, o, cs, ha, _⟩ := h 0 (by simp); cases ha
theorem own_ns {w : World} {B : Nat} {l : List Nat} {ra : Option Addr} {rc : Nat} (h : Own w (fun b => B ≤ b) 3 1 ra rc l.length (nsC l)) : InRow eltN (fun b => B ≤ b) w l ra := by
 rcases h.1.2 with ⟨e, h0⟩ | ⟨g, cap, cur, e, _, hB, hc, hm, _, _⟩
 ·simp only [Value.slice.injEq] at e
  exact fun k hk => by omega
 ·have e1 := e
  simp only [Value.slice.injEq, true_and] at e
  obtain ⟨rfl, rfl⟩ := e
  refine fun k hk => ⟨g, 0, [.int .i64 ((l[k] : Nat) : Int)], rfl, h.2 g (by rw [e1]; rfl), rfl, fun j hj => ?_⟩
  have hj0 : j = 0 := by have z : j < 1 := hj; omega
  subst hj0
  have hcell := fun i u hi => h.1.cells (g := g) rfl i u hi
  simp only [add_plain2] at hcell
  have z := hcell k (.int .i64 ((l[k] : Nat) : Int)) (by unfold nsC; rw [List.getElem?_map, List.getElem?_eq_getElem hk, Option.map_some])
  show w.cell? ⟨g, 0 + k * 1 + 0, none⟩ = _
  rw [Nat.mul_one, Nat.add_zero]
  exact z
/-- A row of numbers in blocks from 'B' on. -/
structure NsAt (w : World) (B : Nat) (l : List Nat) (a : Option Addr) : Prop where
 row : InRow eltN (fun b => B ≤ b) w l a
theorem NsAt.below {w w' : World} {B : Nat} {l : List Nat} {a : Option Addr} (h : NsAt w B l a) (hb : Below w.heap.size w w') : NsAt w' B l a := ⟨h.row.below hb⟩
theorem NsAt.chg {w w' : World} {B : Nat} {l : List Nat} {a : Option Addr} {X : Nat → Prop} (h : NsAt w B l a) (hc : Chg X w w') (hX : ∀ b, B ≤ b → ¬ X b) : NsAt w' B l a := ⟨h.row.keep fun p v hp hv => by
 have hb := World.block_lt_of_cell? _ _ hv
 unfold World.cell? at hv ⊢
 rw [hc.block p.block hb (hX _ hp)]; exact hv⟩
theorem NsAt.upd {w w' : World} {B g : Nat} {l : List Nat} {a : Option Addr} (h : NsAt w B l a) (hu : Upd g w w') (hg : g < B) : NsAt w' B l a := h.chg (X := fun b => b = g) (.ofUpd hu rfl) (fun b q e => by have z : b = g := e; omega)
theorem NsAt.mono {w : World} {B B' : Nat} {l : List Nat} {a : Option Addr} (h : NsAt w B l a) (hb : B' ≤ B) : NsAt w B' l a := ⟨h.row.mono (by decide) (fun b q _ => Nat.le_trans hb q)⟩
set_option maxRecDepth 100000 in
theorem nclone_any (l : List Nat) (S : Nat → Prop) (w : World) (a : Option Addr) (c : Nat) (hz : l.length ≤ 4294967296) (hl : InRow eltN S w l a) : Calls Try.prog 36 #[.slice a l.length c] w (Ret fun v' w' => (∃ ra rc, v' = .slice ra l.length rc ∧ NsAt w' w.heap.size l ra) ∧ Below w.heap.size w w') := by
 refine Calls.walk (l := [.slice a l.length c]) Try.func36 rfl (by kernel_rfl) ?_
 refine WC.sub (K' := [(0, .slice a l.length c)]) ⟨rfl, trivial⟩ ?_
 refine WC.seq (WC.region (WL.asg rfl rfl rfl rfl rfl (WL.nil (WE.next (WC.seq (WC.seq (WC.region (WL.mv rfl rfl rfl rfl rfl ?_))))))))
 refine WL.val (.bool a.isNone) rfl rfl rfl (fun za zC zh zk => eqlnil_31 rfl (zh.ev rfl) (zh.ev rfl) zk) ?_
 refine WL.nil (WE.next ?_)
 refine WC.cond rfl (fun h1 => ?_) (fun h1 => ?_)
 ·skip
  refine WC.seq (WC.region (WL.asg rfl rfl rfl rfl rfl (WL.nil (WE.next (WC.ret (WE.thenRet (WE.ret1 rfl rfl ?_)))))))
  have e : l = [] := InRow.noneN (by have z := ‹a.isNone = true›; cases a with | none => exact hl | some x => cases z)
  subst e
  exact ⟨_, rfl, ⟨none, 0, rfl, ⟨InRow.nil⟩⟩, (Below.refl _ _)⟩
 ·skip
  refine WC.skip (WE.next (WC.seq (WC.region ?_)))
  refine WL.step (post := NewRow w 3 #[] 0) rfl rfl rfl (fun za zC zh zk => row_31_0 rfl  (zk _ _ (newRow _ _ _ _))) ?_
  rintro _ w2 ⟨g3, rfl, hg4, hB5, hb6, hz7⟩
  have hl8 : w.heap.size ≤ g3 := by omega
  have hr9 : Own w2 (fun b => w.heap.size ≤ b) 3 1 (some ⟨g3, 0, none⟩) 0 0 [] := own_empty hB5 (by (try dsimp only at *); omega)
  refine WL.mv rfl rfl rfl rfl rfl ?_
  refine WL.step (post := fun v w' => ∃ ra rc, v = .slice ra (0 + l.length) rc ∧ Own w' (fun b => w.heap.size ≤ b) 3 1 ra rc (0 + l.length) ([] ++ (nsC l)) ∧ Chg (fun b => w.heap.size ≤ b) w2 w') rfl rfl rfl (fun za zC zh zk => app_31 (S := (fun b => w.heap.size ≤ b)) (xs := []) (news := (nsC l)) rfl (zh.ev rfl) (zh.ev rfl) hr9 (InRow.srcN (InRow.below hl hb6)) (nsC_len _) (nsC_one _) (by omega) (by omega) (by have z1 := hb6.size; (try dsimp only at *); omega) (fun ra rc w' h1 h2 => zk _ _ ⟨ra, rc, rfl, h1, h2⟩)) ?_
  rintro _ w10 ⟨ra11, rc12, rfl, hr13, hc14⟩
  have hb15 := chg_below hb6 hc14 (fun b hb => (by (try dsimp only at *); omega))
  refine WL.asg rfl rfl rfl rfl rfl (WL.nil (WE.next (WC.ret (WE.ret1 rfl rfl ?_))))
  refine ⟨_, rfl, ⟨ra11, rc12, by rw [Nat.zero_add], ?_⟩, hb15⟩
  have z := hr13
  rw [Nat.zero_add, List.nil_append] at z
  exact ⟨own_ns z⟩
end Go.Proofs.Ytbohlpfndiiimaa

/- Put, Get: the program. -/
namespace Go.Proofs.Ytbohlpfndiiimaa
open Go.RowKit Go
set_option linter.unusedVariables false
set_option linter.unusedSimpArgs false
set_option maxRecDepth 100000 in
theorem bPut_any (g : Nat) (sg : List Sy) (t : T) (N : List En) (Y A : Nat → Prop) (w : World) (v : Value) (hsz : t.size ≤ 4294967296) (hNl : N.length ≤ 1000000) (hK : BkS w g sg Y N) (ht : InT A w t v) (hA : ∀ b, A b → ¬ Y b ∧ b < w.heap.size) :
  Calls Try.prog 9 #[.pointer (some ⟨g, 0, none⟩), v] w (Ret fun v' w' => v' = .tuple #[.int .i64 (bputV sg N t), .int .i64 (chkI sg t)] ∧ (∃ Y', BkS w' g sg Y' (bputI sg N t) ∧ ∀ b, Y' b → Y b ∨ w.heap.size ≤ b) ∧ Chg Y w w') := by
 obtain ⟨hf, a, c, rfl, hlc, hcm, hts⟩ := ht.form
 obtain ⟨Z, sa, sc, hBk, hO, hwf, hZY, hYl, hNE⟩ := hK
 obtain ⟨_, hs1, hs2, hs3⟩ := sys_of_own hO.1 hwf
 have hsig : IsSig w sg (.agg #[.slice sa sg.length sc]) := ⟨sa, sc, rfl, hs1, hs2, hs3⟩
 have hB0 := hBk
 obtain ⟨S9, m, la, lc, L, R, hb, hw, hz, hl⟩ := hB0
 have hn := hw.len
 refine Calls.walk (l := [.pointer (some ⟨g, 0, none⟩), .agg #[.int .i64 t.f, .slice a t.args.length c]]) Try.func9 rfl (by kernel_rfl) ?_
 refine WC.sub (K' := [(0, .pointer (some ⟨g, 0, none⟩)), (1, .agg #[.int .i64 t.f, .slice a t.args.length c])]) ⟨rfl, rfl, trivial⟩ ?_
 refine WC.seq (WC.region ?_)
 refine WL.step (post := NewBlk w 35 #[.int .i64 t.f, .slice a t.args.length c]) rfl rfl rfl (fun za zC zh zk => box_35 rfl (zh.ev rfl) (zk _ _ (newBlk _ _ _))) ?_
 rintro _ w1 ⟨g2, rfl, hg3, hB4, hb5, hz6⟩
 have hl7 : w.heap.size ≤ g2 := by omega
 refine WL.asg rfl rfl rfl rfl rfl (WL.asg rfl rfl rfl rfl rfl (WL.nil (WE.next (WC.seq (WC.block (WC.seq (WC.region (WL.mv rfl rfl rfl rfl rfl ?_))))))))
 refine WL.call rfl rfl rfl (fun za zh zC => wp_call (by kernel_rfl) rfl (hv1 (zh.ev rfl))) (bok_any g _ Z N _ (BkIs.below hBk hb5)) ?_
 rintro _ w9 ⟨rfl, hq8⟩
 refine WL.val (.bool false) rfl rfl rfl (fun za zC zh zk => wp_not rfl (zh.ev rfl) zk) ?_
 refine WL.asg rfl rfl rfl rfl rfl (WL.nil (WE.next ?_))
 refine WC.condF rfl rfl ?_
 refine WC.seq ?_
 have hb11 : Below w.heap.size w w9 := (bstep hb5 hq8)
 have hc10 := bkeeps hb11 _ _ hb.c0
 have hB12 := hB4.below hq8
 refine WC.opt [(true, .val (.pointer (some ⟨g, 0, none⟩))), (true, .val (.pointer (some ⟨g, 0, none⟩))), (true, .val (.pointer (some ⟨g, 0, none⟩))), (true, .val (.agg #[.slice sa sg.length sc])), (true, .val (.agg #[.int .i64 t.f, .slice a t.args.length c])), (true, .val (.int .i64 ((chkI sg t)))), (true, .val (.bool ((((chkI sg t) : Int) != (0 : Int))))), (true, .val (.bool ((((chkI sg t) : Int) != (0 : Int)))))] [(0, .pointer (some ⟨g, 0, none⟩)), (1, .agg #[.int .i64 t.f, .slice a t.args.length c]), (3, .pointer (some ⟨g2, 0, none⟩)), (4, .int .i64 0), (5, .int .i64 0), (6, .bool false)] ⟨rfl, rfl, rfl, rfl, rfl, rfl, trivial⟩ (by kernel_rfl) (by kernel_rfl) (by kernel_rfl) ?_ ?_
 ·refine ⟨⟨true, .none rfl, fun h w => optUndef h, fun zβ za zw zc => ?_⟩, ?_⟩
  ·exact wp_move rfl (zc.kn.ev rfl) ⟨_, rfl, Below.refl _ _, optDef zβ rfl⟩
  refine ⟨⟨true, .none rfl, fun h w => optUndef h, fun zβ za zw zc => ?_⟩, ?_⟩
  ·exact nilCheck_ rfl ((evt za 11).trans (optVal (zc.dep 0 11 (by kernel_rfl)) rfl rfl)) ⟨_, rfl, Below.refl _ _, optDef zβ rfl⟩
  refine ⟨⟨true, .none rfl, fun h w => optUndef h, fun zβ za zw zc => ?_⟩, ?_⟩
  ·exact fld_70_0 rfl ((evt za 12).trans (optVal (zc.dep 1 12 (by kernel_rfl)) rfl rfl)) ⟨_, rfl, Below.refl _ _, optDef zβ rfl⟩
  refine ⟨⟨true, .none rfl, fun h w => optUndef h, fun zβ za zw zc => ?_⟩, ?_⟩
  ·exact ld_24 rfl ((evt za 13).trans (optVal (zc.dep 2 13 (by kernel_rfl)) rfl rfl)) (bkeeps zc.below _ _ hc10) ⟨_, rfl, Below.refl _ _, optDef zβ rfl⟩
  refine ⟨⟨true, .none rfl, fun h w => optUndef h, fun zβ za zw zc => ?_⟩, ?_⟩
  ·exact ld_35 rfl (zc.kn.ev rfl) (bkeeps zc.below _ _ ((hB12.cell 0).trans rfl)) (bkeeps zc.below _ _ ((hB12.cell 1).trans rfl)) ⟨_, rfl, Below.refl _ _, optDef zβ rfl⟩
  refine ⟨⟨true, .none rfl, fun h w => optUndef h, fun zβ za zw zc => ?_⟩, ?_⟩
  ·exact wp_call (by kernel_rfl) rfl (hv2 ((evt za 14).trans (optVal (zc.dep 3 14 (by kernel_rfl)) rfl rfl)) ((evt za 15).trans (optVal (zc.dep 4 15 (by kernel_rfl)) rfl rfl))) (tmchk_any sg t _ _ _ hsz (IsSig.below (bstep hb11 zc.below) hsig) (IsT.below (bstep hb11 zc.below) (InT.isT ht))) (fun v w' h => ⟨v, rfl, h.2, optDef zβ h.1⟩)
  refine ⟨⟨true, .none rfl, fun h w => optUndef h, fun zβ za zw zc => ?_⟩, ?_⟩
  ·exact neq_27 rfl ((evt za 16).trans (optVal (zc.dep 5 16 (by kernel_rfl)) rfl rfl)) (zc.kn.ev rfl) ⟨_, rfl, Below.refl _ _, optDef zβ rfl⟩
  refine ⟨⟨true, .none rfl, fun h w => optUndef h, fun zβ za zw zc => ?_⟩, ?_⟩
  ·exact wp_assign rfl ((evt za 17).trans (optVal (zc.dep 6 17 (by kernel_rfl)) rfl rfl)) ⟨_, rfl, Below.refl _ _, optDef zβ rfl⟩
  exact trivial
 ·intro za w13 zh hb14 zu
  have zh := zh.cons (d := 10) (v := .bool ((((chkI sg t) : Int) != (0 : Int)))) (optVal (zu 7 10 (by kernel_rfl)) rfl rfl)
  clear zu
  refine WE.go zh ?_
  refine WE.next ?_
  refine WC.cond rfl (fun h15 => ?_) (fun h15 => ?_)
  ·have h15 : ((chkI sg t) : Int) ≠ (0 : Int) := by simpa using h15
   have hck : ¬ chkI sg t = 0 := by simpa using h15
   refine WC.seq (WC.region (WL.asg rfl rfl rfl rfl rfl (WL.asg rfl rfl rfl rfl rfl (WL.nil (WE.next (WC.ret (WE.blockRet (WE.thenRet (WE.ret2 rfl rfl rfl ?_)))))))))
   have hb16 : Below w.heap.size w w13 := (bstep hb11 hb14)
   refine ⟨_, rfl, by unfold bputV chkI at *; rw [if_neg hck]; (split at hck; exact absurd rfl hck; rename_i q; rw [if_neg q]), ⟨Y, by unfold bputI; rw [if_neg hck]; exact BkS.below ⟨Z, sa, sc, hBk, hO, hwf, hZY, hYl, hNE⟩ hb16, fun b q => .inl q⟩, .ofBelow hb16⟩
  ·have h15 : ¬ (((chkI sg t) : Int) ≠ (0 : Int)) := by simpa using h15
   have hck : chkI sg t = 0 := by simpa using h15
   have hck2 := (chkI_iff sg t).1 hck
   have hle := chkB_le hck2
   refine WC.skip (WE.blockNormal (WE.next (WC.seq (WC.region (WL.mv rfl rfl rfl rfl rfl ?_)))))
   have hB17 := hB12.below hb14
   refine WL.val _ rfl rfl rfl (fun za zC zh zk => ld_35 rfl (zh.ev rfl) ((hB17.cell 0).trans rfl) ((hB17.cell 1).trans rfl) zk) ?_
   have hb18 : Below w.heap.size w w13 := (bstep hb11 hb14)
   have hbW := (hb18).size
   refine WL.call rfl rfl rfl (fun za zh zC => wp_call (by kernel_rfl) rfl (hv2 (zh.ev rfl) (zh.ev rfl))) (bputw_any g _ t N Z A _ _ hsz (by omega) (BkIs.below hBk hb18) (InT.below hb18 ht) (fun b q => ⟨fun k => (hA b q).1 (hZY b k), by have z := (hA b q).2; omega⟩)) ?_
   rintro _ w23 ⟨rfl, ⟨Z19, hK20, hZ21⟩, hc22⟩
   have hC24 := Chg.trans (.ofBelow hb18) hc22
   have hO25 := (Own.below hO hb18).chg hc22 (fun b q => q.1)
   refine WL.asg rfl rfl rfl rfl rfl (WL.asg rfl rfl rfl rfl rfl (WL.nil (WE.next (WC.ret (WE.ret2 rfl rfl rfl ?_)))))
   refine ⟨_, rfl, by unfold bputV; rw [if_pos hck, hck], ⟨fun b => (Z19 b ∨ Y b) ∧ b < w23.heap.size, ?_, fun b q => ?_⟩, hC24.mono hZY⟩
   ·unfold bputI; rw [if_pos hck]
    have hK9 := BkIs.below hK20 (Below.refl _ _)
    refine ⟨Z19, sa, sc, hK9, (Own.below hO25 (Below.refl _ _)).mono (fun b q hlt => ⟨fun k => ?_, .inr q.2, hlt⟩), hwf, fun b q => ⟨.inl q, hK9.lt b q⟩, fun b q => q.2, hNE.put hle (IsT.sy (InT.isT ht))⟩
    rcases hZ21 b k with z | z
    ·exact q.1 z
    ·have z3 := hYl b q.2; omega
   ·rcases q.1 with k | k
    ·rcases hZ21 b k with z | z
     ·exact .inl (hZY b z)
     ·right; omega
    ·exact .inl k
set_option maxRecDepth 100000 in
theorem bGet_any (g : Nat) (sg : List Sy) (N : List En) (Y : Nat → Prop) (w : World) (k : Nat) (hNl : N.length ≤ 1000000) (hk : k < N.length) (hK : BkS w g sg Y N) :
  Calls Try.prog 11 #[.pointer (some ⟨g, 0, none⟩), .int .i64 (k : Int)] w (Ret fun v' w' => (∃ v, NewT w w' (tmE N k) v ∧ v' = .tuple #[v, .int .i64 0]) ∧ Below w.heap.size w w') := by
 obtain ⟨Z, sa, sc, hBk⟩ := hK.is
 have hNE := hK.ok
 have hsk := (hNE.at_ hk).1
 have hok := hNE.ok
 have h := hBk
 obtain ⟨S9, m, la, lc, L, R, hb, hw, hz, hl⟩ := h
 have hn := hw.len
 refine Calls.walk (l := [.pointer (some ⟨g, 0, none⟩), .int .i64 (((k : Nat) : Int))]) Try.func11 rfl (by kernel_rfl) ?_
 refine WC.sub (K' := [(0, .pointer (some ⟨g, 0, none⟩)), (1, .int .i64 (((k : Nat) : Int)))]) ⟨rfl, rfl, trivial⟩ ?_
 refine WC.seq (WC.region ?_)
 refine WL.step (post := NewBlk w 35 #[.int .i64 0, .slice none 0 0]) rfl rfl rfl (fun za zC zh zk => alloc_35 rfl (zk _ _ (newBlk _ _ _))) ?_
 rintro _ w1 ⟨g2, rfl, hg3, hB4, hb5, hz6⟩
 have hl7 : w.heap.size ≤ g2 := by omega
 refine WL.asg rfl rfl rfl rfl rfl (WL.nil (WE.next (WC.seq (WC.block (WC.seq (WC.region (WL.mv rfl rfl rfl rfl rfl ?_)))))))
 refine WL.call rfl rfl rfl (fun za zh zC => wp_call (by kernel_rfl) rfl (hv1 (zh.ev rfl))) (bok_any g _ Z N _ (BkIs.below hBk hb5)) ?_
 rintro _ w9 ⟨rfl, hq8⟩
 refine WL.val (.bool false) rfl rfl rfl (fun za zC zh zk => wp_not rfl (zh.ev rfl) zk) ?_
 refine WL.asg rfl rfl rfl rfl rfl (WL.nil (WE.next ?_))
 refine WC.condF rfl rfl ?_
 refine WC.seq (WC.region (WL.mv rfl rfl rfl rfl rfl (WL.mv rfl rfl rfl rfl rfl ?_)))
 have hb10 : Below w.heap.size w w9 := (bstep hb5 hq8)
 refine WL.call rfl rfl rfl (fun za zh zC => wp_call (by kernel_rfl) rfl (hv2 (zh.ev rfl) (zh.ev rfl))) (bhas_any g _ Z N _ k (BkIs.below hBk hb10) hk) ?_
 rintro _ w12 ⟨rfl, hq11⟩
 refine WL.val (.bool false) rfl rfl rfl (fun za zC zh zk => wp_not rfl (zh.ev rfl) zk) ?_
 refine WL.asg rfl rfl rfl rfl rfl (WL.nil (WE.next ?_))
 refine WC.condF rfl rfl ?_
 refine WC.skip (WE.blockNormal (WE.next (WC.seq (WC.region (WL.mv rfl rfl rfl rfl rfl (WL.mv rfl rfl rfl rfl rfl ?_))))))
 have hb13 : Below w.heap.size w w12 := (bstep hb10 hq11)
 have hb18 : Below w1.heap.size w1 w12 := (bstep hq8 hq11)
 have hl17 : g2 < w12.heap.size := by have z1 := hB4.lt; have z2 := (hb18).size; omega
 have hl19 : w.heap.size ≤ w12.heap.size := (hb13).size
 refine WL.call rfl rfl rfl (fun za zh zC => wp_call (by kernel_rfl) rfl (hv2 (zh.ev rfl) (zh.ev rfl))) (bget_any g _ Z N (by omega) hNE.fn k _ hk (by omega) (BkIs.below hBk hb13)) ?_
 rintro v14 w20 ⟨hn15, hb16⟩
 obtain ⟨_, a21, c22, rfl, _, _, _⟩ := hn15.form
 have hb24 : Below w1.heap.size w1 w20 := (bstep hb18 hb16)
 have hB23 := hB4.below hb24
 refine WL.step (post := fun _ w' => Upd g2 w20 w' ∧ Blk w' g2 35 #[.int .i64 (((tmE N k)).f), .slice a21 (((tmE N k)).args.length) c22]) rfl rfl rfl (fun za zC zh zk => st_35 rfl (zh.ev rfl) (zh.ev rfl) rfl rfl hB23 (by first | decide | simp) (fun v => zk v _ ⟨(Upd.at_ _ _ _ _).trans (Upd.at_ _ _ _ _), (hB23.set_ 0 _).set_ 1 _⟩)) ?_
 rintro v28 w25 ⟨hu26, hB27⟩
 have hb29 : Below w.heap.size w w20 := (bstep hb5 hb24)
 have hb30 := upd_below hb29 hu26 (by omega)
 have ho31 := hn15.upd hu26 (by omega)
 refine WL.asg rfl rfl rfl rfl rfl (WL.nil (WE.next (WC.ret ?_)))
 refine WE.retAny (v := .tuple #[.agg #[.int .i64 (((tmE N k)).f), .slice a21 (((tmE N k)).args.length) c22], .int .i64 0]) (fun za zh => ?_) ?_
 ·have z0 : za.tmps[4]?.getD undef = .pointer (some ⟨g2, 0, none⟩) := by rw [← Array.getD_eq_getD_getElem?]; exact zh.knows 4 _ rfl
  have y0_0 : w25.cell? ⟨g2, 0, none⟩ = some (.int .i64 (((tmE N k)).f)) := ((hB27.cell 0).trans rfl)
  have y0_1 : w25.cell? ⟨g2, 1, none⟩ = some (.slice a21 (((tmE N k)).args.length) c22) := ((hB27.cell 1).trans rfl)
  have z1 : za.tmps[5]?.getD undef = .int .i64 0 := by rw [← Array.getD_eq_getD_getElem?]; exact zh.knows 5 _ rfl
  simp [results, Try.results11, z0, y0_0, y0_1, z1, go_sem]
 ·exact ⟨_, rfl, ⟨_, InT.mono (fun b hb _ => Nat.le_trans hb13.size hb) ho31, rfl⟩, hb30⟩
set_option maxRecDepth 100000 in
theorem bArgs_any (g : Nat) (sg : List Sy) (N : List En) (Y : Nat → Prop) (w : World) (k : Nat) (hNl : N.length ≤ 1000000) (hk : k < N.length) (hK : BkS w g sg Y N) :
  Calls Try.prog 13 #[.pointer (some ⟨g, 0, none⟩), .int .i64 (k : Int)] w (Ret fun v' w' => (∃ ra rc, v' = .slice ra (eget N k).args.length rc ∧ NsAt w' w.heap.size (eget N k).args ra) ∧ Below w.heap.size w w') := by
 obtain ⟨Z, sa, sc, hBk⟩ := hK.is
 have hNE := hK.ok
 have hsk := (hNE.at_ hk).1
 have hok := hNE.ok
 have h := hBk
 obtain ⟨S9, m, la, lc, L, R, hb, hw, hz, hl⟩ := h
 have hn := hw.len
 have hen := hw.at_ (i := k) (by omega)
 obtain ⟨b9, A9, C9, rfl, ho9, hc9⟩ := hb.opn (by omega)
 have hc9k := hc9 k (by omega)
 rw [hen] at hc9k
 have hal : (eget N k).args.length ≤ 300 := by
  have z := hsk
  rw [tmE_eq hok hk, T.size] at z
  have z2 := len_le_sizeL ((eget N k).args.map (tmE N))
  rw [List.length_map] at z2; omega
 have hul : (usersE N k).length ≤ 1000000 := by
  have z := List.length_filter_le (fun j => decide (k ∈ (eget N j).args)) (List.range N.length)
  rw [List.length_range] at z
  unfold usersE; omega
 have hue := hw.us k (by omega)
 have hur := hb.us k (by omega)
 have hun : (xget L k).un = (usersE N k).length := by have z := hur.rowE.len; rw [hue] at z; exact z
 rw [hue] at hur
 have hui := (RowD.inRow hur).1
 refine Calls.walk (l := [.pointer (some ⟨g, 0, none⟩), .int .i64 (((k : Nat) : Int))]) Try.func13 rfl (by kernel_rfl) ?_
 refine WC.sub (K' := [(0, .pointer (some ⟨g, 0, none⟩)), (1, .int .i64 (((k : Nat) : Int)))]) ⟨rfl, rfl, trivial⟩ ?_
 refine WC.seq (WC.region (WL.asg rfl rfl rfl rfl rfl (WL.nil (WE.next (WC.seq (WC.seq (WC.region (WL.mv rfl rfl rfl rfl rfl (WL.mv rfl rfl rfl rfl rfl ?_)))))))))
 refine WL.call rfl rfl rfl (fun za zh zC => wp_call (by kernel_rfl) rfl (hv2 (zh.ev rfl) (zh.ev rfl))) (bhas_any g _ Z N _ k (BkIs.below hBk (Below.refl _ _)) hk) ?_
 rintro _ w2 ⟨rfl, hq1⟩
 refine WL.val (.bool false) rfl rfl rfl (fun za zC zh zk => wp_not rfl (zh.ev rfl) zk) ?_
 refine WL.nil (WE.next ?_)
 refine WC.condF rfl rfl ?_
 refine WC.skip (WE.next (WC.seq (WC.region (WL.mv rfl rfl rfl rfl rfl ?_))))
 refine WL.val _ rfl rfl rfl (fun za zC zh zk => nilCheck_ rfl (zh.ev rfl) zk) ?_
 refine WL.val _ rfl rfl rfl (fun za zC zh zk => fld_70_1 rfl (zh.ev rfl) zk) ?_
 have hc3 := bkeeps hq1 _ _ hb.c1
 refine WL.val _ rfl rfl rfl (fun za zC zh zk => ld_68 rfl (zh.ev rfl) hc3 zk) ?_
 refine WL.mv rfl rfl rfl rfl rfl ?_
 refine WL.val _ rfl rfl rfl (fun za zC zh zk => ix_68 (k := k) rfl (zh.ev rfl) rfl (zh.ev rfl) (by first | omega | (simp; omega)) zk) ?_
 refine WL.val _ rfl rfl rfl (fun za zC zh zk => fld_83_2 rfl (zh.ev rfl) zk) ?_
 have hc4 := bkeeps hq1 _ _ hc9k.2.2.2.1
 refine WL.val _ rfl rfl rfl (fun za zC zh zk => ld_31 rfl (zh.ev rfl) hc4 zk) ?_
 refine WL.call rfl rfl rfl (fun za zh zC => wp_call (by kernel_rfl) rfl (hv1 (zh.ev rfl))) (nclone_any (eget N k).args _ _ _ _ (by omega) (InRow.below hc9k.2.2.2.2.2 hq1)) ?_
 rintro _ w9 ⟨⟨ra5, rc6, rfl, hr7⟩, hb8⟩
 refine WL.asg rfl rfl rfl rfl rfl (WL.nil (WE.next (WC.ret (WE.ret1 rfl rfl ?_))))
 have hb10 : Below w.heap.size w w9 := (bstep hq1 hb8)
 exact ⟨_, rfl, ⟨_, _, rfl, NsAt.mono hr7 hq1.size⟩, hb10⟩
set_option maxRecDepth 100000 in
theorem bUsers_any (g : Nat) (sg : List Sy) (N : List En) (Y : Nat → Prop) (w : World) (k : Nat) (hNl : N.length ≤ 1000000) (hk : k < N.length) (hK : BkS w g sg Y N) :
  Calls Try.prog 37 #[.pointer (some ⟨g, 0, none⟩), .int .i64 (k : Int)] w (Ret fun v' w' => (∃ gl ra rc, v' = .func (.func 57) #[] #[.pointer (some ⟨gl, 0, none⟩)] ∧ Blk w' gl 31 #[.slice ra (usersE N k).length rc] ∧ NsAt w' w.heap.size (usersE N k) ra ∧ w.heap.size ≤ gl) ∧ Below w.heap.size w w') := by
 obtain ⟨Z, sa, sc, hBk⟩ := hK.is
 have hNE := hK.ok
 have hsk := (hNE.at_ hk).1
 have hok := hNE.ok
 have h := hBk
 obtain ⟨S9, m, la, lc, L, R, hb, hw, hz, hl⟩ := h
 have hn := hw.len
 have hen := hw.at_ (i := k) (by omega)
 obtain ⟨b9, A9, C9, rfl, ho9, hc9⟩ := hb.opn (by omega)
 have hc9k := hc9 k (by omega)
 rw [hen] at hc9k
 have hal : (eget N k).args.length ≤ 300 := by
  have z := hsk
  rw [tmE_eq hok hk, T.size] at z
  have z2 := len_le_sizeL ((eget N k).args.map (tmE N))
  rw [List.length_map] at z2; omega
 have hul : (usersE N k).length ≤ 1000000 := by
  have z := List.length_filter_le (fun j => decide (k ∈ (eget N j).args)) (List.range N.length)
  rw [List.length_range] at z
  unfold usersE; omega
 have hue := hw.us k (by omega)
 have hur := hb.us k (by omega)
 have hun : (xget L k).un = (usersE N k).length := by have z := hur.rowE.len; rw [hue] at z; exact z
 rw [hue] at hur
 have hui := (RowD.inRow hur).1
 refine Calls.walk (l := [.pointer (some ⟨g, 0, none⟩), .int .i64 (((k : Nat) : Int))]) Try.func37 rfl (by kernel_rfl) ?_
 refine WC.sub (K' := [(0, .pointer (some ⟨g, 0, none⟩)), (1, .int .i64 (((k : Nat) : Int)))]) ⟨rfl, rfl, trivial⟩ ?_
 refine WC.seq (WC.region (WL.asg rfl rfl rfl rfl rfl (WL.nil (WE.next (WC.seq (WC.region ?_))))))
 refine WL.step (post := NewBlk w 31 #[.slice none 0 0]) rfl rfl rfl (fun za zC zh zk => alloc_31 rfl (zk _ _ (newBlk _ _ _))) ?_
 rintro _ w1 ⟨g2, rfl, hg3, hB4, hb5, hz6⟩
 have hl7 : w.heap.size ≤ g2 := by omega
 refine WL.nil (WE.next (WC.seq (WC.seq (WC.region (WL.mv rfl rfl rfl rfl rfl (WL.mv rfl rfl rfl rfl rfl ?_))))))
 refine WL.call rfl rfl rfl (fun za zh zC => wp_call (by kernel_rfl) rfl (hv2 (zh.ev rfl) (zh.ev rfl))) (bhas_any g _ Z N _ k (BkIs.below hBk hb5) hk) ?_
 rintro _ w9 ⟨rfl, hq8⟩
 refine WL.nil (WE.next ?_)
 refine WC.condT rfl rfl ?_
 refine WC.region (WL.mv rfl rfl rfl rfl rfl ?_)
 refine WL.val _ rfl rfl rfl (fun za zC zh zk => nilCheck_ rfl (zh.ev rfl) zk) ?_
 refine WL.val _ rfl rfl rfl (fun za zC zh zk => fld_70_1 rfl (zh.ev rfl) zk) ?_
 have hb11 : Below w.heap.size w w9 := (bstep hb5 hq8)
 have hc10 := bkeeps hb11 _ _ hb.c1
 refine WL.val _ rfl rfl rfl (fun za zC zh zk => ld_68 rfl (zh.ev rfl) hc10 zk) ?_
 refine WL.mv rfl rfl rfl rfl rfl ?_
 refine WL.val _ rfl rfl rfl (fun za zC zh zk => ix_68 (k := k) rfl (zh.ev rfl) rfl (zh.ev rfl) (by first | omega | (simp; omega)) zk) ?_
 refine WL.val _ rfl rfl rfl (fun za zC zh zk => fld_83_3 rfl (zh.ev rfl) zk) ?_
 have hc12 := bkeeps hb11 _ _ (by have z := hc9k.2.2.2.2.1; rw [hun] at z; exact z)
 refine WL.val _ rfl rfl rfl (fun za zC zh zk => ld_31 rfl (zh.ev rfl) hc12 zk) ?_
 have hwc := hq8.size
 refine WL.call rfl rfl rfl (fun za zh zC => wp_call (by kernel_rfl) rfl (hv1 (zh.ev rfl))) (nclone_any (usersE N k) _ _ _ _ (by omega) (InRow.below hui hb11)) ?_
 rintro _ w17 ⟨⟨ra13, rc14, rfl, hr15⟩, hb16⟩
 have hb19 : Below w1.heap.size w1 w17 := (bstep hq8 hb16)
 have hB18 := hB4.below hb19
 refine WL.step (post := fun _ w' => Upd g2 w17 w' ∧ Blk w' g2 31 #[.slice ra13 ((usersE N k).length) rc14]) rfl rfl rfl (fun za zC zh zk => st_31 rfl (zh.ev rfl) (zh.ev rfl) hB18 (by first | decide | simp) (fun v => zk v _ ⟨Upd.at_ _ _ _ _, hB18.set_ 0 _⟩)) ?_
 rintro v23 w20 ⟨hu21, hB22⟩
 have hb24 : Below w.heap.size w w17 := (bstep hb5 hb19)
 have hb25 := upd_below hb24 hu21 (by omega)
 have ho26 := hr15.upd hu21 (by omega)
 refine WL.nil (WE.next (WC.seq (WC.region ?_)))
 refine WL.val (.func (Fn.func 57) #[] #[.pointer (some ⟨g2, 0, none⟩)]) rfl rfl rfl (fun za zC zh zk => mkfn rfl (hv0) (hv1 (zh.ev rfl)) zk) ?_
 refine WL.asg rfl rfl rfl rfl rfl (WL.nil (WE.next (WC.ret (WE.ret1 rfl rfl ?_))))
 exact ⟨_, rfl, ⟨g2, _, _, rfl, hB22, NsAt.mono ho26 hb11.size, by omega⟩, hb25⟩
end Go.Proofs.Ytbohlpfndiiimaa

/- A bank is made: the program. -/
namespace Go.Proofs.Ytbohlpfndiiimaa
open Go.RowKit Go
set_option linter.unusedVariables false
set_option linter.unusedSimpArgs false
/-- A new bank. -/
theorem BkS.new {w : World} {g m B : Nat} {sg : List Sy} {sa : Option Addr} {sc : Nat} (hB : Blk w g 70 #[.slice sa sg.length sc, .slice none 0 0, .map (some m)]) (hM : MapK w m []) (hO : Own w (fun b => B ≤ b ∧ b ≠ g ∧ b ≠ m) 66 3 sa sc sg.length (syCells sg)) (hwf : ∀ x ∈ sg, I64 x.ar ∧ x.name.size ≤ maxLen) (hg : B ≤ g) (hm : B ≤ m) (hgm : g ≠ m) :
  BkS w g sg (fun b => B ≤ b ∧ b < w.heap.size) [] := by
 have hK : BK w g (.slice sa sg.length sc) (fun _ => False) m (none, 0, 0) none 0 [] [] (fun _ => (none, 0, 0)) (usersE []) :=
  ⟨hB, hM, RowD.nil, fun i hi => absurd hi (Nat.not_lt_zero _), (fun b q => nomatch q), fun b q => q.elim, fun i hi => absurd hi (Nat.not_lt_zero _), fun i j hi => absurd hi (Nat.not_lt_zero _)⟩
 have hW : BW [] [] (fun _ => (none, 0, 0)) := ⟨rfl, .nil, fun i hi => absurd hi (Nat.not_lt_zero _), fun i hi => absurd hi (Nat.not_lt_zero _), fun i _ => rfl⟩
 refine ⟨fun b => b = g ∨ b = m, sa, sc, ⟨_, m, none, 0, [], _, hK, hW, fun b q => ?_, fun b q => ?_⟩, hO.mono (fun b q hlt => ⟨fun k => by rcases k with k | k; exact q.2.1 k; exact q.2.2 k, q.1, hlt⟩), hwf, fun b q => ?_, fun b q => q.2, .nil⟩
 ·rcases q with q | q | q | q | ⟨i, hi, q⟩
  ·exact .inl q
  ·exact .inr q
  ·exact q.elim
  ·cases q
  ·exact absurd hi (Nat.not_lt_zero _)
 ·rcases q with rfl | rfl
  ·exact hB.lt
  ·exact hM.lt
 ·rcases q with rfl | rfl
  ·exact ⟨hg, hB.lt⟩
  ·exact ⟨hm, hM.lt⟩
set_option maxRecDepth 100000 in
theorem bNew_any (sg : List Sy) (w : World) (v : Value) (hz : sg.length ≤ 4294967296) (hs : IsSig w sg v) : Calls Try.prog 7 #[v] w (Ret fun v' w' => ((sigCheck sg ≠ 0 ∧ v' = .tuple #[.pointer none, .int .i64 2]) ∨ (sigCheck sg = 0 ∧ ∃ g : Nat, v' = .tuple #[.pointer (some ⟨g, 0, none⟩), .int .i64 0] ∧ w.heap.size ≤ g ∧ BkS w' g sg (fun b => w.heap.size ≤ b ∧ b < w'.heap.size) [])) ∧ Below w.heap.size w w') := by
 have hst := hs
 obtain ⟨a, c, rfl, hc, hm, hl⟩ := hs
 unfold maxLen at hm
 refine Calls.walk (l := [.agg #[.slice a sg.length c]]) Try.func7 rfl (by kernel_rfl) ?_
 refine WC.sub (K' := [(0, .agg #[.slice a sg.length c])]) ⟨rfl, trivial⟩ ?_
 refine WC.seq (WC.region ?_)
 refine WL.step (post := NewBlk w 24 #[.slice a sg.length c]) rfl rfl rfl (fun za zC zh zk => box_24 rfl (zh.ev rfl) (zk _ _ (newBlk _ _ _))) ?_
 rintro _ w1 ⟨g2, rfl, hg3, hB4, hb5, hz6⟩
 have hl7 : w.heap.size ≤ g2 := by omega
 refine WL.asg rfl rfl rfl rfl rfl (WL.asg rfl rfl rfl rfl rfl (WL.nil (WE.next (WC.seq (WC.seq (WC.region ?_))))))
 refine WL.val _ rfl rfl rfl (fun za zC zh zk => ld_24 rfl (zh.ev rfl) ((hB4.cell 0).trans rfl) zk) ?_
 refine WL.call rfl rfl rfl (fun za zh zC => wp_call (by kernel_rfl) rfl (hv1 (zh.ev rfl))) (pcheck_any sg _ _ (IsSig.below hb5 hst)) ?_
 rintro _ w9 ⟨rfl, hq8⟩
 refine WL.val (.bool ((((sigCheck sg) : Int) != (0 : Int)))) rfl rfl rfl (fun za zC zh zk => neq_27 rfl (zh.ev rfl) (zh.ev rfl) zk) ?_
 refine WL.nil (WE.next ?_)
 refine WC.cond rfl (fun h10 => ?_) (fun h10 => ?_)
 ·have h10 : ((sigCheck sg) : Int) ≠ (0 : Int) := by simpa using h10
  refine WC.seq (WC.region (WL.asg rfl rfl rfl rfl rfl (WL.asg rfl rfl rfl rfl rfl (WL.nil (WE.next (WC.ret (WE.thenRet (WE.ret2 rfl rfl rfl ?_))))))))
  have hb11 : Below w.heap.size w w9 := (bstep hb5 hq8)
  exact ⟨_, rfl, .inl ⟨by assumption, rfl⟩, hb11⟩
 ·have h10 : ¬ (((sigCheck sg) : Int) ≠ (0 : Int)) := by simpa using h10
  refine WC.skip (WE.next (WC.seq (WC.region ?_)))
  refine WL.val _ rfl rfl rfl (fun za zC zh zk => fld_24_0 rfl (zh.ev rfl) zk) ?_
  have hB12 := hB4.below hq8
  refine WL.val _ rfl rfl rfl (fun za zC zh zk => ld_22 rfl (zh.ev rfl) ((hB12.cell 0).trans rfl) zk) ?_
  have hb17 : Below w.heap.size w w9 := (bstep hb5 hq8)
  refine WL.call rfl rfl rfl (fun za zh zC => wp_call (by kernel_rfl) rfl (hv1 (zh.ev rfl))) (clone_any sg _ _ _ hc hm hz (IsSys.below hb17 hl)) ?_
  rintro _ w18 ⟨ra15, rc16, rfl, hcl13, hb14⟩
  refine WL.val (.agg #[.slice ra15 sg.length rc16]) rfl rfl rfl (fun za zC zh zk => build_24_0 rfl (zh.ev rfl) zk) ?_
  refine WL.step (post := fun v w' => ∃ m, v = .map (some m) ∧ MapK w' m [] ∧ w18.heap.size = m ∧ Below w18.heap.size w18 w' ∧ w'.heap.size = m + 1) rfl rfl rfl (fun za zC zh zk => wp_makeMap_key rfl (fun m w' h1 h2 h3 h4 => zk _ _ ⟨m, rfl, h1, h2, h3, h4⟩)) ?_
  rintro _ w19 ⟨m20, rfl, hM21, hg22, hb23, hz24⟩
  have hl25 : g2 < m20 := by have z1 := hB12.lt; have z2 := (hb14).size; omega
  have hb26 : Below w.heap.size w w18 := (bstep hb17 hb14)
  have hl27 : w.heap.size ≤ m20 := by have z2 := (hb26).size; omega
  refine WL.val (.agg #[.slice ra15 sg.length rc16, .slice none 0 0, .map ((some m20))]) rfl rfl rfl (fun za zC zh zk => build_70_0_2 rfl (zh.ev rfl) (zh.ev rfl) zk) ?_
  refine WL.step (post := NewBlk w19 70 #[.slice ra15 sg.length rc16, .slice none 0 0, .map ((some m20))]) rfl rfl rfl (fun za zC zh zk => box_70 rfl (zh.ev rfl) (zk _ _ (newBlk _ _ _))) ?_
  rintro _ w28 ⟨g29, rfl, hg30, hB31, hb32, hz33⟩
  have hb34 : Below w9.heap.size w9 w19 := (bstep hb14 hb23)
  have hl35 : g2 < g29 := by have z1 := hB12.lt; have z2 := (hb34).size; omega
  have hl36 : m20 < g29 := by have z1 := hM21.lt; omega
  have hb37 : Below w.heap.size w w19 := (bstep hb17 hb34)
  have hl38 : w.heap.size ≤ g29 := by have z2 := (hb37).size; omega
  refine WL.asg rfl rfl rfl rfl rfl (WL.asg rfl rfl rfl rfl rfl (WL.nil (WE.next (WC.ret (WE.ret2 rfl rfl rfl ?_)))))
  have hb39 : Below w.heap.size w w28 := (bstep hb37 hb32)
  have ho40 := hM21.below hb32
  have hb41 : Below w18.heap.size w18 w28 := (bstep hb23 hb32)
  have hO9 := (Own.of hcl13).below hb41
  have hwc9 : w.heap.size ≤ w9.heap.size := hb17.size
  have hO8 := (Own.of hcl13).lt
  have hjs9 : w18.heap.size ≤ m20 := by have z : w18.heap.size ≤ w18.heap.size := (Nat.le_refl _); omega
  have hck9 : sigCheck sg = 0 := by first | assumption | (apply Classical.byContradiction; assumption)
  have hmg9 : m20 < g29 := by first | assumption | omega
  refine ⟨_, rfl, .inr ⟨hck9, g29, rfl, by omega, BkS.new hB31 ho40 ⟨hO9.1, fun b q => ?_⟩ hl.wfs (by omega) (by omega) (by omega)⟩, hb39⟩
  have z := hO8 b q
  (try dsimp only at z)
  exact ⟨by omega, by omega, by omega⟩
end Go.Proofs.Ytbohlpfndiiimaa

/- Of which terms a term is an argument, handed out and gathered: the program. -/
namespace Go.Proofs.Ytbohlpfndiiimaa
open Go.RowKit Go
set_option linter.unusedVariables false
set_option linter.unusedSimpArgs false
/-- What the function that hands out has captured. -/
structure UIt (w : World) (n1 n2 gl : Nat) (l : List Nat) (ra : Option Addr) (rc : Nat) : Prop where
 h5 : n1 ≤ gl ∧ gl < n2
 size : n2 ≤ w.heap.size
 row : Blk w gl 31 #[.slice ra l.length rc]
 ns : InRow eltN (fun b => n1 ≤ b ∧ b < n2) w l ra
theorem UIt.chg {w w' : World} {n1 n2 gl : Nat} {l : List Nat} {ra : Option Addr} {rc : Nat} {S : Nat → Prop} (h : UIt w n1 n2 gl l ra rc) (hc : Chg S w w') (hS : ∀ b, n1 ≤ b → b < n2 → ¬ S b) : UIt w' n1 n2 gl l ra rc :=
 ⟨h.h5, Nat.le_trans h.size hc.size, chg_blk h.row hc (hS _ h.h5.1 h.h5.2), h.ns.keep fun p v hp hv => by
  have hb := World.block_lt_of_cell? _ _ hv
  unfold World.cell? at hv ⊢
  rw [hc.block p.block hb (hS _ hp.1 hp.2)]; exact hv⟩
theorem UIt.below {w w' : World} {n1 n2 gl : Nat} {l : List Nat} {ra : Option Addr} {rc : Nat} (h : UIt w n1 n2 gl l ra rc) (hb : Below w.heap.size w w') : UIt w' n1 n2 gl l ra rc := h.chg (S := fun _ => False) (.ofBelow hb) (fun _ _ _ h => h)
theorem ntake_succ {l : List Nat} {k : Nat} (h : k < l.length) : l.take k ++ [aget l k] = l.take (k + 1) := by rw [List.take_succ_eq_append_getElem h, aget_lt h]
set_option maxRecDepth 100000 in
theorem users_seq {w0 : World} {n1 n2 gl : Nat} {l : List Nat} {ra : Option Addr} {rc : Nat} (S : Nat → Prop) (hS : ∀ b, n1 ≤ b → b < n2 → ¬ S b) (hM : l.length ≤ 4294967296) (h0 : UIt w0 n1 n2 gl l ra rc) :
  SeqStopsK Fence.wide 0 Try.prog 57 #[.pointer (some ⟨gl, 0, none⟩)] (fun x : Nat => (#[.int .i64 (x : Int)] : Array Value)) (Chg S) (fun xs => xs = l) (fun pre => pre <+: l) l.length w0 := by
 refine seq_walk (encs := fun x : Nat => [.int .i64 (x : Int)]) (lb := [.pointer (some ⟨gl, 0, none⟩)]) Try.func57 rfl (by kernel_rfl) ?_
 intro ly J Jx w hw0 hY hJ hJx
 have hI := h0.below hw0
 refine WC.sub (K' := [(0, .func (.yield ly) #[] #[]), (1, .pointer (some ⟨gl, 0, none⟩))]) ⟨rfl, rfl, trivial⟩ ?_
 have hsz := hI.size
 refine WC.seq (WC.region ?_)
 refine WL.val _ rfl rfl rfl (fun za zC zh zk => ld_31 rfl (zh.ev rfl) ((hI).row.cell 0) zk) ?_
 refine WL.val (.int .i64 (((l.length : Nat) : Int))) rfl rfl rfl (fun za zC zh zk => len_31 rfl (zh.ev rfl) zk) ?_
 refine WL.mv rfl rfl rfl rfl rfl (WL.nil (WE.next (WC.block ?_)))
 refine WC.loop (X := Nat) (fun k => l.length - k) (fun k => [(0, .func (.yield ly) #[] #[]), (1, .pointer (some ⟨gl, 0, none⟩)), (5, .slice ra l.length rc), (6, .int .i64 (((l.length : Nat) : Int))), (7, .int .i64 (((k : Nat) : Int)))]) (fun k w1 => k ≤ l.length ∧ UIt w1 n1 n2 gl l ra rc ∧ Had w.heap.size J (l.take k) (w1)) 0 ⟨rfl, rfl, rfl, rfl, rfl, trivial⟩ ?_ ?_
 ·exact ⟨Nat.zero_le _, hI, hJ⟩
 ·rintro k w1 ⟨hk, hIT, hJJ⟩
  refine WC.seq (WC.region ?_)
  refine WL.val (.bool ((decide ((((k : Nat) : Int) : Int) < (((l.length : Nat) : Int) : Int))))) rfl rfl rfl (fun za zC zh zk => lss_3 rfl (zh.ev rfl) (zh.ev rfl) zk) ?_
  refine WL.nil (WE.next (WC.seq ?_))
  refine WC.cond rfl (fun h2 => ?_) (fun h2 => ?_)
  ·have h2 : (((k : Nat) : Int) : Int) < (((l.length : Nat) : Int) : Int) := by simpa using h2
   refine WC.skip (WE.next (WC.seq (WC.block (WC.seq (WC.region ?_)))))
   obtain ⟨b3, o4, ha5, hS6, hc7⟩ := InRow.openNS (hIT).ns
   refine WL.val _ rfl rfl rfl (fun za zC zh zk => ix_31 (k := k) rfl (zh.ev rfl) (ha5 k (by first | omega | (simp; omega))) (zh.ev rfl) (by first | omega | (simp; omega)) zk) ?_
   refine WL.val _ rfl rfl rfl (fun za zC zh zk => ld_3 rfl (zh.ev rfl) (hc7 k (by first | omega | (simp; omega))) zk) ?_
   refine WL.asg rfl rfl rfl rfl rfl (WL.nil (WE.next (WC.seq (WC.region (WL.mv rfl rfl rfl rfl rfl (WL.mv rfl rfl rfl rfl rfl ?_))))))
   refine WL.stepIn (post := fun v w' => (v = .bool true ∧ J (l.take k ++ [aget l k]) w' ∧ Chg S w1 w') ∨ (v = .bool false ∧ Jx (l.take k ++ [aget l k]) w')) rfl rfl rfl (fun za zh => wp_yield rfl (zh.ev rfl) (hv1 (zh.ev rfl)) (hY _ (aget l k) _ hJJ.now (by simp; omega)) (by rintro e w' (⟨rfl, h1, h2⟩ | ⟨rfl, h1⟩) <;> first | exact ⟨_, rfl, _, rfl, .inl ⟨rfl, h1, h2⟩⟩ | exact ⟨_, rfl, _, rfl, .inr ⟨rfl, h1⟩⟩)) ?_
   rintro _ w8 (⟨rfl, hj, hc⟩ | ⟨rfl, hj⟩)
   ·have ho9 := hIT.chg hc hS
    have hJ2 : Had w.heap.size J (l.take k ++ [aget l k]) w8 := ⟨hJ.abide, hj⟩
    refine WL.val (.bool false) rfl rfl rfl (fun za zC zh zk => wp_not rfl (zh.ev rfl) zk) ?_
    refine WL.nil (WE.next ?_)
    refine WC.condF rfl rfl ?_
    refine WC.skip (WE.blockNormal (WE.next (WC.region ?_)))
    refine WL.val (.int .i64 ((((k + 1) : Nat) : Int))) rfl rfl rfl (fun za zC zh zk => addb_3 rfl (zh.ev rfl) (zh.ev rfl) (wrap_eq (by omega) (by omega) (by omega)) zk) ?_
    refine WL.mv rfl rfl rfl rfl rfl (WL.nil ?_)
    refine WE.round (k + 1) ⟨rfl, rfl, rfl, rfl, rfl, trivial⟩ ?_ ?_
    ·exact ⟨by omega, ho9, (by rw [← ntake_succ (by omega)]; exact hJ2)⟩
    ·omega
   ·refine WL.val (.bool true) rfl rfl rfl (fun za zC zh zk => wp_not rfl (zh.ev rfl) zk) ?_
    refine WL.nil (WE.next ?_)
    refine WC.condT rfl rfl ?_
    refine WC.ret (WE.blockRet (WE.thenRet (WE.thenRet (WE.blockRet (WE.ret0 rfl ?_)))))
    refine ⟨⟨_, rfl⟩, .inr ⟨_, ?_, hj⟩⟩
    rw [ntake_succ (by omega)]
    exact List.take_prefix _ _
  ·have h2 : ¬ ((((k : Nat) : Int) : Int) < (((l.length : Nat) : Int) : Int)) := by simpa using h2
   refine WC.exit (WE.thenExit (WE.thenExit (WE.blockIs rfl (WE.end0 rfl ?_))))
   refine ⟨⟨_, rfl⟩, .inl ⟨_, rfl, ?_⟩⟩
   have z := hJJ.now
   rwa [List.take_of_length_le (by omega)] at z
end Go.Proofs.Ytbohlpfndiiimaa

/- What Users hands out, gathered by the law: the program. -/
namespace Go.Proofs.Ytbohlpfndiiimaa
open Go.RowKit Go
set_option linter.unusedVariables false
set_option linter.unusedSimpArgs false
theorem uit_of {w' : World} {B gl : Nat} {l : List Nat} {ra : Option Addr} {rc : Nat} (hB : Blk w' gl 31 #[.slice ra l.length rc]) (hN : NsAt w' B l ra) (hg : B ≤ gl) : UIt w' B w'.heap.size gl l ra rc :=
 ⟨⟨hg, hB.lt⟩, Nat.le_refl _, hB, hN.row.mono (by decide) (fun b q h => ⟨q, h⟩)⟩
section
variable {w w' : World} {e c n : Nat} {a : Option Addr} {l : List Nat}
theorem RowD.blkU (h : RowD eltN (fun _ => False) w e a c n l) : ∀ b, obk a n c = some b → ∃ cs, Blk w b e cs := fun b q => by
 obtain ⟨⟨xs, k1, k2⟩, k3, k4⟩ := h
 rcases k1.2 with ⟨e1, _⟩ | ⟨g, cap, cur, e1, e2, e3, r⟩
 ·have z : (Value.slice a n c).ownBlock = some b := q
  rw [e1] at z; cases z
 ·have z : (Value.slice a n c).ownBlock = some b := q
  rw [e1] at z
  obtain rfl : g = b := by simpa [Value.ownBlock] using z
  exact ⟨cur, e3⟩
theorem RowD.cellsN (h : RowD eltN (fun _ => False) w e a c n l) (hk : ∀ (k : Nat) (o : Obj), w.heap[k]? = some o → o.isCells = true → w'.heap[k]? = some o) : RowD eltN (fun _ => False) w' e a c n l := by
 obtain ⟨⟨xs, k1, k2⟩, k3, k4⟩ := h
 refine ⟨⟨xs, ⟨k1.1, k1.2.imp id ?_⟩, Elts.keep (fun p v hp hv => hp.elim) k2⟩, k3, k4⟩
 rintro ⟨g, cap, cur, e1, e2, e3, r⟩
 exact ⟨g, cap, cur, e1, e2, hk g _ e3 rfl, r⟩
theorem RowD.upd {g : Nat} (h : RowD eltN (fun _ => False) w e a c n l) (hu : Upd g w w') (hg : obk a n c ≠ some g) : RowD eltN (fun _ => False) w' e a c n l := h.chg (Z := fun b => b = g) (.ofUpd hu rfl) (fun b q e => hg ((show b = g from e) ▸ q)) (fun b q => q.elim)
theorem RowD.turnN {B : Nat} (h : RowD eltN (fun _ => False) w e a c n l) (t : Turn B w w') : RowD eltN (fun _ => False) w' e a c n l := h.cellsN (fun k o h1 h2 => t.block k o h1 (.inl h2))
theorem RowD.nsAt {B : Nat} (h : RowD eltN (fun _ => False) w e a c l.length l) (hb : ∀ b, obk a l.length c = some b → B ≤ b) : NsAt w B l a := ⟨by
 have z := RowD.inRowOwn h
 exact z.mono (by decide) (fun b q _ => hb b q)⟩
end
/-- So many of the users as are asked for (less than 1: all). -/
def usI (leave : Int) (l : List Nat) : List Nat := if 1 ≤ leave then l.take leave.toNat else l
theorem usI_all {leave : Int} {l : List Nat} (h : 1 ≤ leave → (l.length : Int) < leave) : usI leave l = l := by
 unfold usI
 split
 ·rename_i c; rw [List.take_of_length_le (by have := h c; omega)]
 ·rfl
theorem usI_pre {leave : Int} {l pre : List Nat} (h : pre <+: l) (e : (pre.length : Int) = leave) (h1 : 1 ≤ leave) : usI leave l = pre := by
 unfold usI
 rw [if_pos h1]
 obtain ⟨r, rfl⟩ := h
 rw [show leave.toNat = pre.length by omega, List.take_left' rfl]
set_option maxRecDepth 100000 in
theorem users_any (g : Nat) (sg : List Sy) (N : List En) (Y : Nat → Prop) (w : World) (k : Nat) (leave : Int) (hNl : N.length ≤ 1000000) (hk : k < N.length) (hK : BkS w g sg Y N) :
  Calls Try.prog 17 #[.pointer (some ⟨g, 0, none⟩), .int .i64 (k : Int), .int .i64 leave] w (Ret fun v' w' => (∃ ra rc, v' = .slice ra (usI leave (usersE N k)).length rc ∧ NsAt w' w.heap.size (usI leave (usersE N k)) ra) ∧ Below w.heap.size w w') := by
 have hul : (usersE N k).length ≤ 1000000 := by
  have z := List.length_filter_le (fun j => decide (k ∈ (eget N j).args)) (List.range N.length)
  rw [List.length_range] at z
  unfold usersE; omega
 generalize hU : usersE N k = U at hul
 refine Calls.walk (l := [.pointer (some ⟨g, 0, none⟩), .int .i64 (((k : Nat) : Int)), .int .i64 leave]) Try.func17 rfl (by kernel_rfl) ?_
 refine WC.sub (K' := [(0, .pointer (some ⟨g, 0, none⟩)), (1, .int .i64 (((k : Nat) : Int))), (2, .int .i64 leave)]) ⟨rfl, rfl, rfl, trivial⟩ ?_
 refine WC.seq (WC.region ?_)
 refine WL.step (post := NewBlk w 3 #[.int .i64 leave]) rfl rfl rfl (fun za zC zh zk => box_3 rfl (zh.ev rfl) (zk _ _ (newBlk _ _ _))) ?_
 rintro _ w1 ⟨g2, rfl, hg3, hB4, hb5, hz6⟩
 have hl7 : w.heap.size ≤ g2 := by omega
 refine WL.asg rfl rfl rfl rfl rfl (WL.nil (WE.next (WC.seq (WC.region ?_))))
 refine WL.step (post := NewBlk w1 31 #[.slice none 0 0]) rfl rfl rfl (fun za zC zh zk => alloc_31 rfl (zk _ _ (newBlk _ _ _))) ?_
 rintro _ w8 ⟨g9, rfl, hg10, hB11, hb12, hz13⟩
 have hl14 : g2 < g9 := by have z1 := hB4.lt; omega
 have hl15 : w.heap.size ≤ g9 := by have z2 := (hb5).size; omega
 refine WL.nil (WE.next (WC.seq (WC.region (WL.mv rfl rfl rfl rfl rfl (WL.mv rfl rfl rfl rfl rfl ?_)))))
 have hB23 := hB4.below hb12
 have hl24 := hB23.lt
 have hl25 := hB11.lt
 have hb26 : Below w.heap.size w w8 := (bstep hb5 hb12)
 refine WL.call rfl rfl rfl (fun za zh zC => wp_call (by kernel_rfl) rfl (hv2 (zh.ev rfl) (zh.ev rfl))) (bUsers_any g sg N Y _ k hNl hk (BkS.below hK hb26)) ?_
 rintro _ w27 ⟨⟨gl16, ra17, rc18, rfl, hB19, hN20, hg21⟩, hb22⟩
 rw [hU] at hB19 hN20
 have hIT := uit_of hB19 hN20 hg21
 have hsz12 : w8.heap.size ≤ w27.heap.size := (hb22).size
 refine WL.asg rfl rfl rfl rfl rfl (WL.nil (WE.next (WC.seq (WC.seq (WC.region (WL.mv rfl rfl rfl rfl rfl ?_))))))
 refine WL.val (.bool false) rfl rfl rfl (fun za zC zh zk => eqlfn_85 rfl (zh.ev rfl) (zh.ev rfl) zk) ?_
 refine WL.nil (WE.next ?_)
 refine WC.condF rfl rfl ?_
 refine WC.skip (WE.next (WC.seq (WC.seq (WC.region (WL.mv rfl rfl rfl rfl rfl (WL.nil (WE.next (WC.block ?_))))))))
 have hwn1 : w.heap.size ≤ w8.heap.size := by omega
 refine WC.range (γ := Unit) (encs := fun zx => [.int .i64 (((zx : Nat) : Int))]) ((fun b => b < w8.heap.size ∨ w27.heap.size ≤ b)) rfl (by kernel_rfl) (by kernel_rfl) (users_seq _ (fun b h1 h2 h => by omega) (by omega) hIT) ((fun l hl => .inr (Nat.le_trans ((Nat.le_refl _)) hl))) ((Below.refl _ _)) (fun _ => rfl) (fun x zy => [(0, .pointer (some ⟨g, 0, none⟩)), (1, .int .i64 (((k : Nat) : Int))), (2, .int .i64 leave), (5, .pointer (some ⟨g2, 0, none⟩)), (6, .slice none 0 0), (7, .pointer (some ⟨g9, 0, none⟩)), (8, .func (.func 57) #[] #[.pointer (some ⟨gl16, 0, none⟩)]), (9, .int .i64 (((x : Nat) : Int))), (14, .bool false), (15, .func (.func 57) #[] #[.pointer (some ⟨gl16, 0, none⟩)])]) (fun x zy w28 => True) (fun pre w28 => ∃ (ra : Option Addr), ∃ (rc : Nat), RowD eltN (fun _ => False) (w28) 3 ra rc pre.length pre ∧ (∀ b, obk ra pre.length rc = some b → w27.heap.size ≤ b) ∧ (1 ≤ leave → (pre.length : Int) < leave) ∧ w27.heap.size ≤ (w28).heap.size ∧ Below w.heap.size w w28 ∧ Blk w28 g9 31 #[.slice ra pre.length rc] ∧ Blk w28 g2 3 #[.int .i64 leave]) (fun zc pre w28 => zc = .exit 0 ∧ ∃ ra rc, RowD eltN (fun _ => False) (w28) 3 ra rc pre.length pre ∧ (∀ b, obk ra pre.length rc = some b → w27.heap.size ≤ b) ∧ Blk w28 g9 31 #[.slice ra pre.length rc] ∧ ((pre.length : Int) = leave ∧ 1 ≤ leave) ∧ Below w.heap.size w w28) (fun pre w1 w2 t h => (by obtain ⟨ra, rc, z0, z1, z2, z3, z4, z5, z6⟩ := h; exact ⟨ra, rc, RowD.turnN z0 t, z1, z2, Nat.le_trans z3 t.size, below_turn z4 t (Nat.le_trans hb26.size hb22.size), blk_turn z5 t, blk_turn z6 t⟩)) (fun zc pre w1 w2 t h => (by obtain ⟨e, ra, rc, z1, z2, z3, z4, z5⟩ := h; exact ⟨e, ra, rc, z1.turnN t, z2, blk_turn z3 t, z4, below_turn z5 t (Nat.le_trans hb26.size hb22.size)⟩)) (fun x zy w1 w2 t h => h) ?_ ?_ ?_ ?_ ?_
 ·have hb29 : Below w.heap.size w w27 := (bstep hb26 hb22)
  have hB30 := hB11.below hb22
  have hB31 := hB23.below hb22
  exact ⟨none, 0, RowD.nil, (fun b e => nomatch e), (fun h => by simp; omega), (Nat.le_refl _), hb29, hB30, hB31⟩
 ·rintro zl32 pre x w33 ⟨ra, rc, _, _, _, hzs, hb34, _, _⟩
  refine WC.sub (K' := [(0, .pointer (some ⟨g, 0, none⟩)), (1, .int .i64 (((k : Nat) : Int))), (2, .int .i64 leave), (5, .pointer (some ⟨g2, 0, none⟩)), (6, .slice none 0 0), (7, .pointer (some ⟨g9, 0, none⟩)), (8, .func (.func 57) #[] #[.pointer (some ⟨gl16, 0, none⟩)]), (14, .bool false), (15, .func (.func 57) #[] #[.pointer (some ⟨gl16, 0, none⟩)]), (16, .int .i64 (((x : Nat) : Int)))]) ⟨rfl, rfl, rfl, rfl, rfl, rfl, rfl, rfl, rfl, rfl, trivial⟩ ?_
  refine WC.region (WL.asg rfl rfl rfl rfl rfl (WL.nil ?_))
  exact fun _ zk => ⟨(Below.refl _ _), (), zk.sub ⟨rfl, rfl, rfl, rfl, rfl, rfl, rfl, rfl, rfl, rfl, trivial⟩, trivial⟩
 ·rintro zl35 pre x zy w36 ⟨ra, rc, hR, hO, hL, hz41, hb38, hB39, hB40⟩ _ hl37
  have hpl : pre.length < U.length := by assumption
  refine WC.block (WC.seq (WC.region ?_))
  refine WL.val _ rfl rfl rfl (fun za zC zh zk => ld_31 rfl (zh.ev rfl) ((hB39.cell 0).trans rfl) zk) ?_
  refine WL.mv rfl rfl rfl rfl rfl ?_
  refine WL.step (post := NewRow w36 3 #[.int .i64 (((x : Nat) : Int))] 1) rfl rfl rfl (fun za zC zh zk => row_31_1 rfl (zh.ev rfl) (zk _ _ (newRow _ _ _ _))) ?_
  rintro _ w42 ⟨g43, rfl, hg44, hB45, hb46, hz47⟩
  have hl48 : g9 < g43 := by have z1 := hB39.lt; omega
  have hl49 : g2 < g43 := by have z1 := hB40.lt; omega
  have hl50 : w27.heap.size ≤ g43 := by have z2 := hz41; omega
  have hl51 : w.heap.size ≤ g43 := by have z2 := (hb38).size; omega
  have hl52 : w36.heap.size ≤ g43 := by omega
  have ho53 := hR.below hb46
  have hB54 := hB39.below hb46
  have hB55 := hB40.below hb46
  have hb62 : Below w.heap.size w w42 := (bstep hb38 hb46)
  have hsz9 : w27.heap.size ≤ w42.heap.size := by omega
  refine WL.step (post := fun v w' => ∃ ra2 rc2, v = .slice ra2 (pre.length + 1) rc2 ∧ RowD eltN (fun _ => False) w' 3 ra2 rc2 ((pre.length + 1)) ((pre ++ [x])) ∧ Chg (fun b => obk ra pre.length rc = some b) w42 w' ∧ ∀ b, obk ra2 ((pre.length + 1)) rc2 = some b → w27.heap.size ≤ b) rfl rfl rfl (fun za zC zh zk => wp_appD (E := eltN) (S2 := fun _ => False) (y := x) (size := 1) (bytes := 8) (z := .int .i64 0) rfl Try.underlying31 (by kernel_rfl) rfl (by decide) rfl (zh.ev rfl) (zh.ev rfl) ho53 hB45 rfl (fun b q => q.elim) (by omega) (by omega) (fun ra rc w' h1 h2 h3 => zk _ _ ⟨ra, rc, rfl, h1.mono (fun b q _ => by rcases q.1 with q | q <;> exact q) (fun b q => q.elim), h2, fun b e => by rcases h3 b e with z | z; exact hO b z; omega⟩)) ?_
  rintro _ w56 ⟨ra57, rc58, rfl, hr59, hc60, ho61⟩
  have hb65 := chg_below hb62 hc60 (fun b hb e => by have z := hO b e; omega)
  have hB63 := chg_blk hB54 hc60 (fun e => by have z := hO _ e; omega)
  have hB64 := chg_blk hB55 hc60 (fun e => by have z := hO _ e; omega)
  have hc66 : Chg (fun b => b < w8.heap.size ∨ w27.heap.size ≤ b) w42 w56 := hc60.mono (fun b e => .inr (hO b e))
  refine WL.step (post := fun _ w' => Upd g9 w56 w' ∧ Blk w' g9 31 #[.slice ra57 ((pre.length + 1)) rc58]) rfl rfl rfl (fun za zC zh zk => st_31 rfl (zh.ev rfl) (zh.ev rfl) hB63 (by first | decide | simp) (fun v => zk v _ ⟨Upd.at_ _ _ _ _, hB63.set_ 0 _⟩)) ?_
  rintro v70 w67 ⟨hu68, hB69⟩
  have hb71 := upd_below hb65 hu68 (by omega)
  have hB72 := upd_blk hB64 hu68 (by omega)
  have ho73 := hr59.upd hu68 ((RowD.neBlk hr59 hB63 (by decide)))
  refine WL.nil (WE.next (WC.seq (WC.region ?_)))
  refine WL.val _ rfl rfl rfl (fun za zC zh zk => ld_31 rfl (zh.ev rfl) ((hB69.cell 0).trans rfl) zk) ?_
  refine WL.val (.int .i64 ((((pre.length + 1) : Nat) : Int))) rfl rfl rfl (fun za zC zh zk => len_31 rfl (zh.ev rfl) zk) ?_
  refine WL.val _ rfl rfl rfl (fun za zC zh zk => ld_3 rfl (zh.ev rfl) ((hB72.cell 0).trans rfl) zk) ?_
  refine WL.val (.bool ((((((pre.length + 1) : Nat) : Int) : Int) == (leave : Int)))) rfl rfl rfl (fun za zC zh zk => eql_3 rfl (zh.ev rfl) (zh.ev rfl) zk) ?_
  refine WL.nil (WE.next ?_)
  refine WC.cond rfl (fun h74 => ?_) (fun h74 => ?_)
  ·have h74 : ((((pre.length + 1) : Nat) : Int) : Int) = (leave : Int) := by simpa using h74
   refine WC.exit (WE.blockNot rfl ?_)
   exact fun _ _ => ⟨(((keepsFrom_below hb46).trans (keepsFrom_chg hc60 (fun k o _ h1 h2 q => by obtain ⟨cs, z⟩ := RowD.blkU ho53 k q; rw [show w42.heap[k]? = _ from z] at h1; cases h1; cases h2))).trans (keepsFrom_upd hu68 hB63)), ⟨rfl, ra57, rc58, by rw [List.length_append]; exact ho73, by rw [List.length_append]; exact ho61, by rw [List.length_append]; exact hB69, by rw [List.length_append]; have z2 := h74; simp only [List.length_singleton] at *; omega, hb71⟩⟩
  ·have h74 : ¬ (((((pre.length + 1) : Nat) : Int) : Int) = (leave : Int)) := by simpa using h74
   refine WC.skip (WE.blockNormal ?_)
   have hs75 : Chg ((fun b => b < w8.heap.size ∨ w27.heap.size ≤ b)) w36 w67 := (Chg.trans2 (Chg.trans2 (Chg.trans2 (Chg.refl ((fun b => b < w8.heap.size ∨ w27.heap.size ≤ b)) _) (Chg.ofBelow (S := fun k => k < 0) hb46) (fun i h1 h2 => by first | exact h2 | exact .inl ⟨h2, h1⟩ | exact .inl h2 | exact .inr h2 | exact .inr (.inl h2) | exact .inr (.inr h2) | ((try dsimp only at *); omega))) hc66 (fun i h1 h2 => by first | exact h2 | exact .inl ⟨h2, h1⟩ | exact .inl h2 | exact .inr h2 | exact .inr (.inl h2) | exact .inr (.inr h2) | ((try dsimp only at *); omega))) (Chg.ofUpd (S := fun k => k = g9) hu68 rfl) (fun i h1 h2 => by first | exact h2 | exact .inl ⟨h2, h1⟩ | exact .inl h2 | exact .inr h2 | exact .inr (.inl h2) | exact .inr (.inr h2) | ((try dsimp only at *); omega)))
   exact fun _ _ => ⟨(((keepsFrom_below hb46).trans (keepsFrom_chg hc60 (fun k o _ h1 h2 q => by obtain ⟨cs, z⟩ := RowD.blkU ho53 k q; rw [show w42.heap[k]? = _ from z] at h1; cases h1; cases h2))).trans (keepsFrom_upd hu68 hB63)), hs75, ⟨ra57, rc58, (by rw [List.length_append]; exact ho73), (by rw [List.length_append]; exact ho61), (fun h1 => by have z := hL h1; have z2 := h74; rw [List.length_append]; simp only [List.length_singleton] at *; omega), (Nat.le_trans (Nat.le_trans (Nat.le_trans hz41 hb46.size) hc60.size) (Nat.le_of_eq hu68.size.symm)), hb71, (by rw [List.length_append]; exact hB69), hB72⟩⟩
 ·rintro D76 xs77 w78 hD79 hS80 ⟨ra, rc, hR, hO, hL, hz85, hb82, hB83, hB84⟩ hw81
  obtain rfl := hS80
  have hxs := usI_all hL
  refine WE.blockNormal (WE.next (WC.seq (WC.region ?_)))
  refine WL.val _ rfl rfl rfl (fun za zC zh zk => ld_31 rfl (zh.ev rfl) ((hB83.cell 0).trans rfl) zk) ?_
  refine WL.asg rfl rfl rfl rfl rfl (WL.nil (WE.next (WC.ret ?_)))
  obtain ⟨w86, hs87, hc88, hk89⟩ := shut_all [D76] w78 (by intro D hD; simp only [List.mem_cons, List.not_mem_nil, or_false] at hD; rcases hD with rfl <;> assumption) (by simp <;> omega)
  have hB90 : Blk w86 g9 31 #[.slice ra xs77.length rc] := hk89 _ _ hB83 rfl
  have hB91 : Blk w86 g2 3 #[.int .i64 leave] := hk89 _ _ hB84 rfl
  have hb92 := chg_below hb82 hc88 (fun b hb => by simp only [List.mem_cons, List.not_mem_nil, or_false]; omega)
  refine WE.retS1 rfl rfl hs87 ?_
  rw [hxs]
  exact ⟨_, rfl, ⟨_, _, rfl, RowD.nsAt (RowD.cellsN hR hk89) (fun b q => by have z := hO b q; omega)⟩, hb92⟩
 ·rintro D93 zc94 pre95 w96 hD97 hS98 hI99 hw100
  obtain ⟨rfl, ra, rc, hR, hO, hB7, hE, hb0⟩ := hI99
  have hxs := usI_pre hS98 hE.1 hE.2
  refine WC.exit (WE.blockIs rfl (WE.next (WC.seq (WC.region ?_))))
  refine WL.val _ rfl rfl rfl (fun za zC zh zk => ld_31 rfl (zh.ev rfl) ((hB7.cell 0).trans rfl) zk) ?_
  refine WL.asg rfl rfl rfl rfl rfl (WL.nil (WE.next (WC.ret ?_)))
  obtain ⟨w101, hs102, hc103, hk104⟩ := shut_all [D93] w96 (by intro D hD; simp only [List.mem_cons, List.not_mem_nil, or_false] at hD; rcases hD with rfl <;> assumption) (by simp <;> omega)
  have hB105 : Blk w101 g9 31 #[.slice ra pre95.length rc] := hk104 _ _ hB7 rfl
  have hb106 := chg_below hb0 hc103 (fun b hb => by simp only [List.mem_cons, List.not_mem_nil, or_false]; omega)
  refine WE.retS1 rfl rfl hs102 ?_
  rw [hxs]
  exact ⟨_, rfl, ⟨_, _, rfl, RowD.nsAt (RowD.cellsN hR hk104) (fun b q => by have z := hO b q; omega)⟩, hb106⟩
end Go.Proofs.Ytbohlpfndiiimaa

/- What a bank does, as a law sees it. -/
namespace Go.Proofs.Ytbohlpfndiiimaa
open Go.RowKit Go
set_option linter.unusedVariables false
set_option linter.unusedSimpArgs false
section
variable {w : World} {B g : Nat} {sg : List Sy} {N : List En} {X : Nat → Prop}
theorem BkSJ.is (h : BkSJ w B g sg N X) : ∃ Y, BkS w g sg Y N ∧ ∃ Z sa sc, BkIs w g (.slice sa sg.length sc) Z N := by
  obtain ⟨Y, h1, _⟩ := h
  exact ⟨Y, h1, h1.is⟩
theorem jLen (h : BkSJ w B g sg N X) : Calls Try.prog 14 #[.pointer (some ⟨g, 0, none⟩)] w (Ret fun v' w' => v' = .int .i64 ((N.length : Nat) : Int) ∧ Below w.heap.size w w') := by
  obtain ⟨Y, h1, Z, sa, sc, h2⟩ := h.is
  exact blen_any g _ Z N w h2
theorem jSize (k : Nat) (hk : k < N.length) (h : BkSJ w B g sg N X) : Calls Try.prog 15 #[.pointer (some ⟨g, 0, none⟩), .int .i64 (k : Int)] w (Ret fun v' w' => v' = .int .i64 (((tmE N k).size : Nat) : Int) ∧ Below w.heap.size w w') := by
  obtain ⟨Y, h1, Z, sa, sc, h2⟩ := h.is
  exact bsize_any g _ Z N w k h2 hk
theorem jGround (k : Nat) (hk : k < N.length) (h : BkSJ w B g sg N X) : Calls Try.prog 16 #[.pointer (some ⟨g, 0, none⟩), .int .i64 (k : Int)] w (Ret fun v' w' => v' = .bool (tmE N k).gnd ∧ Below w.heap.size w w') := by
  obtain ⟨Y, h1, Z, sa, sc, h2⟩ := h.is
  exact bground_any g _ Z N w k h2 hk
theorem jFind (t : T) (v : Value) (hNl : N.length ≤ 1000000) (hsz : t.size ≤ 4294967296) (hv : IsT w t v) (h : BkSJ w B g sg N X) : Calls Try.prog 12 #[.pointer (some ⟨g, 0, none⟩), v] w (Ret fun v' w' => v' = .tuple #[.int .i64 (((t.bfind N).getD 0 : Nat) : Int), .bool (t.bfind N).isSome] ∧ Below w.heap.size w w') := by
  obtain ⟨Y, h1, Z, sa, sc, h2⟩ := h.is
  exact bfind_any g _ Z N (by omega) t w v hsz hv h2
theorem jGet (k : Nat) (hNl : N.length ≤ 1000000) (hk : k < N.length) (h : BkSJ w B g sg N X) : Calls Try.prog 11 #[.pointer (some ⟨g, 0, none⟩), .int .i64 (k : Int)] w (Ret fun v' w' => (∃ v, v' = .tuple #[v, .int .i64 0] ∧ NewT w w' (tmE N k) v) ∧ Below w.heap.size w w') := by
  obtain ⟨Y, h1, _⟩ := h
  refine Calls.mono (bGet_any g sg N Y w k hNl hk h1) (fun e w' hr => ?_)
  obtain ⟨v', rfl, ⟨v, h2, h3⟩, hb⟩ := hr
  exact ⟨v', rfl, ⟨v, h3, h2⟩, hb⟩
theorem jArgs (k : Nat) (hNl : N.length ≤ 1000000) (hk : k < N.length) (h : BkSJ w B g sg N X) : Calls Try.prog 13 #[.pointer (some ⟨g, 0, none⟩), .int .i64 (k : Int)] w (Ret fun v' w' => (∃ ra rc, v' = .slice ra (eget N k).args.length rc ∧ NsAt w' w.heap.size (eget N k).args ra) ∧ Below w.heap.size w w') := by
  obtain ⟨Y, h1, _⟩ := h
  exact bArgs_any g sg N Y w k hNl hk h1
theorem jUsers (k : Nat) (leave : Int) (hNl : N.length ≤ 1000000) (hk : k < N.length) (h : BkSJ w B g sg N X) : Calls Try.prog 17 #[.pointer (some ⟨g, 0, none⟩), .int .i64 (k : Int), .int .i64 leave] w (Ret fun v' w' => (∃ ra rc, v' = .slice ra (usI leave (usersE N k)).length rc ∧ NsAt w' w.heap.size (usI leave (usersE N k)) ra) ∧ Below w.heap.size w w') := by
  obtain ⟨Y, h1, _⟩ := h
  exact users_any g sg N Y w k leave hNl hk h1
/-- What Put changes: nothing that is to stay. -/
def PutTo (w w' : World) (B g : Nat) (sg : List Sy) (N' : List En) (X : Nat → Prop) : Prop := ∃ Y, (∀ b, (X b ∨ b < B) → b < w.heap.size → ¬ Y b) ∧ Chg Y w w' ∧ BkSJ w' B g sg N' (fun b => (X b ∨ b < B) ∧ b < w.heap.size)
theorem jPut (t : T) (v : Value) (A : Nat → Prop) (hNl : N.length ≤ 1000000) (hsz : t.size ≤ 4294967296) (hA : ∀ b, A b → (X b ∨ b < B) ∧ b < w.heap.size) (hin : InT A w t v) (h : BkSJ w B g sg N X) : Calls Try.prog 9 #[.pointer (some ⟨g, 0, none⟩), v] w (Ret fun v' w' => v' = .tuple #[.int .i64 (bputV sg N t), .int .i64 (chkI sg t)] ∧ PutTo w w' B g sg (bputI sg N t) X) := by
  obtain ⟨Y, h1, h2, h3⟩ := h
  have hno : ∀ b, (X b ∨ b < B) → ¬ Y b := fun b q k => by
    rcases q with q | q
    · exact h3 b q k
    · have := h2 b k; omega
  refine Calls.mono (bPut_any g sg t N Y A w v hsz hNl h1 hin (fun b q => ⟨hno b (hA b q).1, (hA b q).2⟩)) (fun e w' hr => ?_)
  obtain ⟨v', rfl, hv, ⟨Y', k1, k2⟩, hc⟩ := hr
  obtain ⟨Z, sa, sc, hBk⟩ := h1.is
  have hsize : B ≤ w.heap.size := Nat.le_trans (h2 _ h1.hg) (Nat.le_of_lt (h1.lt _ h1.hg))
  refine ⟨v', rfl, hv, Y, fun b q _ => hno b q, hc, Y', k1, fun b q => ?_, fun b q k => ?_⟩
  · rcases k2 b q with z | z
    · exact h2 b z
    · omega
  · rcases k2 b k with z | z
    · exact hno b q.1 z
    · omega
end
end Go.Proofs.Ytbohlpfndiiimaa

/- A region in whatever order: 'box = append(box, f(..))' where the row grows by an empty element, which is written behind it, and the box is told: the two stores in whatever order. -/
namespace Go.Proofs.Ytbohlpfndiiimaa
open Go.RowKit Go
set_option linter.unusedVariables false
set_option linter.unusedSimpArgs false
abbrev AnyS : Nat → Prop := fun _ => True
section
variable {P : Program} {ops : Array Oper} {S : Nat → Prop}
structure CtxI (ops : Array Oper) (l : List (Bool × SpS AnyS)) (chain : List Nat) (ia : Nat) (n : Fr) (K : Known) (w0 : World) (i : Nat) (o : Oper) (a : Act) (w : World) : Prop where
 kn : Kn n K a
 dep : ∀ j d, depB ops o j d = true → chain.contains j = false → optS l j (a.tmps.getD d undef) w
 early : (ancL ops ia).contains i = true → Below w0.heap.size w0 w
/-- How far it is: the element made, the empty row of one, the append, the element's address, the two stores. -/
def GI (S : Nat → Prop) (w0 : World) (N : Nat) (adr : Option Addr → Value) (CP : Option (Option Addr × Nat) → Value → World → Prop) (ZP : Value → World → Prop) (GP : Bool → Bool → Option Addr → Nat → World → Prop) (vs : List (Option Value)) (w : World) : Prop :=
 ∃ c s a x y z, vs = [c, s, a, x, y, z] ∧
  ((a = none ∧ x = none ∧ y = none ∧ z = none ∧ Below w0.heap.size w0 w ∧ (∀ v, c = some v → CP none v w) ∧ ∀ v, s = some v → ZP v w) ∨
   ∃ ra rc vc, a = some (.slice ra N rc) ∧ (∀ u, x = some u → u = adr ra) ∧ GP y.isSome z.isSome ra rc w ∧ Chg S w0 w ∧ c = some vc ∧ (y = none → CP (some (ra, rc)) vc w))
def AppI (P : Program) (ops : Array Oper) (Q : Exit → Act → World → Prop) (l : List (Bool × SpS AnyS)) (n : Fr) (K : Known) (w0 : World) (S : Nat → Prop) (ic is ia ix iy iz N : Nat) (adr : Option Addr → Value) (CP : Option (Option Addr × Nat) → Value → World → Prop) (ZP : Value → World → Prop) (GP : Bool → Bool → Option Addr → Nat → World → Prop) : Nat → List Oper → Prop
 | _, [] => True
 | i, o :: r => (([ic, is, ia, ix, iy, iz].contains i = false ∧ o.guard = none ∧ ∀ a w, CtxI ops l [ic, is, ia, ix, iy, iz] ia n K w0 i o a w → o.wp P a w (fun a' w' => ∃ v, a' = Act.put a o.dst v ∧ w' = w ∧ optS l i v w) Q) ∨
  (i = ic ∧ o.guard = none ∧ (ancL ops ia).contains i = true ∧ ∀ a w, CtxI ops l [ic, is, ia, ix, iy, iz] ia n K w0 i o a w → o.wp P a w (fun a' w' => ∃ v, a' = Act.put a o.dst v ∧ Below w.heap.size w w' ∧ CP none v w') Q) ∨
  (i = is ∧ o.guard = none ∧ (ancL ops ia).contains i = true ∧ ∀ a w, CtxI ops l [ic, is, ia, ix, iy, iz] ia n K w0 i o a w → o.wp P a w (fun a' w' => ∃ v, a' = Act.put a o.dst v ∧ Below w.heap.size w w' ∧ ZP v w') Q) ∨
  (i = ia ∧ o.guard = none ∧ o.after.any (fun e => e.on == ic && Region.binds .any e) = true ∧ (∃ ds, depB ops o is ds = true ∧ ∀ a w vc, CtxI ops l [ic, is, ia, ix, iy, iz] ia n K w0 i o a w → Below w0.heap.size w0 w → CP none vc w → ZP (a.tmps.getD ds undef) w → o.wp P a w (fun a' w' => ∃ ra rc, a' = Act.put a o.dst (.slice ra N rc) ∧ GP false false ra rc w' ∧ CP (some (ra, rc)) vc w' ∧ Chg S w w') Q)) ∨
  (i = ix ∧ o.guard = none ∧ (∃ da, depB ops o ia da = true ∧ ∀ a w ra rc y z, CtxI ops l [ic, is, ia, ix, iy, iz] ia n K w0 i o a w → a.tmps.getD da undef = .slice ra N rc → GP y z ra rc w → o.wp P a w (fun a' w' => a' = Act.put a o.dst (adr ra) ∧ w' = w) Q)) ∨
  (i = iy ∧ o.guard = none ∧ (∃ dx dc, depB ops o ix dx = true ∧ depB ops o ic dc = true ∧ ∀ a w ra rc z, CtxI ops l [ic, is, ia, ix, iy, iz] ia n K w0 i o a w → a.tmps.getD dx undef = adr ra → CP (some (ra, rc)) (a.tmps.getD dc undef) w → GP false z ra rc w → Chg S w0 w → o.wp P a w (fun a' w' => ∃ v, a' = Act.put a o.dst v ∧ GP true z ra rc w' ∧ Chg S w0 w' ∧ Chg AnyS w w') Q)) ∨
  (i = iz ∧ o.guard = none ∧ (∃ da, depB ops o ia da = true ∧ ∀ a w ra rc y, CtxI ops l [ic, is, ia, ix, iy, iz] ia n K w0 i o a w → a.tmps.getD da undef = .slice ra N rc → GP y false ra rc w → o.wp P a w (fun a' w' => ∃ v, a' = Act.put a o.dst v ∧ GP y true ra rc w' ∧ Chg S w w') Q))) ∧ AppI P ops Q l n K w0 S ic is ia ix iy iz N adr CP ZP GP (i + 1) r
theorem AppI.gen {Q : Exit → Act → World → Prop} {l : List (Bool × SpS AnyS)} {n : Fr} {K : Known} {w0 : World} {ic is ia ix iy iz N : Nat} {adr : Option Addr → Value} {CP : Option (Option Addr × Nat) → Value → World → Prop} {ZP : Value → World → Prop} {GP : Bool → Bool → Option Addr → Nat → World → Prop}
  (hCP : ∀ v w w', Below w.heap.size w w' → CP none v w → CP none v w') (hZP : ∀ v w w', Below w.heap.size w w' → ZP v w → ZP v w') (hCS : ∀ p v w w', Chg S w w' → CP p v w → CP p v w') : ∀ {lo : List Oper} {i : Nat}, AppI P ops Q l n K w0 S ic is ia ix iy iz N adr CP ZP GP i lo →
  SoundFromG P ops Q [ic, is, ia, ix, iy, iz] (optS l) (Chg AnyS) (GI S w0 N adr CP ZP GP) n K i lo
 | [], _, _ => trivial
 | o :: r, i, ⟨h, hr⟩ => by
  refine ⟨?_, AppI.gen hCP hZP hCS hr⟩
  have ctx : ∀ {a w vs}, CtxG ops [ic, is, ia, ix, iy, iz] (optS l) (GI S w0 N adr CP ZP GP) n K i o a w vs → CtxI ops l [ic, is, ia, ix, iy, iz] ia n K w0 i o a w := fun {a w vs} C => ⟨C.kn, C.dep, fun he => by
   have hm := C.mostT 2 ia rfl he
   obtain ⟨c, s, a, x, y, z, rfl, h | ⟨ra, rc, vc, rfl, _⟩⟩ := C.now
   ·exact h.2.2.2.2.1
   ·simp at hm⟩
  have any : ∀ {S' : Nat → Prop} {w w' : World}, Chg S' w w' → Chg AnyS w w' := fun h => ⟨h.os, h.tape, h.output, h.size, fun k hk hn => absurd trivial hn⟩
  rcases h with ⟨hi, hg, h4⟩ | ⟨rfl, hg, han, h4⟩ | ⟨rfl, hg, han, h4⟩ | ⟨rfl, hg, hdn, ds, hds, h4⟩ | ⟨rfl, hg, da, hda, h4⟩ | ⟨rfl, hg, dx, dc, hdx, hdc, h4⟩ | ⟨rfl, hg, da, hda, h4⟩
  ·refine .inl ⟨hi, true, .none hg, fun g b e => (by rw [hg] at e; cases e), fun h => (by cases h), fun _ a w vs C => ?_⟩
   refine Oper.wpIn_mono ?_ (wpIn_of (h4 a w (ctx C)) (by rintro a' w' ⟨v, rfl, _⟩; exact put_defers _ _ _))
   rintro a' w' ⟨v, rfl, rfl, hR⟩
   exact ⟨v, rfl, ⟨rfl, rfl, rfl, Nat.le_refl _, fun _ _ _ => rfl⟩, C.now, hR⟩
  ·refine .inr ⟨0, rfl, hg, fun a w vs C hn => ?_⟩
   refine Oper.wpIn_mono ?_ (wpIn_of (h4 a w (ctx C)) (by rintro a' w' ⟨v, rfl, _⟩; exact put_defers _ _ _))
   rintro a' w' ⟨v, rfl, hb, hP⟩
   have hm := C.mostT 2 ia rfl han
   obtain ⟨c, s, a, x, y, z, rfl, h | ⟨ra, rc, vc, rfl, _⟩⟩ := C.now
   ·obtain ⟨rfl, rfl, rfl, rfl, h5, h6, h7⟩ := h
    exact ⟨v, rfl, any (S' := fun _ => False) (.ofBelow hb), some v, s, none, none, none, none, rfl, .inl ⟨rfl, rfl, rfl, rfl, bstep h5 hb, fun u e => (by cases e; exact hP), fun u e => hZP _ _ _ hb (h7 u e)⟩⟩
   ·simp at hm
  ·refine .inr ⟨1, rfl, hg, fun a w vs C hn => ?_⟩
   refine Oper.wpIn_mono ?_ (wpIn_of (h4 a w (ctx C)) (by rintro a' w' ⟨v, rfl, _⟩; exact put_defers _ _ _))
   rintro a' w' ⟨v, rfl, hb, hP⟩
   have hm := C.mostT 2 ia rfl han
   obtain ⟨c, s, a, x, y, z, rfl, h | ⟨ra, rc, vc, rfl, _⟩⟩ := C.now
   ·obtain ⟨rfl, rfl, rfl, rfl, h5, h6, h7⟩ := h
    exact ⟨v, rfl, any (S' := fun _ => False) (.ofBelow hb), c, some v, none, none, none, none, rfl, .inl ⟨rfl, rfl, rfl, rfl, bstep h5 hb, fun u e => hCP _ _ _ hb (h6 u e), fun u e => (by cases e; exact hP)⟩⟩
   ·simp at hm
  ·refine .inr ⟨2, rfl, hg, fun a w vs C hn => ?_⟩
   have hl := C.link 1 is ds rfl hds
   obtain ⟨vc, hvc⟩ := C.done 0 ic rfl hdn
   have hctx := ctx C
   obtain ⟨c, s, a2, x, y, z, rfl, h | ⟨ra, rc, vc, rfl, _⟩⟩ := C.now
   ·obtain ⟨rfl, rfl, rfl, rfl, h5, h6, h7⟩ := h
    simp only [List.getElem?_cons_zero, List.getElem?_cons_succ, Option.some.injEq] at hl hvc
    refine Oper.wpIn_mono ?_ (wpIn_of (h4 a w vc hctx h5 (h6 _ hvc) (h7 _ hl)) (by rintro a' w' ⟨_, _, rfl, _⟩; exact put_defers _ _ _))
    rintro a' w' ⟨ra, rc, rfl, hG, hC, hc⟩
    exact ⟨_, rfl, any hc, c, s, some (.slice ra N rc), none, none, none, rfl, .inr ⟨ra, rc, vc, rfl, fun u e => (by cases e), hG, (Chg.ofBelow h5).trans hc, hvc, fun _ => hC⟩⟩
   ·simp at hn
  ·refine .inr ⟨3, rfl, hg, fun a w vs C hn => ?_⟩
   have hl := C.link 2 ia da rfl hda
   have hctx := ctx C
   obtain ⟨c, s, a2, x, y, z, rfl, h | ⟨ra, rc, vc, rfl, h1, h2, h3, h5⟩⟩ := C.now
   ·obtain ⟨rfl, _⟩ := h
    simp at hl
   ·simp only [List.getElem?_cons_zero, List.getElem?_cons_succ, Option.some.injEq] at hl hn
    refine Oper.wpIn_mono ?_ (wpIn_of (h4 a w ra rc _ _ hctx hl.symm h2) (by rintro a' w' ⟨rfl, _⟩; exact put_defers _ _ _))
    rintro a' w' ⟨rfl, rfl⟩
    exact ⟨_, rfl, ⟨rfl, rfl, rfl, Nat.le_refl _, fun _ _ _ => rfl⟩, c, s, some (.slice ra N rc), some (adr ra), y, z, rfl, .inr ⟨ra, rc, vc, rfl, fun u e => (by cases e; rfl), h2, h3, h5⟩⟩
  ·refine .inr ⟨4, rfl, hg, fun a w vs C hn => ?_⟩
   have hl := C.link 3 ix dx rfl hdx
   have hl2 := C.link 0 ic dc rfl hdc
   have hctx := ctx C
   obtain ⟨c, s, a2, x, y, z, rfl, h | ⟨ra, rc, vc, rfl, h1, h2, h3, h5, h6⟩⟩ := C.now
   ·obtain ⟨_, rfl, _⟩ := h
    simp at hl
   ·simp only [List.getElem?_cons_zero, List.getElem?_cons_succ, Option.some.injEq] at hl hn hl2
    subst hn
    rw [h5] at hl2
    cases hl2
    refine Oper.wpIn_mono ?_ (wpIn_of (h4 a w ra rc _ hctx (h1 _ hl) (h6 rfl) h2 h3) (by rintro a' w' ⟨v, rfl, _⟩; exact put_defers _ _ _))
    rintro a' w' ⟨v, rfl, hG, hc, hany⟩
    exact ⟨v, rfl, hany, c, s, some (.slice ra N rc), x, some v, z, rfl, .inr ⟨ra, rc, _, rfl, h1, hG, hc, h5, fun e => (by cases e)⟩⟩
  ·refine .inr ⟨5, rfl, hg, fun a w vs C hn => ?_⟩
   have hl := C.link 2 ia da rfl hda
   have hctx := ctx C
   obtain ⟨c, s, a2, x, y, z, rfl, h | ⟨ra, rc, vc, rfl, h1, h2, h3, h5, h6⟩⟩ := C.now
   ·obtain ⟨rfl, _⟩ := h
    simp at hl
   ·simp only [List.getElem?_cons_zero, List.getElem?_cons_succ, Option.some.injEq] at hl hn
    subst hn
    refine Oper.wpIn_mono ?_ (wpIn_of (h4 a w ra rc _ hctx hl.symm h2) (by rintro a' w' ⟨v, rfl, _⟩; exact put_defers _ _ _))
    rintro a' w' ⟨v, rfl, hG, hc⟩
    exact ⟨v, rfl, any hc, c, s, some (.slice ra N rc), x, y, some v, rfl, .inr ⟨ra, rc, _, rfl, h1, hG, h3.trans hc, h5, fun e => hCS _ _ _ _ hc (h6 e)⟩⟩
theorem WC.appI {id : Nat} {dr : Bool} {Q : Exit → Act → World → Prop} {n : Fr} {K : Known} {w : World} (l : List (Bool × SpS AnyS)) (K0 : Known) (S : Nat → Prop) (ic is ia ix iy iz N da : Nat) (adr : Option Addr → Value) (CP : Option (Option Addr × Nat) → Value → World → Prop) (ZP : Value → World → Prop) (GP : Bool → Bool → Option Addr → Nat → World → Prop)
  (hCP : ∀ v w w', Below w.heap.size w w' → CP none v w → CP none v w') (hZP : ∀ v w w', Below w.heap.size w w' → ZP v w → ZP v w') (hCS : ∀ p v w w', Chg S w w' → CP p v w → CP p v w')
  (hs : subK K0 K) (hclear : clearB ops K0 = true) (hm : P.follows .mixedOrders = true) (hB : opsB ops n.n = true) (hnd : [ic, is, ia, ix, iy, iz].Nodup) (hin : ([ic, is, ia, ix, iy, iz].all fun c => Nat.blt c ops.size) = true) (hda : (ops[ia]?).bind (·.dst) = some da)
  (h : AppI P ops Q l n K0 w S ic is ia ix iy iz N adr CP ZP GP 0 ops.toList)
  (hQ : ∀ (a : Act) (w' : World) (ra : Option Addr) (rc : Nat), Kn n K0 a → a.tmps.getD da undef = .slice ra N rc → GP true true ra rc w' → Chg S w w' → (∀ i d, (ops[i]?).bind (·.dst) = some d → [ic, is, ia, ix, iy, iz].contains i = false → optS l i (a.tmps.getD d undef) w') → Q .normal a w') :
  WC P n K w (.region id ops dr) Q := by
 refine WC.gen [ic, is, ia, ix, iy, iz] (optS l) (Chg AnyS) (GI S w N adr CP ZP GP) K0 hs hclear hm hB hnd hin (optSKeep l) ?_ (AppI.gen hCP hZP hCS h) (fun a w' vs hk hlen hall hG hu hl => ?_)
 ·refine ⟨none, none, none, none, none, none, rfl, .inl ⟨rfl, rfl, rfl, rfl, ?_, fun v e => (by cases e), fun v e => (by cases e)⟩⟩
  cases dr with
  | true => exact (Below.refl _ _).drew
  | false => exact Below.refl _ _
 ·obtain ⟨v2, hv2⟩ := hall 2 (by simp)
  obtain ⟨v4, hv4⟩ := hall 4 (by simp)
  obtain ⟨v5, hv5⟩ := hall 5 (by simp)
  have hx := hl 2 ia da rfl hda
  obtain ⟨c, s, a2, x, y, z, rfl, h | ⟨ra, rc, vc, rfl, h1, h2, h3, h5, h6⟩⟩ := hG
  ·obtain ⟨rfl, _⟩ := h
   simp at hv2
  ·simp only [List.getElem?_cons_zero, List.getElem?_cons_succ, Option.some.injEq] at hx hv4 hv5
   subst hv4 hv5
   exact hQ a w' ra rc hk hx.symm h2 h3 hu
end
end Go.Proofs.Ytbohlpfndiiimaa

/- Operations, one law a kind and type. -/
namespace Go.Proofs.Ytbohlpfndiiimaa
open Go.RowKit Go
set_option linter.unusedVariables false
set_option linter.unusedSimpArgs false
set_option maxRecDepth 100000
end Go.Proofs.Ytbohlpfndiiimaa

/- Operations, one law a kind and type. -/
namespace Go.Proofs.Ytbohlpfndiiimaa
open Go.RowKit Go
set_option linter.unusedVariables false
set_option linter.unusedSimpArgs false
set_option maxRecDepth 100000
theorem st_22 {w : World} {a : Act} {K : Act → World → Prop} {Q : Exit → Act → World → Prop} {o : Oper} {x y : Operand} {g p : Nat} {ty : TypeId} {cs : Array Value} {c0a : Option Addr} {c0n c0c : Nat} (ho : o.op = .store 22 x y) (hx : a.eval x = .pointer (some ⟨g, p, none⟩)) (hy : a.eval y = .slice c0a c0n c0c) (hB : Blk w g ty cs) (hp : p + 0 < cs.size) (hK : ∀ v, K (a.put o.dst v) (w.setCell ⟨g, p, none⟩ (.slice c0a c0n c0c))) : o.wp Try.prog a w K Q := by
  have h0 := (hB.cell (p)).trans (Array.getElem?_eq_getElem (by first | omega | (simp; omega)))
  have f0 := hB.frozen (p)
  clear hB
  unfold Oper.wp execOp
  simp only [ho, hx, hy]
  go_simp
  exact hK _
theorem subb_3 {w : World} {a : Act} {K : Act → World → Prop} {Q : Exit → Act → World → Prop} {o : Oper} {x y : Operand} {m n r : Int} (ho : o.op = .binOp .sub 3 x y 3) (hx : a.eval x = .int .i64 m) (hy : a.eval y = .int .i64 n) (hr : IntKind.i64.wrap (m - n) = r) (hK : K (a.put o.dst (.int .i64 r)) w) : o.wp Try.prog a w K Q := by
  subst hr
  unfold Oper.wp execOp
  simp only [ho, hx, hy]
  go_simp
  exact hK
theorem len_53 {w : World} {a : Act} {K : Act → World → Prop} {Q : Exit → Act → World → Prop} {o : Oper} {x : Operand} {r : Option Addr} {n c : Nat} (ho : o.op = .call { callee := .builtin .len, args := #[x], argTypes := #[53] }) (hx : a.eval x = .slice r n c) (hK : K (a.put o.dst (.int .i64 n)) w) : o.wp Try.prog a w K Q := by
  unfold Oper.wp execOp
  simp only [ho, resolve, List.map_toArray, List.map_cons, List.map_nil, hx]
  go_simp
  exact hK
theorem ix_53 {w : World} {a : Act} {K : Act → World → Prop} {Q : Exit → Act → World → Prop} {o : Oper} {x y : Operand} {r : Option Addr} {b p n c k : Nat} (ho : o.op = .indexAddr 53 x y) (hx : a.eval x = .slice r n c) (hr : r = some ⟨b, p, none⟩) (hy : a.eval y = .int .i64 (k : Int)) (hk : k < n) (hK : K (a.put o.dst (.pointer (some ⟨b, p + k, none⟩))) w) : o.wp Try.prog a w K Q := by
  subst hr
  have h0 : (0 : Int) ≤ (k : Int) := by omega
  have h1 : (k : Int) < (n : Int) := by omega
  unfold Oper.wp execOp
  simp only [ho, hx, hy]
  go_simp
  exact hK
theorem slo_53 {w : World} {a : Act} {K : Act → World → Prop} {Q : Exit → Act → World → Prop} {o : Oper} {x lo : Operand} {r : Option Addr} {n c k : Nat} (ho : o.op = .slice 53 x (some lo) none none) (hx : a.eval x = .slice r n c) (hl : a.eval lo = .int .i64 (k : Int)) (hk : k ≤ n) (hc : n ≤ c) (hK : K (a.put o.dst (.slice (slA r k 1 c) (n - k) (c - k))) w) : o.wp Try.prog a w K Q := by
  have h0 : (0 : Int) ≤ (k : Int) := by omega
  have h1 : (k : Int) ≤ (n : Int) := by omega
  unfold slA at hK
  simp only [Nat.mul_one] at hK
  unfold Oper.wp execOp
  simp only [ho, hx, hl, Option.map_some, Option.map_none]
  go_simp
  exact hK
theorem build_60_0 {w : World} {a : Act} {K : Act → World → Prop} {Q : Exit → Act → World → Prop} {o : Oper} {x0 : Operand} {c0 : Value} (ho : o.op = .build 60 #[(0, x0)]) (h0 : a.eval x0 = .agg #[c0]) (hK : K (a.put o.dst (.agg #[c0, .slice none 0 0])) w) : o.wp Try.prog a w K Q := by
  unfold Oper.wp execOp
  simp only [ho, List.map_toArray, List.map_cons, List.map_nil, h0]
  go_simp
  exact hK
theorem box_60 {w : World} {a : Act} {K : Act → World → Prop} {Q : Exit → Act → World → Prop} {o : Oper} {x : Operand} {c0 c1 : Value} (ho : o.op = .box 60 x) (hx : a.eval x = .agg #[c0, c1]) (hK : K (a.put o.dst (.pointer (some ⟨w.heap.size, 0, none⟩))) (w.alloc (.cells #[c0, c1] 60))) : o.wp Try.prog a w K Q := by
  unfold Oper.wp execOp
  simp only [ho, hx]
  go_simp
  exact hK
theorem fld_60_1 {w : World} {a : Act} {K : Act → World → Prop} {Q : Exit → Act → World → Prop} {o : Oper} {x : Operand} {b p : Nat} (ho : o.op = .fieldAddr 60 x 1) (hx : a.eval x = .pointer (some ⟨b, p, none⟩)) (hK : K (a.put o.dst (.pointer (some ⟨b, p + 1, none⟩))) w) : o.wp Try.prog a w K Q := by
  unfold Oper.wp execOp
  simp only [ho, hx]
  go_simp
  exact hK
theorem fld_60_0 {w : World} {a : Act} {K : Act → World → Prop} {Q : Exit → Act → World → Prop} {o : Oper} {x : Operand} {b p : Nat} (ho : o.op = .fieldAddr 60 x 0) (hx : a.eval x = .pointer (some ⟨b, p, none⟩)) (hK : K (a.put o.dst (.pointer (some ⟨b, p, none⟩))) w) : o.wp Try.prog a w K Q := by
  unfold Oper.wp execOp
  simp only [ho, hx]
  go_simp
  exact hK
theorem eql_4 {w : World} {a : Act} {K : Act → World → Prop} {Q : Exit → Act → World → Prop} {o : Oper} {x y : Operand} {m n : Bool} (ho : o.op = .binOp .eql 4 x y 4) (hx : a.eval x = .bool m) (hy : a.eval y = .bool n) (hK : K (a.put o.dst (.bool (m == n))) w) : o.wp Try.prog a w K Q := by
  unfold Oper.wp execOp
  simp only [ho, hx, hy]
  go_simp
  exact hK
theorem min_3 {w : World} {a : Act} {K : Act → World → Prop} {Q : Exit → Act → World → Prop} {o : Oper} {x y : Operand} {m n : Int} (ho : o.op = .call { callee := .builtin .min, args := #[x, y], argTypes := #[3, 3] }) (hx : a.eval x = .int .i64 m) (hy : a.eval y = .int .i64 n) (hK : K (a.put o.dst (.int .i64 (min m n))) w) : o.wp Try.prog a w K Q := by
  unfold Oper.wp execOp
  simp only [ho, resolve, List.map_toArray, List.map_cons, List.map_nil, hx, hy]
  go_simp
  first
    | exact hK
    | (have e : min m n = (if n < m then n else m) := by split <;> omega
       rw [e] at hK
       exact hK)
theorem len_48 {w : World} {a : Act} {K : Act → World → Prop} {Q : Exit → Act → World → Prop} {o : Oper} {x : Operand} {r : Option Addr} {n c : Nat} (ho : o.op = .call { callee := .builtin .len, args := #[x], argTypes := #[48] }) (hx : a.eval x = .slice r n c) (hK : K (a.put o.dst (.int .i64 n)) w) : o.wp Try.prog a w K Q := by
  unfold Oper.wp execOp
  simp only [ho, resolve, List.map_toArray, List.map_cons, List.map_nil, hx]
  go_simp
  exact hK
theorem ix_48 {w : World} {a : Act} {K : Act → World → Prop} {Q : Exit → Act → World → Prop} {o : Oper} {x y : Operand} {r : Option Addr} {b p n c k : Nat} (ho : o.op = .indexAddr 48 x y) (hx : a.eval x = .slice r n c) (hr : r = some ⟨b, p, none⟩) (hy : a.eval y = .int .i64 (k : Int)) (hk : k < n) (hK : K (a.put o.dst (.pointer (some ⟨b, p + k * 6, none⟩))) w) : o.wp Try.prog a w K Q := by
  subst hr
  have h0 : (0 : Int) ≤ (k : Int) := by omega
  have h1 : (k : Int) < (n : Int) := by omega
  unfold Oper.wp execOp
  simp only [ho, hx, hy]
  go_simp
  exact hK
theorem ld_55 {w : World} {a : Act} {K : Act → World → Prop} {Q : Exit → Act → World → Prop} {o : Oper} {x : Operand} {b p : Nat} {c0 c1 c2 c3 c4 c5 : Value} (ho : o.op = .load 55 x) (hx : a.eval x = .pointer (some ⟨b, p, none⟩)) (h0 : w.cell? ⟨b, p, none⟩ = some c0) (h1 : w.cell? ⟨b, p + 1, none⟩ = some c1) (h2 : w.cell? ⟨b, p + 2, none⟩ = some c2) (h3 : w.cell? ⟨b, p + 3, none⟩ = some c3) (h4 : w.cell? ⟨b, p + 4, none⟩ = some c4) (h5 : w.cell? ⟨b, p + 5, none⟩ = some c5) (hK : K (a.put o.dst (.agg #[c0, c1, c2, c3, c4, c5])) w) : o.wp Try.prog a w K Q := by
  unfold Oper.wp execOp
  simp only [ho, hx]
  go_simp
  exact hK
theorem alloc_55 {w : World} {a : Act} {K : Act → World → Prop} {Q : Exit → Act → World → Prop} {o : Oper} (ho : o.op = .alloc 55) (hK : K (a.put o.dst (.pointer (some ⟨w.heap.size, 0, none⟩))) (w.alloc (.cells #[.int .i64 0, .int .i64 0, .slice none 0 0, .int .i64 0, .int .i64 0, .slice none 0 0] 55))) : o.wp Try.prog a w K Q := by
  unfold Oper.wp execOp
  simp only [ho]
  go_simp
  exact hK
theorem st_55 {w : World} {a : Act} {K : Act → World → Prop} {Q : Exit → Act → World → Prop} {o : Oper} {x y : Operand} {g p : Nat} {ty : TypeId} {cs : Array Value} {c0 c1 c2 c3 c4 c5 : Value} (ho : o.op = .store 55 x y) (hx : a.eval x = .pointer (some ⟨g, p, none⟩)) (hy : a.eval y = .agg #[c0, c1, c2, c3, c4, c5]) (k0 : c0.oneCell' = true) (k1 : c1.oneCell' = true) (k2 : c2.oneCell' = true) (k3 : c3.oneCell' = true) (k4 : c4.oneCell' = true) (k5 : c5.oneCell' = true) (hB : Blk w g ty cs) (hp : p + 5 < cs.size) (hK : ∀ v, K (a.put o.dst v) ((((((w.setCell ⟨g, p, none⟩ c0).setCell ⟨g, p + 1, none⟩ c1).setCell ⟨g, p + 2, none⟩ c2).setCell ⟨g, p + 3, none⟩ c3).setCell ⟨g, p + 4, none⟩ c4).setCell ⟨g, p + 5, none⟩ c5)) : o.wp Try.prog a w K Q := by
  have h0 := (hB.cell (p)).trans (Array.getElem?_eq_getElem (by first | omega | (simp; omega)))
  have f0 := hB.frozen (p)
  have hB := hB.set_ (p) c0
  have h1 := (hB.cell (p + 1)).trans (Array.getElem?_eq_getElem (by first | omega | (simp; omega)))
  have f1 := hB.frozen (p + 1)
  have hB := hB.set_ (p + 1) c1
  have h2 := (hB.cell (p + 2)).trans (Array.getElem?_eq_getElem (by first | omega | (simp; omega)))
  have f2 := hB.frozen (p + 2)
  have hB := hB.set_ (p + 2) c2
  have h3 := (hB.cell (p + 3)).trans (Array.getElem?_eq_getElem (by first | omega | (simp; omega)))
  have f3 := hB.frozen (p + 3)
  have hB := hB.set_ (p + 3) c3
  have h4 := (hB.cell (p + 4)).trans (Array.getElem?_eq_getElem (by first | omega | (simp; omega)))
  have f4 := hB.frozen (p + 4)
  have hB := hB.set_ (p + 4) c4
  have h5 := (hB.cell (p + 5)).trans (Array.getElem?_eq_getElem (by first | omega | (simp; omega)))
  have f5 := hB.frozen (p + 5)
  have s0 := fun w a m => run_store Try.prog w a c0 m k0
  have s1 := fun w a m => run_store Try.prog w a c1 m k1
  have s2 := fun w a m => run_store Try.prog w a c2 m k2
  have s3 := fun w a m => run_store Try.prog w a c3 m k3
  have s4 := fun w a m => run_store Try.prog w a c4 m k4
  have s5 := fun w a m => run_store Try.prog w a c5 m k5
  clear hB
  unfold Oper.wp execOp
  simp only [ho, hx, hy]
  go_simp
  exact hK _
theorem fld_55_0 {w : World} {a : Act} {K : Act → World → Prop} {Q : Exit → Act → World → Prop} {o : Oper} {x : Operand} {b p : Nat} (ho : o.op = .fieldAddr 55 x 0) (hx : a.eval x = .pointer (some ⟨b, p, none⟩)) (hK : K (a.put o.dst (.pointer (some ⟨b, p, none⟩))) w) : o.wp Try.prog a w K Q := by
  unfold Oper.wp execOp
  simp only [ho, hx]
  go_simp
  exact hK
theorem fld_55_1 {w : World} {a : Act} {K : Act → World → Prop} {Q : Exit → Act → World → Prop} {o : Oper} {x : Operand} {b p : Nat} (ho : o.op = .fieldAddr 55 x 1) (hx : a.eval x = .pointer (some ⟨b, p, none⟩)) (hK : K (a.put o.dst (.pointer (some ⟨b, p + 1, none⟩))) w) : o.wp Try.prog a w K Q := by
  unfold Oper.wp execOp
  simp only [ho, hx]
  go_simp
  exact hK
theorem fld_55_2 {w : World} {a : Act} {K : Act → World → Prop} {Q : Exit → Act → World → Prop} {o : Oper} {x : Operand} {b p : Nat} (ho : o.op = .fieldAddr 55 x 2) (hx : a.eval x = .pointer (some ⟨b, p, none⟩)) (hK : K (a.put o.dst (.pointer (some ⟨b, p + 3, none⟩))) w) : o.wp Try.prog a w K Q := by
  unfold Oper.wp execOp
  simp only [ho, hx]
  go_simp
  exact hK
theorem fld_55_4 {w : World} {a : Act} {K : Act → World → Prop} {Q : Exit → Act → World → Prop} {o : Oper} {x : Operand} {b p : Nat} (ho : o.op = .fieldAddr 55 x 4) (hx : a.eval x = .pointer (some ⟨b, p, none⟩)) (hK : K (a.put o.dst (.pointer (some ⟨b, p + 5, none⟩))) w) : o.wp Try.prog a w K Q := by
  unfold Oper.wp execOp
  simp only [ho, hx]
  go_simp
  exact hK
theorem ld_53 {w : World} {a : Act} {K : Act → World → Prop} {Q : Exit → Act → World → Prop} {o : Oper} {x : Operand} {p : Addr} {v : Value} (ho : o.op = .load 53 x) (hx : a.eval x = .pointer (some p)) (hc : w.cell? p = some v) (hK : K (a.put o.dst (v)) w) : o.wp Try.prog a w K Q := by
  unfold Oper.wp execOp
  simp only [ho, hx]
  go_simp
  exact hK
theorem fld_55_3 {w : World} {a : Act} {K : Act → World → Prop} {Q : Exit → Act → World → Prop} {o : Oper} {x : Operand} {b p : Nat} (ho : o.op = .fieldAddr 55 x 3) (hx : a.eval x = .pointer (some ⟨b, p, none⟩)) (hK : K (a.put o.dst (.pointer (some ⟨b, p + 4, none⟩))) w) : o.wp Try.prog a w K Q := by
  unfold Oper.wp execOp
  simp only [ho, hx]
  go_simp
  exact hK
end Go.Proofs.Ytbohlpfndiiimaa

namespace Go.Proofs.Ytbohlpfndiiimaa
open Go.RowKit Go
set_option linter.unusedVariables false
set_option linter.unusedSimpArgs false
theorem InRow.openI {S : Nat → Prop} {w : World} {l : List Int} {a : Option Addr} (h : InRow eltI S w l a) : ∃ b o : Nat, (∀ k, k < l.length → a = some ⟨b, o, none⟩) ∧ ∀ k, k < l.length → w.cell? ⟨b, o + k, none⟩ = some (.int .i64 (l.getD k 0)) := by
  rcases Nat.eq_zero_or_pos l.length with h0 | h0
  · exact ⟨0, 0, fun k hk => by omega, fun k hk => by omega⟩
  · obtain ⟨b, o, _, ha, _⟩ := h 0 h0
    refine ⟨b, o, fun _ _ => ha, fun k hk => ?_⟩
    obtain ⟨b', o', cs, ha', _, h1, h2⟩ := h k hk
    rw [ha] at ha'
    simp only [Option.some.injEq, Addr.mk.injEq, and_true] at ha'
    obtain ⟨rfl, rfl⟩ := ha'
    have h1' : cs = [.int .i64 l[k]] := h1
    subst h1'
    have := h2 0 (by decide)
    simpa [eltI, hk] using this
end Go.Proofs.Ytbohlpfndiiimaa
