/- Arguments of a law, opened: rows of pairs of terms. -/
import Derived.Test.YthhgidliopohcaaUNKh
import Derived.Test.YthhgidliopohcaaUNKa
import Derived.WalkKit
import Derived.ProofKit
import Derived.JoinedCond
import Derived.OpenShut
import Derived.Test.YthhgidliopohcaaUNKd

/- UnifyMakes: a told unifier makes both of each pair the same, in whatever order they stand. -/
namespace Go.Proofs.Ythhgidliopohcaa
open Go.RowKit Go
set_option linter.unusedVariables false
set_option linter.unusedSimpArgs false
/-- The row of turned pairs while it grows: its block is new, the terms are those that came in. -/
def BR (w0 w1 w : World) (a : Option Addr) (c n : Nat) (L : List (T × T)) : Prop := RowD eltD (fun b => b < w0.heap.size) w 33 a c n L ∧ ∀ b, obk a n c = some b → w1.heap.size ≤ b
theorem BR.below {w0 w1 w w' : World} {a : Option Addr} {c n : Nat} {L : List (T × T)} (h : BR w0 w1 w a c n L) (hb : Below w.heap.size w w') : BR w0 w1 w' a c n L := ⟨h.1.below hb, h.2⟩
theorem made_sub {w : World} {bs : List Bd} {a : Option Addr} {c : Nat} (hR : IsBs w bs a) (hl : bs.length ≤ c) (hc : c ≤ maxLen) (h9 : bs.length ≤ 96) (hs : ∀ b ∈ bs, b.t.size ≤ 300) : IsSub w bs a c := ⟨hR, hl, hc, by omega, fun b q => by have := hs b q; omega⟩
set_option maxRecDepth 100000 in
theorem makes_any (l : List (T × T)) (w : World) (a : Option Addr) (c : Nat) (hl : IsPs w l a c) (hlz : l.length ≤ 1048576) (hsz : ∀ k, k < l.length → (prget l k).1.size ≤ 4294967296 ∧ (prget l k).2.size ≤ 4294967296) :
  Calls Try.prog 5 #[.slice a l.length c] w (Ret fun v' w' => v' = .bool true ∧ Below w.heap.size w w') := by
 skip
 refine Calls.walk (l := [.slice a l.length c]) Try.func5 rfl (by kernel_rfl) ?_
 refine WC.sub (K' := [(0, .slice a l.length c)]) ⟨rfl, trivial⟩ ?_
 refine WC.seq (WC.region (WL.asg rfl rfl rfl rfl rfl (WL.nil (WE.next (WC.seq (WC.region (WL.mv rfl rfl rfl rfl rfl ?_)))))))
 refine WL.call rfl rfl rfl (fun za zh zC => wp_call (by kernel_rfl) rfl (hv1 (zh.ev rfl))) (ppairs_any l _ a c hl hlz) ?_
 rintro _ w1 ⟨⟨bsp, rap, rcp, ep, rfl, hPp, hRp, hlep, hcmp, h96p⟩, hbnp⟩
 refine WL.mv rfl rfl rfl rfl rfl ?_
 refine WL.val (.slice rap bsp.length rcp) rfl rfl rfl (fun za zC zh zk => ext2_0 rfl (zh.ev rfl) zk) ?_
 refine WL.val (.int .i64 ep) rfl rfl rfl (fun za zC zh zk => ext2_1 rfl (zh.ev rfl) zk) ?_
 refine WL.asg rfl rfl rfl rfl rfl (WL.asg rfl rfl rfl rfl rfl (WL.nil (WE.next (WC.seq (WC.region (WL.asg rfl rfl rfl rfl rfl (WL.nil (WE.next (WC.seq (WC.seq (WC.region (WL.mv rfl rfl rfl rfl rfl ?_))))))))))))
 refine WL.val (.int .i64 (((l.length : Nat) : Int))) rfl rfl rfl (fun za zC zh zk => len_22 rfl (zh.ev rfl) zk) ?_
 refine WL.val (.int .i64 (((l.length : Int) - 1 - ((0 : Nat) : Int)))) rfl rfl rfl (fun za zC zh zk => subb_3 rfl (zh.ev rfl) (zh.ev rfl) (wrap_eq (by omega) (by omega) (by omega)) zk) ?_
 refine WL.asg rfl rfl rfl rfl rfl (WL.nil (WE.next (WC.block ?_)))
 have hr0 : BR w w1 w1 none 0 0 (((backP l).take 0)) := ⟨RowD.nil, fun b q => nomatch q⟩
 refine WC.loop (X := Option Addr × Nat × Nat) (fun x => l.length - x.2.2) (fun x => [(0, .slice a l.length c), (2, .bool false), (3, .slice rap bsp.length rcp), (4, .int .i64 ep), (5, .slice x.1 x.2.2 x.2.1), (6, .int .i64 (((l.length : Int) - 1 - ((x.2.2 : Nat) : Int))))]) (fun x w2 => x.2.2 ≤ l.length ∧ Below w.heap.size w w2 ∧ Below w1.heap.size w1 w2 ∧ BR w w1 (w2) x.1 x.2.1 x.2.2 (((backP l).take x.2.2))) ((none, 0, 0)) ⟨rfl, rfl, rfl, rfl, rfl, rfl, trivial⟩ ?_ ?_
 ·exact ⟨Nat.zero_le _, hbnp, (Below.refl _ _), hr0⟩
 ·rintro x w2 ⟨hkx, hb3, hb4, ho5⟩
  refine WC.seq (WC.seq (WC.region (WL.mv rfl rfl rfl rfl rfl ?_)))
  refine WL.val (.bool ((decide ((0 : Int) ≤ (((l.length : Int) - 1 - ((x.2.2 : Nat) : Int)) : Int))))) rfl rfl rfl (fun za zC zh zk => geq_3 rfl (zh.ev rfl) (zh.ev rfl) zk) ?_
  refine WL.nil (WE.next ?_)
  refine WC.cond rfl (fun h6 => ?_) (fun h6 => ?_)
  ·have h6 : (0 : Int) ≤ (((l.length : Int) - 1 - ((x.2.2 : Nat) : Int)) : Int) := by simpa using h6
   refine WC.skip (WE.next (WC.seq (WC.block ?_)))
   have e6 : ((l.length : Int) - 1 - ((x.2.2 : Nat) : Int)) = (((l.length - 1 - x.2.2) : Nat) : Int) := by omega
   rw [e6]
   obtain ⟨b7, o8, A9, C10, D11, E12, ha13, hc14⟩ := IsPs.open hl
   have hSlt : ∀ b, (fun b => obk x.1 x.2.2 x.2.1 = some b) b → b < w2.heap.size := fun b h => ho5.1.lt b h
   have hSlo : ∀ b, (fun b => obk x.1 x.2.2 x.2.1 = some b) b → w1.heap.size ≤ b := fun b h => ho5.2 b h
   have hBW : w1.heap.size ≤ w2.heap.size := (hb4).size
   have hBV : w.heap.size ≤ w1.heap.size := hbnp.size
   refine WC.tail3 (S := ((fun b => obk x.1 x.2.2 x.2.1 = some b))) [(true, .val (.slice x.1 x.2.2 x.2.1)), (true, .val (.slice a l.length c)), (true, .val (.int .i64 ((((l.length - 1 - x.2.2) : Nat) : Int)))), (true, .val (.pointer (some ⟨b7, o8 + ((l.length - 1 - x.2.2)) * 4, none⟩))), (true, .val (.pointer (some ⟨b7, o8 + ((l.length - 1 - x.2.2)) * 4 + 2, none⟩))), (true, .val (.agg #[.int .i64 ((prget l ((l.length - 1 - x.2.2))).2.f), .slice ((D11 ((l.length - 1 - x.2.2)))) ((prget l ((l.length - 1 - x.2.2))).2.args.length) ((E12 ((l.length - 1 - x.2.2))))])), (true, .val (.slice a l.length c)), (true, .val (.int .i64 ((((l.length - 1 - x.2.2) : Nat) : Int)))), (true, .val (.pointer (some ⟨b7, o8 + ((l.length - 1 - x.2.2)) * 4, none⟩))), (true, .val (.pointer (some ⟨b7, o8 + ((l.length - 1 - x.2.2)) * 4, none⟩))), (true, .val (.agg #[.int .i64 ((prget l ((l.length - 1 - x.2.2))).1.f), .slice ((A9 ((l.length - 1 - x.2.2)))) ((prget l ((l.length - 1 - x.2.2))).1.args.length) ((C10 ((l.length - 1 - x.2.2))))])), (true, .val (.agg #[.int .i64 ((prget l ((l.length - 1 - x.2.2))).2.f), .slice ((D11 ((l.length - 1 - x.2.2)))) ((prget l ((l.length - 1 - x.2.2))).2.args.length) ((E12 ((l.length - 1 - x.2.2)))), .int .i64 ((prget l ((l.length - 1 - x.2.2))).1.f), .slice ((A9 ((l.length - 1 - x.2.2)))) ((prget l ((l.length - 1 - x.2.2))).1.args.length) ((C10 ((l.length - 1 - x.2.2))))])), (true, .mem (fun v w' => ∃ g, v = .slice (some ⟨g, 0, none⟩) 1 1 ∧ w2.heap.size ≤ g ∧ Blk w' g 33 #[.int .i64 ((prget l ((l.length - 1 - x.2.2))).2.f), .slice ((D11 ((l.length - 1 - x.2.2)))) ((prget l ((l.length - 1 - x.2.2))).2.args.length) ((E12 ((l.length - 1 - x.2.2)))), .int .i64 ((prget l ((l.length - 1 - x.2.2))).1.f), .slice ((A9 ((l.length - 1 - x.2.2)))) ((prget l ((l.length - 1 - x.2.2))).1.args.length) ((C10 ((l.length - 1 - x.2.2))))]) (fun v w1 w2 hc h => by obtain ⟨g, e, h1, h2⟩ := h; exact ⟨g, e, h1, chg_blk h2 hc (fun q => by have z := hSlt _ q; omega)⟩)), (true, .val undef), (true, .val undef)] [(0, .slice a l.length c), (2, .bool false), (3, .slice rap bsp.length rcp), (4, .int .i64 ep), (6, .int .i64 ((((l.length - 1 - x.2.2) : Nat) : Int)))] 13 14 ((x.2.2 + 1)) 37 5 (fun ra rc wz => BR w w1 wz ra rc ((x.2.2 + 1)) ((((backP l).take x.2.2) ++ [((prget l (l.length - 1 - x.2.2)).2, (prget l (l.length - 1 - x.2.2)).1)]))) (by decide) (fun ra rc w1 w2 hb h => h.below hb) ⟨rfl, rfl, rfl, rfl, rfl, trivial⟩ (by kernel_rfl) (by kernel_rfl) (by kernel_rfl) (by kernel_rfl) (by kernel_rfl) (by kernel_rfl) ?_ ?_
   ·refine ⟨.inl ⟨rfl, true, .none rfl, (fun gg b h => by cases h), fun h w => optUndef h, fun zβ za zw zc => ?_⟩, ?_⟩
    ·exact wp_move rfl ((evt za 5).trans (zc.old 5 _ rfl (by kernel_rfl))) ⟨_, rfl, Below.refl _ _, optDef zβ rfl⟩
    refine ⟨.inl ⟨rfl, true, .none rfl, (fun gg b h => by cases h), fun h w => optUndef h, fun zβ za zw zc => ?_⟩, ?_⟩
    ·exact wp_move rfl (zc.kn.ev rfl) ⟨_, rfl, Below.refl _ _, optDef zβ rfl⟩
    refine ⟨.inl ⟨rfl, true, .none rfl, (fun gg b h => by cases h), fun h w => optUndef h, fun zβ za zw zc => ?_⟩, ?_⟩
    ·exact wp_move rfl (zc.kn.ev rfl) ⟨_, rfl, Below.refl _ _, optDef zβ rfl⟩
    refine ⟨.inl ⟨rfl, true, .none rfl, (fun gg b h => by cases h), fun h w => optUndef h, fun zβ za zw zc => ?_⟩, ?_⟩
    ·exact ix_22 (k := (l.length - 1 - x.2.2)) rfl ((evt za 25).trans (optSVal (zc.dep 1 25 (by kernel_rfl) (by decide)) rfl rfl)) (ha13 ((l.length - 1 - x.2.2)) (by first | omega | (simp; omega))) ((evt za 26).trans (optSVal (zc.dep 2 26 (by kernel_rfl) (by decide)) rfl rfl)) (by first | omega | (simp; omega)) ⟨_, rfl, Below.refl _ _, optDef zβ rfl⟩
    refine ⟨.inl ⟨rfl, true, .none rfl, (fun gg b h => by cases h), fun h w => optUndef h, fun zβ za zw zc => ?_⟩, ?_⟩
    ·exact ixa_33 (k := 1) rfl ((evt za 27).trans (optSVal (zc.dep 3 27 (by kernel_rfl) (by decide)) rfl rfl)) (zc.kn.ev rfl) (by decide) ⟨_, rfl, Below.refl _ _, optDef zβ rfl⟩
    refine ⟨.inl ⟨rfl, true, .none rfl, (fun gg b h => by cases h), fun h w => optUndef h, fun zβ za zw zc => ?_⟩, ?_⟩
    ·exact ld_32 rfl ((evt za 28).trans (optSVal (zc.dep 4 28 (by kernel_rfl) (by decide)) rfl rfl)) (bkeeps (bstep hb3 (zc.early (by kernel_rfl))) _ _ (hc14 ((l.length - 1 - x.2.2)) (by first | omega | (simp; omega))).2.2.1) (bkeeps (bstep hb3 (zc.early (by kernel_rfl))) _ _ (hc14 ((l.length - 1 - x.2.2)) (by first | omega | (simp; omega))).2.2.2.1) ⟨_, rfl, Below.refl _ _, optDef zβ rfl⟩
    refine ⟨.inl ⟨rfl, true, .none rfl, (fun gg b h => by cases h), fun h w => optUndef h, fun zβ za zw zc => ?_⟩, ?_⟩
    ·exact wp_move rfl (zc.kn.ev rfl) ⟨_, rfl, Below.refl _ _, optDef zβ rfl⟩
    refine ⟨.inl ⟨rfl, true, .none rfl, (fun gg b h => by cases h), fun h w => optUndef h, fun zβ za zw zc => ?_⟩, ?_⟩
    ·exact wp_move rfl (zc.kn.ev rfl) ⟨_, rfl, Below.refl _ _, optDef zβ rfl⟩
    refine ⟨.inl ⟨rfl, true, .none rfl, (fun gg b h => by cases h), fun h w => optUndef h, fun zβ za zw zc => ?_⟩, ?_⟩
    ·exact ix_22 (k := (l.length - 1 - x.2.2)) rfl ((evt za 30).trans (optSVal (zc.dep 6 30 (by kernel_rfl) (by decide)) rfl rfl)) (ha13 ((l.length - 1 - x.2.2)) (by first | omega | (simp; omega))) ((evt za 31).trans (optSVal (zc.dep 7 31 (by kernel_rfl) (by decide)) rfl rfl)) (by first | omega | (simp; omega)) ⟨_, rfl, Below.refl _ _, optDef zβ rfl⟩
    refine ⟨.inl ⟨rfl, true, .none rfl, (fun gg b h => by cases h), fun h w => optUndef h, fun zβ za zw zc => ?_⟩, ?_⟩
    ·exact ixa_33 (k := 0) rfl ((evt za 32).trans (optSVal (zc.dep 8 32 (by kernel_rfl) (by decide)) rfl rfl)) (zc.kn.ev rfl) (by decide) ⟨_, rfl, Below.refl _ _, optDef zβ rfl⟩
    refine ⟨.inl ⟨rfl, true, .none rfl, (fun gg b h => by cases h), fun h w => optUndef h, fun zβ za zw zc => ?_⟩, ?_⟩
    ·exact ld_32 rfl ((evt za 33).trans (optSVal (zc.dep 9 33 (by kernel_rfl) (by decide)) rfl rfl)) (bkeeps (bstep hb3 (zc.early (by kernel_rfl))) _ _ (hc14 ((l.length - 1 - x.2.2)) (by first | omega | (simp; omega))).1) (bkeeps (bstep hb3 (zc.early (by kernel_rfl))) _ _ (hc14 ((l.length - 1 - x.2.2)) (by first | omega | (simp; omega))).2.1) ⟨_, rfl, Below.refl _ _, optDef zβ rfl⟩
    refine ⟨.inl ⟨rfl, true, .none rfl, (fun gg b h => by cases h), fun h w => optUndef h, fun zβ za zw zc => ?_⟩, ?_⟩
    ·exact build_33_0_1 rfl ((evt za 29).trans (optSVal (zc.dep 5 29 (by kernel_rfl) (by decide)) rfl rfl)) ((evt za 34).trans (optSVal (zc.dep 10 34 (by kernel_rfl) (by decide)) rfl rfl)) ⟨_, rfl, Below.refl _ _, optDef zβ rfl⟩
    refine ⟨.inl ⟨rfl, true, .none rfl, (fun gg b h => by cases h), fun h w => optUndef h, fun zβ za zw zc => ?_⟩, ?_⟩
    ·exact row_22_1 rfl ((evt za 35).trans (optSVal (zc.dep 11 35 (by kernel_rfl) (by decide)) rfl rfl)) ⟨_, rfl, balloc _ _, optDef zβ ⟨_, rfl, zc.chg.size, Blk.new' rfl⟩⟩
    refine ⟨.inr (.inl ⟨rfl, rfl, fun za zw zc => ?_⟩), ?_⟩
    ·obtain ⟨g1, e1, hg1, hB1⟩ := (optSMem (zc.dep 12 36 (by kernel_rfl) (by decide)) rfl rfl)
     exact wp_appD (E := eltD) (S2 := fun b => b < w.heap.size) (y := ((prget l (l.length - 1 - x.2.2)).2, (prget l (l.length - 1 - x.2.2)).1)) (size := 4) (bytes := 64) (z := .agg #[.int .i64 0, .slice none 0 0, .int .i64 0, .slice none 0 0]) rfl Try.underlying22 (by kernel_rfl) rfl (by decide) rfl ((evt za 24).trans (optSVal (zc.dep 0 24 (by kernel_rfl) (by decide)) rfl rfl)) ((evt za 36).trans e1) (ho5.1.below zc.below) hB1 ⟨_, _, _, _, rfl, InT.below (bstep hb3 zc.below) (IsT.inT (hc14 ((l.length - 1 - x.2.2)) (by first | omega | (simp; omega))).2.2.2.2.2), InT.below (bstep hb3 zc.below) (IsT.inT (hc14 ((l.length - 1 - x.2.2)) (by first | omega | (simp; omega))).2.2.2.2.1)⟩ (fun b hb e => by have z := hSlo b e; omega) (by omega) (by omega) (fun ra rc w' h1 h2 h3 => ⟨ra, rc, rfl, ⟨h1.mono (fun b hb _ => by rcases hb.1 with q | q <;> exact q) (fun b hb e => by (have z := h3 b e); (try dsimp only at hb); rcases z with z | z; (have z2 := hSlo b z; omega); (have z2 := zc.below.size; omega)), fun b e => by (have z := h3 b e); rcases z with z | z; exact hSlo b z; (have z2 := zc.below.size; omega)⟩, h2⟩)
    refine ⟨.inr (.inr ⟨rfl, rfl, 37, by kernel_rfl, rfl⟩), ?_⟩
    exact trivial
   ·intro za w15 ra18 rc19 zh zv zv2 hG16 hc17 zu
    have zh := zh.cons (d := 5) zv2
    have hb20 := chg_below hb3 hc17 (fun b hb => (fun h => by have h := hSlo _ h; (try dsimp only at *); omega))
    have hb21 := chg_below hb4 hc17 (fun b hb => (fun h => by have h := hSlo _ h; (try dsimp only at *); omega))
    have hr22 := hG16
    rw [← backP_take (by omega)] at hr22
    clear zu
    refine WE.go zh ?_
    refine WE.blockNormal (WE.next (WC.region (WL.mv rfl rfl rfl rfl rfl ?_)))
    refine WL.val (.int .i64 (((l.length : Int) - 1 - ((x.2.2 + 1 : Nat) : Int)))) rfl rfl rfl (fun za zC zh zk => subb_3 rfl (zh.ev rfl) (zh.ev rfl) (wrap_eq (by omega) (by omega) (by omega)) zk) ?_
    refine WL.asg rfl rfl rfl rfl rfl (WL.nil ?_)
    refine WE.round ((ra18, rc19, x.2.2 + 1)) ⟨rfl, rfl, rfl, rfl, rfl, rfl, trivial⟩ ?_ ?_
    ·exact ⟨(by (try dsimp only); omega), hb20, hb21, hr22⟩
    ·(try dsimp only); omega
  ·have h6 : ¬ ((0 : Int) ≤ (((l.length : Int) - 1 - ((x.2.2 : Nat) : Int)) : Int)) := by simpa using h6
   refine WC.exit (WE.thenExit (WE.thenExit (WE.blockIs rfl (WE.next (WC.seq ?_)))))
   have hxk0 : x.2.2 = l.length := by omega
   have e7 : x.2.2 = (backP l).length := by rw [backP_len]; exact hxk0
   rw [show Value.slice x.1 x.2.2 x.2.1 = Value.slice x.1 (backP l).length x.2.1 from by rw [e7]]
   refine WC.region (WL.mv rfl rfl rfl rfl rfl ?_)
   have hxk : x.2.2 = l.length := by omega
   have hrr := (ho5).1
   have hnn := hrr.len
   have hri := hrr.inRow
   rw [hxk, List.take_of_length_le (by rw [backP_len]; omega)] at hri hnn hrr
   have hps : IsPs w2 (backP l) x.1 x.2.1 := ⟨hri.1, by rw [← hnn]; exact hri.2.1, hri.2.2⟩
   refine WL.call rfl rfl rfl (fun za zh zC => wp_call (by kernel_rfl) rfl (hv1 (zh.ev rfl))) (ppairs_any (backP l) _ x.1 x.2.1 hps (by rw [backP_len]; exact hlz)) ?_
   rintro _ w23 ⟨⟨bsr, rar, rcr, er, rfl, hPr, hRr, hler, hcmr, h96r⟩, hbnr⟩
   refine WL.mv rfl rfl rfl rfl rfl ?_
   refine WL.val (.slice rar bsr.length rcr) rfl rfl rfl (fun za zC zh zk => ext2_0 rfl (zh.ev rfl) zk) ?_
   refine WL.val (.int .i64 er) rfl rfl rfl (fun za zC zh zk => ext2_1 rfl (zh.ev rfl) zk) ?_
   refine WL.asg rfl rfl rfl rfl rfl (WL.asg rfl rfl rfl rfl rfl (WL.nil (WE.next (WC.seq (WC.seq ?_)))))
   have hb24 : Below w1.heap.size w1 w23 := (bstep hb4 hbnr)
   refine WC.opt [(true, .val (.int .i64 ep)), (true, .val (.int .i64 er)), (true, .val (.bool (((ep : Int) != (er : Int))))), (true, .val (.bool (((ep : Int) != (er : Int))))), ((true && !((ep : Int) != (er : Int))), .val (.slice rap bsp.length rcp)), ((true && !((ep : Int) != (er : Int))), .val (.slice rar bsr.length rcr)), ((true && !((ep : Int) != (er : Int))), .val (.bool ((subSame bsp bsr)))), ((true && !((ep : Int) != (er : Int))), .val (.bool ((!(subSame bsp bsr))))), (true, .val (.bool ((((ep : Int) != (er : Int)) || (!(subSame bsp bsr))))))] [(0, .slice a l.length c), (2, .bool false), (3, .slice rap bsp.length rcp), (4, .int .i64 ep), (5, .slice x.1 ((backP l).length) x.2.1), (6, .int .i64 (((l.length : Int) - 1 - ((x.2.2 : Nat) : Int)))), (7, .slice rar bsr.length rcr), (8, .int .i64 er), (21, .bool ((decide ((0 : Int) ≤ (((l.length : Int) - 1 - ((x.2.2 : Nat) : Int)) : Int)))))] ⟨rfl, rfl, rfl, rfl, rfl, rfl, rfl, rfl, rfl, trivial⟩ (by kernel_rfl) (by kernel_rfl) (by kernel_rfl) ?_ ?_
   ·refine ⟨⟨true, .none rfl, fun h w => optUndef h, fun zβ za zw zc => ?_⟩, ?_⟩
    ·exact wp_move rfl (zc.kn.ev rfl) ⟨_, rfl, Below.refl _ _, optDef zβ rfl⟩
    refine ⟨⟨true, .none rfl, fun h w => optUndef h, fun zβ za zw zc => ?_⟩, ?_⟩
    ·exact wp_move rfl (zc.kn.ev rfl) ⟨_, rfl, Below.refl _ _, optDef zβ rfl⟩
    refine ⟨⟨true, .none rfl, fun h w => optUndef h, fun zβ za zw zc => ?_⟩, ?_⟩
    ·exact neq_25 rfl ((evt za 43).trans (optVal (zc.dep 0 43 (by kernel_rfl)) rfl rfl)) ((evt za 44).trans (optVal (zc.dep 1 44 (by kernel_rfl)) rfl rfl)) ⟨_, rfl, Below.refl _ _, optDef zβ rfl⟩
    refine ⟨⟨true, .none rfl, fun h w => optUndef h, fun zβ za zw zc => ?_⟩, ?_⟩
    ·exact wp_move rfl ((evt za 45).trans (optVal (zc.dep 2 45 (by kernel_rfl)) rfl rfl)) ⟨_, rfl, Below.refl _ _, optDef zβ rfl⟩
    refine ⟨⟨_, .no (c := ((ep : Int) != (er : Int))) (d := true) rfl (fun v w h => h), fun h w => optUndef h, fun zβ za zw zc => ?_⟩, ?_⟩
    ·exact wp_move rfl (zc.kn.ev rfl) ⟨_, rfl, Below.refl _ _, optDef zβ rfl⟩
    refine ⟨⟨_, .no (c := ((ep : Int) != (er : Int))) (d := true) rfl (fun v w h => h), fun h w => optUndef h, fun zβ za zw zc => ?_⟩, ?_⟩
    ·exact wp_move rfl (zc.kn.ev rfl) ⟨_, rfl, Below.refl _ _, optDef zβ rfl⟩
    refine ⟨⟨_, .no (c := ((ep : Int) != (er : Int))) (d := true) rfl (fun v w h => h), fun h w => optUndef h, fun zβ za zw zc => ?_⟩, ?_⟩
    ·exact wp_call (by kernel_rfl) rfl (hv2 ((evt za 47).trans (optVal (zc.dep 4 47 (by kernel_rfl)) rfl zβ)) ((evt za 48).trans (optVal (zc.dep 5 48 (by kernel_rfl)) rfl zβ))) (subSame_any bsp bsr _ rap rar rcp rcr (by unfold maxLen; omega) (InRow.mono (by decide) (fun _ _ _ => trivial) (InRow.below hRp (bstep hb24 zc.below))) (InRow.mono (by decide) (fun _ _ _ => trivial) (InRow.below hRr zc.below))) (fun v w' h => ⟨v, rfl, h.2, optDef zβ h.1⟩)
    refine ⟨⟨_, .no (c := ((ep : Int) != (er : Int))) (d := true) rfl (fun v w h => h), fun h w => optUndef h, fun zβ za zw zc => ?_⟩, ?_⟩
    ·exact wp_not rfl ((evt za 49).trans (optVal (zc.dep 6 49 (by kernel_rfl)) rfl zβ)) ⟨_, rfl, Below.refl _ _, optDef zβ rfl⟩
    refine ⟨⟨true, .none rfl, fun h w => optUndef h, fun zβ za zw zc => ?_⟩, ?_⟩
    ·exact wp_or rfl ((evt za 46).trans (optVal (zc.dep 3 46 (by kernel_rfl)) rfl rfl)) (fun hp => ((evt za 50).trans (optVal (zc.dep 7 50 (by kernel_rfl)) rfl (bMkN zβ hp)))) ⟨_, rfl, Below.refl _ _, optDef zβ rfl⟩
    exact trivial
   ·intro za w25 zh hb26 zu
    have zh := zh.cons (d := 51) (v := .bool ((((ep : Int) != (er : Int)) || (!(subSame bsp bsr))))) (optVal (zu 8 51 (by kernel_rfl)) rfl rfl)
    clear zu
    refine WE.go zh ?_
    refine WE.next ?_
    refine WC.cond rfl (fun h27 => ?_) (fun h27 => ?_)
    ·have h27 : ((ep : Int) ≠ (er : Int)) ∨ (¬ ((subSame bsp bsr) = true)) := by simpa using h27
     obtain ⟨e1, e2⟩ := back_same hPp hPr
     have hss : subSame bsp bsr = true := by unfold subSame; exact decide_eq_true e1
     exact absurd h27 (by rw [e2, hss]; simp)
    ·have h27 : ¬ (((ep : Int) ≠ (er : Int)) ∨ (¬ ((subSame bsp bsr) = true))) := by simpa using h27
     obtain ⟨e1, e2⟩ := back_same hPp hPr
     have hss : subSame bsp bsr = true := by unfold subSame; exact decide_eq_true e1
     refine WC.skip (WE.next (WC.seq (WC.seq (WC.region (WL.mv rfl rfl rfl rfl rfl ?_)))))
     refine WL.val (.bool (((ep : Int) != (0 : Int)))) rfl rfl rfl (fun za zC zh zk => neq_25 rfl (zh.ev rfl) (zh.ev rfl) zk) ?_
     refine WL.nil (WE.next ?_)
     refine WC.cond rfl (fun h28 => ?_) (fun h28 => ?_)
     ·have h28 : (ep : Int) ≠ (0 : Int) := by simpa using h28
      obtain ⟨hm1, hm2⟩ := made_is hPp
      have hbn9 := hm1 (by omega)
      refine WC.seq ?_
      refine WC.opt [(true, .val (.slice rap bsp.length rcp)), (true, .val (.int .i64 (((bsp.length : Nat) : Int)))), (true, .val (.bool (((((bsp.length : Nat) : Int) : Int) == (0 : Int))))), (true, .val (.bool (((((bsp.length : Nat) : Int) : Int) == (0 : Int))))), ((true && ((((bsp.length : Nat) : Int) : Int) == (0 : Int))), .val (.bool true)), (true, .val (.bool ((((((bsp.length : Nat) : Int) : Int) == (0 : Int)) && true)))), (true, .val (.bool ((((((bsp.length : Nat) : Int) : Int) == (0 : Int)) && true))))] [(0, .slice a l.length c), (3, .slice rap bsp.length rcp), (4, .int .i64 ep), (5, .slice x.1 ((backP l).length) x.2.1), (6, .int .i64 (((l.length : Int) - 1 - ((x.2.2 : Nat) : Int)))), (7, .slice rar bsr.length rcr), (8, .int .i64 er), (21, .bool ((decide ((0 : Int) ≤ (((l.length : Int) - 1 - ((x.2.2 : Nat) : Int)) : Int))))), (51, .bool ((((ep : Int) != (er : Int)) || (!(subSame bsp bsr))))), (53, .bool (((ep : Int) != (0 : Int))))] ⟨rfl, rfl, rfl, rfl, rfl, rfl, rfl, rfl, rfl, rfl, trivial⟩ (by kernel_rfl) (by kernel_rfl) (by kernel_rfl) ?_ ?_
      ·refine ⟨⟨true, .none rfl, fun h w => optUndef h, fun zβ za zw zc => ?_⟩, ?_⟩
       ·exact wp_move rfl (zc.kn.ev rfl) ⟨_, rfl, Below.refl _ _, optDef zβ rfl⟩
       refine ⟨⟨true, .none rfl, fun h w => optUndef h, fun zβ za zw zc => ?_⟩, ?_⟩
       ·exact len_24 rfl ((evt za 54).trans (optVal (zc.dep 0 54 (by kernel_rfl)) rfl rfl)) ⟨_, rfl, Below.refl _ _, optDef zβ rfl⟩
       refine ⟨⟨true, .none rfl, fun h w => optUndef h, fun zβ za zw zc => ?_⟩, ?_⟩
       ·exact eql_3 rfl ((evt za 55).trans (optVal (zc.dep 1 55 (by kernel_rfl)) rfl rfl)) (zc.kn.ev rfl) ⟨_, rfl, Below.refl _ _, optDef zβ rfl⟩
       refine ⟨⟨true, .none rfl, fun h w => optUndef h, fun zβ za zw zc => ?_⟩, ?_⟩
       ·exact wp_move rfl ((evt za 56).trans (optVal (zc.dep 2 56 (by kernel_rfl)) rfl rfl)) ⟨_, rfl, Below.refl _ _, optDef zβ rfl⟩
       refine ⟨⟨_, .yes (c := ((((bsp.length : Nat) : Int) : Int) == (0 : Int))) (d := true) rfl (fun v w h => h), fun h w => optUndef h, fun zβ za zw zc => ?_⟩, ?_⟩
       ·exact wp_call (by kernel_rfl) rfl (hv0) (wakes_any _) (fun v w' h => ⟨v, rfl, h.2, optDef zβ h.1⟩)
       refine ⟨⟨true, .none rfl, fun h w => optUndef h, fun zβ za zw zc => ?_⟩, ?_⟩
       ·exact wp_and rfl ((evt za 57).trans (optVal (zc.dep 3 57 (by kernel_rfl)) rfl rfl)) (fun hp => ((evt za 58).trans (optVal (zc.dep 4 58 (by kernel_rfl)) rfl (bMk zβ hp)))) ⟨_, rfl, Below.refl _ _, optDef zβ rfl⟩
       refine ⟨⟨true, .none rfl, fun h w => optUndef h, fun zβ za zw zc => ?_⟩, ?_⟩
       ·exact wp_assign rfl ((evt za 59).trans (optVal (zc.dep 5 59 (by kernel_rfl)) rfl rfl)) ⟨_, rfl, Below.refl _ _, optDef zβ rfl⟩
       exact trivial
      ·intro za w29 zh hb30 zu
       have zh := zh.cons (d := 2) (v := .bool ((((((bsp.length : Nat) : Int) : Int) == (0 : Int)) && true))) (optVal (zu 6 2 (by kernel_rfl)) rfl rfl)
       clear zu
       refine WE.go zh ?_
       refine WE.next (WC.ret (WE.thenRet (WE.ret1 rfl rfl ?_)))
       have hb31 : Below w.heap.size w w29 := (bstep (bstep (bstep hbnp hb24) hb26) hb30)
       exact ⟨_, rfl, by rw [hbn9]; rfl, hb31⟩
     ·have h28 : ¬ ((ep : Int) ≠ (0 : Int)) := by simpa using h28
      obtain ⟨hm1, hm2⟩ := made_is hPp
      have hM := hm2 (by omega)
      have hS0 : IsSub w1 bsp rap rcp := made_sub (InRow.mono (by decide) (fun _ _ _ => trivial) hRp) hlep hcmp h96p hM.small
      refine WC.skip (WE.next (WC.seq (WC.seq (WC.region (WL.mv rfl rfl rfl rfl rfl ?_)))))
      have hb32 : Below w1.heap.size w1 w25 := (bstep hb24 hb26)
      refine WL.call rfl rfl rfl (fun za zh zC => wp_call (by kernel_rfl) rfl (hv1 (zh.ev rfl))) (check_any bsp _ rap rcp hlep hcmp (hS0.below hb32).rows) ?_
      rintro _ w34 ⟨rfl, hq33⟩
      refine WL.val (.bool ((((subCheck bsp) : Int) != (0 : Int)))) rfl rfl rfl (fun za zC zh zk => neq_25 rfl (zh.ev rfl) (zh.ev rfl) zk) ?_
      refine WL.nil (WE.next ?_)
      refine WC.cond rfl (fun h35 => ?_) (fun h35 => ?_)
      ·have h35 : ((subCheck bsp) : Int) ≠ (0 : Int) := by simpa using h35
       rw [hM.check] at h35
       exact absurd h35 (by decide)
      ·have h35 : ¬ (((subCheck bsp) : Int) ≠ (0 : Int)) := by simpa using h35
       refine WC.skip (WE.next (WC.seq (WC.seq (WC.region (WL.mv rfl rfl rfl rfl rfl ?_)))))
       refine WL.val (.int .i64 (((l.length : Nat) : Int))) rfl rfl rfl (fun za zC zh zk => len_22 rfl (zh.ev rfl) zk) ?_
       refine WL.mv rfl rfl rfl rfl rfl (WL.nil (WE.next (WC.block ?_)))
       refine WC.loop (X := Nat) (fun k => l.length - k) (fun k => [(0, .slice a l.length c), (3, .slice rap bsp.length rcp), (4, .int .i64 ep), (5, .slice x.1 ((backP l).length) x.2.1), (6, .int .i64 (((l.length : Int) - 1 - ((x.2.2 : Nat) : Int)))), (7, .slice rar bsr.length rcr), (8, .int .i64 er), (21, .bool ((decide ((0 : Int) ≤ (((l.length : Int) - 1 - ((x.2.2 : Nat) : Int)) : Int))))), (51, .bool ((((ep : Int) != (er : Int)) || (!(subSame bsp bsr))))), (53, .bool (((ep : Int) != (0 : Int)))), (62, .bool ((((subCheck bsp) : Int) != (0 : Int)))), (64, .int .i64 (((l.length : Nat) : Int))), (65, .int .i64 (((k : Nat) : Int)))]) (fun k w36 => k ≤ l.length ∧ Below w.heap.size w w36 ∧ Below w1.heap.size w1 w36 ∧ BR w w1 (w36) x.1 x.2.1 x.2.2 (((backP l).take x.2.2))) 0 ⟨rfl, rfl, rfl, rfl, rfl, rfl, rfl, rfl, rfl, rfl, rfl, rfl, rfl, trivial⟩ ?_ ?_
       ·have hb37 : Below w.heap.size w w34 := (bstep (bstep hbnp hb32) hq33)
        have hb38 : Below w1.heap.size w1 w34 := (bstep hb32 hq33)
        have hb40 : Below w2.heap.size w2 w34 := (bstep (bstep hbnr hb26) hq33)
        have ho39 := ho5.below hb40
        exact ⟨Nat.zero_le _, hb37, hb38, ho39⟩
       ·rintro k w36 ⟨hkk, hb41, hb42, ho43⟩
        refine WC.seq (WC.region ?_)
        refine WL.val (.bool ((decide ((((k : Nat) : Int) : Int) < (((l.length : Nat) : Int) : Int))))) rfl rfl rfl (fun za zC zh zk => lss_3 rfl (zh.ev rfl) (zh.ev rfl) zk) ?_
        refine WL.nil (WE.next (WC.seq ?_))
        refine WC.cond rfl (fun h44 => ?_) (fun h44 => ?_)
        ·have h44 : (((k : Nat) : Int) : Int) < (((l.length : Nat) : Int) : Int) := by simpa using h44
         refine WC.skip (WE.next (WC.seq (WC.block (WC.seq (WC.region (WL.mv rfl rfl rfl rfl rfl (WL.asg rfl rfl rfl rfl rfl (WL.nil (WE.next (WC.seq ?_))))))))))
         obtain ⟨b45, o46, A47, C48, D49, E50, ha51, hc52⟩ := IsPs.open hl
         refine WC.opt [(true, .val (.slice rap bsp.length rcp)), (true, .val (.slice a l.length c)), (true, .val (.int .i64 (((k : Nat) : Int)))), (true, .val (.pointer (some ⟨b45, o46 + k * 4, none⟩))), (true, .val (.pointer (some ⟨b45, o46 + k * 4, none⟩))), (true, .val (.agg #[.int .i64 ((prget l k).1.f), .slice ((A47 k)) ((prget l k).1.args.length) ((C48 k))])), (true, .mem (fun v w' => IsT w' ((prget l k).1.app bsp) v) (fun v w w' hb h => IsT.below hb h)), (true, .val (.slice rap bsp.length rcp)), (true, .val (.slice a l.length c)), (true, .val (.int .i64 (((k : Nat) : Int)))), (true, .val (.pointer (some ⟨b45, o46 + k * 4, none⟩))), (true, .val (.pointer (some ⟨b45, o46 + k * 4 + 2, none⟩))), (true, .val (.agg #[.int .i64 ((prget l k).2.f), .slice ((D49 k)) ((prget l k).2.args.length) ((E50 k))])), (true, .mem (fun v w' => IsT w' ((prget l k).2.app bsp) v) (fun v w w' hb h => IsT.below hb h)), (true, .val (.bool ((T.same ((prget l k).1.app bsp) ((prget l k).2.app bsp))))), (true, .val (.bool ((!(T.same ((prget l k).1.app bsp) ((prget l k).2.app bsp))))))] [(0, .slice a l.length c), (3, .slice rap bsp.length rcp), (4, .int .i64 ep), (5, .slice x.1 ((backP l).length) x.2.1), (6, .int .i64 (((l.length : Int) - 1 - ((x.2.2 : Nat) : Int)))), (7, .slice rar bsr.length rcr), (8, .int .i64 er), (9, .int .i64 (((k : Nat) : Int))), (21, .bool ((decide ((0 : Int) ≤ (((l.length : Int) - 1 - ((x.2.2 : Nat) : Int)) : Int))))), (51, .bool ((((ep : Int) != (er : Int)) || (!(subSame bsp bsr))))), (53, .bool (((ep : Int) != (0 : Int)))), (62, .bool ((((subCheck bsp) : Int) != (0 : Int)))), (64, .int .i64 (((l.length : Nat) : Int))), (65, .int .i64 (((k : Nat) : Int))), (66, .bool ((decide ((((k : Nat) : Int) : Int) < (((l.length : Nat) : Int) : Int)))))] ⟨rfl, rfl, rfl, rfl, rfl, rfl, rfl, rfl, rfl, rfl, rfl, rfl, rfl, rfl, rfl, trivial⟩ (by kernel_rfl) (by kernel_rfl) (by kernel_rfl) ?_ ?_
         ·refine ⟨⟨true, .none rfl, fun h w => optUndef h, fun zβ za zw zc => ?_⟩, ?_⟩
          ·exact wp_move rfl (zc.kn.ev rfl) ⟨_, rfl, Below.refl _ _, optDef zβ rfl⟩
          refine ⟨⟨true, .none rfl, fun h w => optUndef h, fun zβ za zw zc => ?_⟩, ?_⟩
          ·exact wp_move rfl (zc.kn.ev rfl) ⟨_, rfl, Below.refl _ _, optDef zβ rfl⟩
          refine ⟨⟨true, .none rfl, fun h w => optUndef h, fun zβ za zw zc => ?_⟩, ?_⟩
          ·exact wp_move rfl (zc.kn.ev rfl) ⟨_, rfl, Below.refl _ _, optDef zβ rfl⟩
          refine ⟨⟨true, .none rfl, fun h w => optUndef h, fun zβ za zw zc => ?_⟩, ?_⟩
          ·exact ix_22 (k := k) rfl ((evt za 69).trans (optVal (zc.dep 1 69 (by kernel_rfl)) rfl rfl)) (ha51 k (by first | omega | (simp; omega))) ((evt za 70).trans (optVal (zc.dep 2 70 (by kernel_rfl)) rfl rfl)) (by first | omega | (simp; omega)) ⟨_, rfl, Below.refl _ _, optDef zβ rfl⟩
          refine ⟨⟨true, .none rfl, fun h w => optUndef h, fun zβ za zw zc => ?_⟩, ?_⟩
          ·exact ixa_33 (k := 0) rfl ((evt za 71).trans (optVal (zc.dep 3 71 (by kernel_rfl)) rfl rfl)) (zc.kn.ev rfl) (by decide) ⟨_, rfl, Below.refl _ _, optDef zβ rfl⟩
          refine ⟨⟨true, .none rfl, fun h w => optUndef h, fun zβ za zw zc => ?_⟩, ?_⟩
          ·exact ld_32 rfl ((evt za 72).trans (optVal (zc.dep 4 72 (by kernel_rfl)) rfl rfl)) (bkeeps (bstep hb41 zc.below) _ _ (hc52 k (by first | omega | (simp; omega))).1) (bkeeps (bstep hb41 zc.below) _ _ (hc52 k (by first | omega | (simp; omega))).2.1) ⟨_, rfl, Below.refl _ _, optDef zβ rfl⟩
          refine ⟨⟨true, .none rfl, fun h w => optUndef h, fun zβ za zw zc => ?_⟩, ?_⟩
          ·exact wp_call (by kernel_rfl) rfl (hv2 ((evt za 68).trans (optVal (zc.dep 0 68 (by kernel_rfl)) rfl rfl)) ((evt za 73).trans (optVal (zc.dep 5 73 (by kernel_rfl)) rfl rfl))) (apply_any bsp (prget l k).1 _ _ rap rcp (hsz k (by omega)).1 (IsT.below (bstep hb41 zc.below) (hc52 k (by first | omega | (simp; omega))).2.2.2.2.1) (hS0.below (bstep hb42 zc.below))) (fun v w' h => ⟨v, rfl, h.2, optDef zβ (InT.isT h.1)⟩)
          refine ⟨⟨true, .none rfl, fun h w => optUndef h, fun zβ za zw zc => ?_⟩, ?_⟩
          ·exact wp_move rfl (zc.kn.ev rfl) ⟨_, rfl, Below.refl _ _, optDef zβ rfl⟩
          refine ⟨⟨true, .none rfl, fun h w => optUndef h, fun zβ za zw zc => ?_⟩, ?_⟩
          ·exact wp_move rfl (zc.kn.ev rfl) ⟨_, rfl, Below.refl _ _, optDef zβ rfl⟩
          refine ⟨⟨true, .none rfl, fun h w => optUndef h, fun zβ za zw zc => ?_⟩, ?_⟩
          ·exact wp_move rfl (zc.kn.ev rfl) ⟨_, rfl, Below.refl _ _, optDef zβ rfl⟩
          refine ⟨⟨true, .none rfl, fun h w => optUndef h, fun zβ za zw zc => ?_⟩, ?_⟩
          ·exact ix_22 (k := k) rfl ((evt za 76).trans (optVal (zc.dep 8 76 (by kernel_rfl)) rfl rfl)) (ha51 k (by first | omega | (simp; omega))) ((evt za 77).trans (optVal (zc.dep 9 77 (by kernel_rfl)) rfl rfl)) (by first | omega | (simp; omega)) ⟨_, rfl, Below.refl _ _, optDef zβ rfl⟩
          refine ⟨⟨true, .none rfl, fun h w => optUndef h, fun zβ za zw zc => ?_⟩, ?_⟩
          ·exact ixa_33 (k := 1) rfl ((evt za 78).trans (optVal (zc.dep 10 78 (by kernel_rfl)) rfl rfl)) (zc.kn.ev rfl) (by decide) ⟨_, rfl, Below.refl _ _, optDef zβ rfl⟩
          refine ⟨⟨true, .none rfl, fun h w => optUndef h, fun zβ za zw zc => ?_⟩, ?_⟩
          ·exact ld_32 rfl ((evt za 79).trans (optVal (zc.dep 11 79 (by kernel_rfl)) rfl rfl)) (bkeeps (bstep hb41 zc.below) _ _ (hc52 k (by first | omega | (simp; omega))).2.2.1) (bkeeps (bstep hb41 zc.below) _ _ (hc52 k (by first | omega | (simp; omega))).2.2.2.1) ⟨_, rfl, Below.refl _ _, optDef zβ rfl⟩
          refine ⟨⟨true, .none rfl, fun h w => optUndef h, fun zβ za zw zc => ?_⟩, ?_⟩
          ·exact wp_call (by kernel_rfl) rfl (hv2 ((evt za 75).trans (optVal (zc.dep 7 75 (by kernel_rfl)) rfl rfl)) ((evt za 80).trans (optVal (zc.dep 12 80 (by kernel_rfl)) rfl rfl))) (apply_any bsp (prget l k).2 _ _ rap rcp (hsz k (by omega)).2 (IsT.below (bstep hb41 zc.below) (hc52 k (by first | omega | (simp; omega))).2.2.2.2.2) (hS0.below (bstep hb42 zc.below))) (fun v w' h => ⟨v, rfl, h.2, optDef zβ (InT.isT h.1)⟩)
          refine ⟨⟨true, .none rfl, fun h w => optUndef h, fun zβ za zw zc => ?_⟩, ?_⟩
          ·exact wp_call (by kernel_rfl) rfl (hv2 (evt za 74) (evt za 81)) (ret_of (rsame_any ((prget l k).1.app bsp) ((prget l k).2.app bsp) _ _ _ (optMem (zc.dep 6 74 (by kernel_rfl)) rfl rfl) (optMem (zc.dep 13 81 (by kernel_rfl)) rfl rfl))) (fun v w' h => ⟨v, rfl, h.2, optDef zβ h.1⟩)
          refine ⟨⟨true, .none rfl, fun h w => optUndef h, fun zβ za zw zc => ?_⟩, ?_⟩
          ·exact wp_not rfl ((evt za 82).trans (optVal (zc.dep 14 82 (by kernel_rfl)) rfl rfl)) ⟨_, rfl, Below.refl _ _, optDef zβ rfl⟩
          exact trivial
         ·intro za w53 zh hb54 zu
          have zh := zh.cons (d := 83) (v := .bool ((!(T.same ((prget l k).1.app bsp) ((prget l k).2.app bsp))))) (optVal (zu 15 83 (by kernel_rfl)) rfl rfl)
          clear zu
          refine WE.go zh ?_
          refine WE.next ?_
          refine WC.cond rfl (fun h55 => ?_) (fun h55 => ?_)
          ·have h55 : ¬ ((T.same ((prget l k).1.app bsp) ((prget l k).2.app bsp)) = true) := by simpa using h55
           rw [hM.same k (by omega), T.same_refl] at h55
           exact absurd h55 (by decide)
          ·have h55 : ¬ (¬ ((T.same ((prget l k).1.app bsp) ((prget l k).2.app bsp)) = true)) := by simpa using h55
           refine WC.skip (WE.blockNormal (WE.next (WC.region ?_)))
           refine WL.val (.int .i64 ((((k + 1) : Nat) : Int))) rfl rfl rfl (fun za zC zh zk => addb_3 rfl (zh.ev rfl) (zh.ev rfl) (wrap_eq (by omega) (by omega) (by omega)) zk) ?_
           refine WL.mv rfl rfl rfl rfl rfl (WL.nil ?_)
           refine WE.round (k + 1) ⟨rfl, rfl, rfl, rfl, rfl, rfl, rfl, rfl, rfl, rfl, rfl, rfl, rfl, trivial⟩ ?_ ?_
           ·have hb56 : Below w.heap.size w w53 := (bstep hb41 hb54)
            have hb57 : Below w1.heap.size w1 w53 := (bstep hb42 hb54)
            have ho58 := ho43.below hb54
            exact ⟨by omega, hb56, hb57, ho58⟩
           ·omega
        ·have h44 : ¬ ((((k : Nat) : Int) : Int) < (((l.length : Nat) : Int) : Int)) := by simpa using h44
         refine WC.exit (WE.thenExit (WE.thenExit (WE.blockIs rfl (WE.next (WC.seq (WC.seq (WC.region (WL.mv rfl rfl rfl rfl rfl ?_))))))))
         refine WL.val (.int .i64 (((bsp.length : Nat) : Int))) rfl rfl rfl (fun za zC zh zk => len_24 rfl (zh.ev rfl) zk) ?_
         refine WL.mv rfl rfl rfl rfl rfl (WL.nil (WE.next (WC.block ?_)))
         refine WC.loop (X := Nat) (fun i => bsp.length - i) (fun i => [(0, .slice a l.length c), (3, .slice rap bsp.length rcp), (4, .int .i64 ep), (5, .slice x.1 ((backP l).length) x.2.1), (6, .int .i64 (((l.length : Int) - 1 - ((x.2.2 : Nat) : Int)))), (7, .slice rar bsr.length rcr), (8, .int .i64 er), (21, .bool ((decide ((0 : Int) ≤ (((l.length : Int) - 1 - ((x.2.2 : Nat) : Int)) : Int))))), (51, .bool ((((ep : Int) != (er : Int)) || (!(subSame bsp bsr))))), (53, .bool (((ep : Int) != (0 : Int)))), (62, .bool ((((subCheck bsp) : Int) != (0 : Int)))), (64, .int .i64 (((l.length : Nat) : Int))), (65, .int .i64 (((k : Nat) : Int))), (66, .bool ((decide ((((k : Nat) : Int) : Int) < (((l.length : Nat) : Int) : Int))))), (86, .int .i64 (((bsp.length : Nat) : Int))), (87, .int .i64 (((i : Nat) : Int)))]) (fun i w59 => i ≤ bsp.length ∧ Below w.heap.size w w59 ∧ Below w1.heap.size w1 w59 ∧ BR w w1 (w59) x.1 x.2.1 x.2.2 (((backP l).take x.2.2))) 0 ⟨rfl, rfl, rfl, rfl, rfl, rfl, rfl, rfl, rfl, rfl, rfl, rfl, rfl, rfl, rfl, rfl, trivial⟩ ?_ ?_
         ·exact ⟨Nat.zero_le _, hb41, hb42, ho43⟩
         ·rintro i w59 ⟨hki, hb60, hb61, ho62⟩
          refine WC.seq (WC.region ?_)
          refine WL.val (.bool ((decide ((((i : Nat) : Int) : Int) < (((bsp.length : Nat) : Int) : Int))))) rfl rfl rfl (fun za zC zh zk => lss_3 rfl (zh.ev rfl) (zh.ev rfl) zk) ?_
          refine WL.nil (WE.next (WC.seq ?_))
          refine WC.cond rfl (fun h63 => ?_) (fun h63 => ?_)
          ·have h63 : (((i : Nat) : Int) : Int) < (((bsp.length : Nat) : Int) : Int) := by simpa using h63
           refine WC.skip (WE.next (WC.seq (WC.block (WC.seq (WC.region (WL.mv rfl rfl rfl rfl rfl (WL.asg rfl rfl rfl rfl rfl (WL.nil (WE.next (WC.seq (WC.seq ?_)))))))))))
           obtain ⟨b64, o65, A66, C67, ha68, hc69⟩ := InRow.openB hRp
           refine WC.opt [(true, .val (.slice rap bsp.length rcp)), (true, .val (.int .i64 (((i : Nat) : Int)))), (true, .val (.pointer (some ⟨b64, o65 + i * 3, none⟩))), (true, .val (.pointer (some ⟨b64, o65 + i * 3 + 1, none⟩))), (true, .val (.agg #[.int .i64 ((dget bsp i).t.f), .slice ((A66 i)) ((dget bsp i).t.args.length) ((C67 i))])), (true, .val (.slice rap bsp.length rcp)), (true, .val (.int .i64 (((i : Nat) : Int)))), (true, .val (.pointer (some ⟨b64, o65 + i * 3, none⟩))), (true, .val (.pointer (some ⟨b64, o65 + i * 3, none⟩))), (true, .val (.int .i64 ((dget bsp i).var))), (true, .val (.bool ((T.hasB (-1 - (dget bsp i).var) ((dget bsp i).t)))))] [(0, .slice a l.length c), (3, .slice rap bsp.length rcp), (4, .int .i64 ep), (5, .slice x.1 ((backP l).length) x.2.1), (6, .int .i64 (((l.length : Int) - 1 - ((x.2.2 : Nat) : Int)))), (7, .slice rar bsr.length rcr), (8, .int .i64 er), (10, .int .i64 (((i : Nat) : Int))), (21, .bool ((decide ((0 : Int) ≤ (((l.length : Int) - 1 - ((x.2.2 : Nat) : Int)) : Int))))), (51, .bool ((((ep : Int) != (er : Int)) || (!(subSame bsp bsr))))), (53, .bool (((ep : Int) != (0 : Int)))), (62, .bool ((((subCheck bsp) : Int) != (0 : Int)))), (64, .int .i64 (((l.length : Nat) : Int))), (65, .int .i64 (((k : Nat) : Int))), (66, .bool ((decide ((((k : Nat) : Int) : Int) < (((l.length : Nat) : Int) : Int))))), (86, .int .i64 (((bsp.length : Nat) : Int))), (87, .int .i64 (((i : Nat) : Int))), (88, .bool ((decide ((((i : Nat) : Int) : Int) < (((bsp.length : Nat) : Int) : Int)))))] ⟨rfl, rfl, rfl, rfl, rfl, rfl, rfl, rfl, rfl, rfl, rfl, rfl, rfl, rfl, rfl, rfl, rfl, rfl, trivial⟩ (by kernel_rfl) (by kernel_rfl) (by kernel_rfl) ?_ ?_
           ·refine ⟨⟨true, .none rfl, fun h w => optUndef h, fun zβ za zw zc => ?_⟩, ?_⟩
            ·exact wp_move rfl (zc.kn.ev rfl) ⟨_, rfl, Below.refl _ _, optDef zβ rfl⟩
            refine ⟨⟨true, .none rfl, fun h w => optUndef h, fun zβ za zw zc => ?_⟩, ?_⟩
            ·exact wp_move rfl (zc.kn.ev rfl) ⟨_, rfl, Below.refl _ _, optDef zβ rfl⟩
            refine ⟨⟨true, .none rfl, fun h w => optUndef h, fun zβ za zw zc => ?_⟩, ?_⟩
            ·exact ix_24 (k := i) rfl ((evt za 90).trans (optVal (zc.dep 0 90 (by kernel_rfl)) rfl rfl)) (ha68 i (by first | omega | (simp; omega))) ((evt za 91).trans (optVal (zc.dep 1 91 (by kernel_rfl)) rfl rfl)) (by first | omega | (simp; omega)) ⟨_, rfl, Below.refl _ _, optDef zβ rfl⟩
            refine ⟨⟨true, .none rfl, fun h w => optUndef h, fun zβ za zw zc => ?_⟩, ?_⟩
            ·exact fld_41_1 rfl ((evt za 92).trans (optVal (zc.dep 2 92 (by kernel_rfl)) rfl rfl)) ⟨_, rfl, Below.refl _ _, optDef zβ rfl⟩
            refine ⟨⟨true, .none rfl, fun h w => optUndef h, fun zβ za zw zc => ?_⟩, ?_⟩
            ·exact ld_32 rfl ((evt za 93).trans (optVal (zc.dep 3 93 (by kernel_rfl)) rfl rfl)) (bkeeps (bstep hb61 zc.below) _ _ (hc69 i (by first | omega | (simp; omega))).2.1) (bkeeps (bstep hb61 zc.below) _ _ (hc69 i (by first | omega | (simp; omega))).2.2.1) ⟨_, rfl, Below.refl _ _, optDef zβ rfl⟩
            refine ⟨⟨true, .none rfl, fun h w => optUndef h, fun zβ za zw zc => ?_⟩, ?_⟩
            ·exact wp_move rfl (zc.kn.ev rfl) ⟨_, rfl, Below.refl _ _, optDef zβ rfl⟩
            refine ⟨⟨true, .none rfl, fun h w => optUndef h, fun zβ za zw zc => ?_⟩, ?_⟩
            ·exact wp_move rfl (zc.kn.ev rfl) ⟨_, rfl, Below.refl _ _, optDef zβ rfl⟩
            refine ⟨⟨true, .none rfl, fun h w => optUndef h, fun zβ za zw zc => ?_⟩, ?_⟩
            ·exact ix_24 (k := i) rfl ((evt za 95).trans (optVal (zc.dep 5 95 (by kernel_rfl)) rfl rfl)) (ha68 i (by first | omega | (simp; omega))) ((evt za 96).trans (optVal (zc.dep 6 96 (by kernel_rfl)) rfl rfl)) (by first | omega | (simp; omega)) ⟨_, rfl, Below.refl _ _, optDef zβ rfl⟩
            refine ⟨⟨true, .none rfl, fun h w => optUndef h, fun zβ za zw zc => ?_⟩, ?_⟩
            ·exact fld_41_0 rfl ((evt za 97).trans (optVal (zc.dep 7 97 (by kernel_rfl)) rfl rfl)) ⟨_, rfl, Below.refl _ _, optDef zβ rfl⟩
            refine ⟨⟨true, .none rfl, fun h w => optUndef h, fun zβ za zw zc => ?_⟩, ?_⟩
            ·exact ld_3 rfl ((evt za 98).trans (optVal (zc.dep 8 98 (by kernel_rfl)) rfl rfl)) (bkeeps (bstep hb61 zc.below) _ _ (hc69 i (by first | omega | (simp; omega))).1) ⟨_, rfl, Below.refl _ _, optDef zβ rfl⟩
            refine ⟨⟨true, .none rfl, fun h w => optUndef h, fun zβ za zw zc => ?_⟩, ?_⟩
            ·exact wp_call (by kernel_rfl) rfl (hv2 ((evt za 94).trans (optVal (zc.dep 4 94 (by kernel_rfl)) rfl rfl)) ((evt za 99).trans (optVal (zc.dep 9 99 (by kernel_rfl)) rfl rfl))) (has_any ((dget bsp i).var) (by have z := hM.vars _ (dget_mem (l := bsp) (k := i) (by omega)); omega) ((dget bsp i).t) _ _ (IsT.below (bstep hb61 zc.below) (InT.isT (hc69 i (by first | omega | (simp; omega))).2.2.2.1))) (fun v w' h => ⟨v, rfl, h.2, optDef zβ h.1⟩)
            exact trivial
           ·intro za w70 zh hb71 zu
            have zh := zh.cons (d := 100) (v := .bool ((T.hasB (-1 - (dget bsp i).var) ((dget bsp i).t)))) (optVal (zu 10 100 (by kernel_rfl)) rfl rfl)
            clear zu
            refine WE.go zh ?_
            refine WE.next ?_
            refine WC.cond rfl (fun h72 => ?_) (fun h72 => ?_)
            ·skip
             rw [hM.has i i (by omega) (by omega)] at h72
             exact absurd h72 (by decide)
            ·skip
             refine WC.skip (WE.next (WC.seq (WC.region (WL.mv rfl rfl rfl rfl rfl ?_))))
             refine WL.val (.int .i64 (((bsp.length : Nat) : Int))) rfl rfl rfl (fun za zC zh zk => len_24 rfl (zh.ev rfl) zk) ?_
             refine WL.mv rfl rfl rfl rfl rfl (WL.nil (WE.next (WC.block ?_)))
             refine WC.loop (X := Nat) (fun j => bsp.length - j) (fun j => [(0, .slice a l.length c), (3, .slice rap bsp.length rcp), (4, .int .i64 ep), (5, .slice x.1 ((backP l).length) x.2.1), (6, .int .i64 (((l.length : Int) - 1 - ((x.2.2 : Nat) : Int)))), (7, .slice rar bsr.length rcr), (8, .int .i64 er), (10, .int .i64 (((i : Nat) : Int))), (21, .bool ((decide ((0 : Int) ≤ (((l.length : Int) - 1 - ((x.2.2 : Nat) : Int)) : Int))))), (51, .bool ((((ep : Int) != (er : Int)) || (!(subSame bsp bsr))))), (53, .bool (((ep : Int) != (0 : Int)))), (62, .bool ((((subCheck bsp) : Int) != (0 : Int)))), (64, .int .i64 (((l.length : Nat) : Int))), (65, .int .i64 (((k : Nat) : Int))), (66, .bool ((decide ((((k : Nat) : Int) : Int) < (((l.length : Nat) : Int) : Int))))), (86, .int .i64 (((bsp.length : Nat) : Int))), (87, .int .i64 (((i : Nat) : Int))), (88, .bool ((decide ((((i : Nat) : Int) : Int) < (((bsp.length : Nat) : Int) : Int))))), (100, .bool ((T.hasB (-1 - (dget bsp i).var) ((dget bsp i).t)))), (102, .int .i64 (((bsp.length : Nat) : Int))), (103, .int .i64 (((j : Nat) : Int)))]) (fun j w73 => j ≤ bsp.length ∧ Below w.heap.size w w73 ∧ Below w1.heap.size w1 w73 ∧ BR w w1 (w73) x.1 x.2.1 x.2.2 (((backP l).take x.2.2))) 0 ⟨rfl, rfl, rfl, rfl, rfl, rfl, rfl, rfl, rfl, rfl, rfl, rfl, rfl, rfl, rfl, rfl, rfl, rfl, rfl, rfl, rfl, trivial⟩ ?_ ?_
             ·have hb74 : Below w.heap.size w w70 := (bstep hb60 hb71)
              have hb75 : Below w1.heap.size w1 w70 := (bstep hb61 hb71)
              have ho76 := ho62.below hb71
              exact ⟨Nat.zero_le _, hb74, hb75, ho76⟩
             ·rintro j w73 ⟨hkj, hb77, hb78, ho79⟩
              refine WC.seq (WC.region ?_)
              refine WL.val (.bool ((decide ((((j : Nat) : Int) : Int) < (((bsp.length : Nat) : Int) : Int))))) rfl rfl rfl (fun za zC zh zk => lss_3 rfl (zh.ev rfl) (zh.ev rfl) zk) ?_
              refine WL.nil (WE.next (WC.seq ?_))
              refine WC.cond rfl (fun h80 => ?_) (fun h80 => ?_)
              ·have h80 : (((j : Nat) : Int) : Int) < (((bsp.length : Nat) : Int) : Int) := by simpa using h80
               refine WC.skip (WE.next (WC.seq (WC.block (WC.seq (WC.region (WL.mv rfl rfl rfl rfl rfl (WL.asg rfl rfl rfl rfl rfl (WL.nil (WE.next (WC.seq ?_))))))))))
               refine WC.opt [(true, .val (.slice rap bsp.length rcp)), (true, .val (.int .i64 (((j : Nat) : Int)))), (true, .val (.pointer (some ⟨b64, o65 + j * 3, none⟩))), (true, .val (.pointer (some ⟨b64, o65 + j * 3 + 1, none⟩))), (true, .val (.agg #[.int .i64 ((dget bsp j).t.f), .slice ((A66 j)) ((dget bsp j).t.args.length) ((C67 j))])), (true, .val (.slice rap bsp.length rcp)), (true, .val (.int .i64 (((i : Nat) : Int)))), (true, .val (.pointer (some ⟨b64, o65 + i * 3, none⟩))), (true, .val (.pointer (some ⟨b64, o65 + i * 3, none⟩))), (true, .val (.int .i64 ((dget bsp i).var))), (true, .val (.bool ((T.hasB (-1 - (dget bsp i).var) ((dget bsp j).t)))))] [(0, .slice a l.length c), (3, .slice rap bsp.length rcp), (4, .int .i64 ep), (5, .slice x.1 ((backP l).length) x.2.1), (6, .int .i64 (((l.length : Int) - 1 - ((x.2.2 : Nat) : Int)))), (7, .slice rar bsr.length rcr), (8, .int .i64 er), (10, .int .i64 (((i : Nat) : Int))), (11, .int .i64 (((j : Nat) : Int))), (21, .bool ((decide ((0 : Int) ≤ (((l.length : Int) - 1 - ((x.2.2 : Nat) : Int)) : Int))))), (51, .bool ((((ep : Int) != (er : Int)) || (!(subSame bsp bsr))))), (53, .bool (((ep : Int) != (0 : Int)))), (62, .bool ((((subCheck bsp) : Int) != (0 : Int)))), (64, .int .i64 (((l.length : Nat) : Int))), (65, .int .i64 (((k : Nat) : Int))), (66, .bool ((decide ((((k : Nat) : Int) : Int) < (((l.length : Nat) : Int) : Int))))), (86, .int .i64 (((bsp.length : Nat) : Int))), (87, .int .i64 (((i : Nat) : Int))), (88, .bool ((decide ((((i : Nat) : Int) : Int) < (((bsp.length : Nat) : Int) : Int))))), (100, .bool ((T.hasB (-1 - (dget bsp i).var) ((dget bsp i).t)))), (102, .int .i64 (((bsp.length : Nat) : Int))), (103, .int .i64 (((j : Nat) : Int))), (104, .bool ((decide ((((j : Nat) : Int) : Int) < (((bsp.length : Nat) : Int) : Int)))))] ⟨rfl, rfl, rfl, rfl, rfl, rfl, rfl, rfl, rfl, rfl, rfl, rfl, rfl, rfl, rfl, rfl, rfl, rfl, rfl, rfl, rfl, rfl, rfl, trivial⟩ (by kernel_rfl) (by kernel_rfl) (by kernel_rfl) ?_ ?_
               ·refine ⟨⟨true, .none rfl, fun h w => optUndef h, fun zβ za zw zc => ?_⟩, ?_⟩
                ·exact wp_move rfl (zc.kn.ev rfl) ⟨_, rfl, Below.refl _ _, optDef zβ rfl⟩
                refine ⟨⟨true, .none rfl, fun h w => optUndef h, fun zβ za zw zc => ?_⟩, ?_⟩
                ·exact wp_move rfl (zc.kn.ev rfl) ⟨_, rfl, Below.refl _ _, optDef zβ rfl⟩
                refine ⟨⟨true, .none rfl, fun h w => optUndef h, fun zβ za zw zc => ?_⟩, ?_⟩
                ·exact ix_24 (k := j) rfl ((evt za 106).trans (optVal (zc.dep 0 106 (by kernel_rfl)) rfl rfl)) (ha68 j (by first | omega | (simp; omega))) ((evt za 107).trans (optVal (zc.dep 1 107 (by kernel_rfl)) rfl rfl)) (by first | omega | (simp; omega)) ⟨_, rfl, Below.refl _ _, optDef zβ rfl⟩
                refine ⟨⟨true, .none rfl, fun h w => optUndef h, fun zβ za zw zc => ?_⟩, ?_⟩
                ·exact fld_41_1 rfl ((evt za 108).trans (optVal (zc.dep 2 108 (by kernel_rfl)) rfl rfl)) ⟨_, rfl, Below.refl _ _, optDef zβ rfl⟩
                refine ⟨⟨true, .none rfl, fun h w => optUndef h, fun zβ za zw zc => ?_⟩, ?_⟩
                ·exact ld_32 rfl ((evt za 109).trans (optVal (zc.dep 3 109 (by kernel_rfl)) rfl rfl)) (bkeeps (bstep hb78 zc.below) _ _ (hc69 j (by first | omega | (simp; omega))).2.1) (bkeeps (bstep hb78 zc.below) _ _ (hc69 j (by first | omega | (simp; omega))).2.2.1) ⟨_, rfl, Below.refl _ _, optDef zβ rfl⟩
                refine ⟨⟨true, .none rfl, fun h w => optUndef h, fun zβ za zw zc => ?_⟩, ?_⟩
                ·exact wp_move rfl (zc.kn.ev rfl) ⟨_, rfl, Below.refl _ _, optDef zβ rfl⟩
                refine ⟨⟨true, .none rfl, fun h w => optUndef h, fun zβ za zw zc => ?_⟩, ?_⟩
                ·exact wp_move rfl (zc.kn.ev rfl) ⟨_, rfl, Below.refl _ _, optDef zβ rfl⟩
                refine ⟨⟨true, .none rfl, fun h w => optUndef h, fun zβ za zw zc => ?_⟩, ?_⟩
                ·exact ix_24 (k := i) rfl ((evt za 111).trans (optVal (zc.dep 5 111 (by kernel_rfl)) rfl rfl)) (ha68 i (by first | omega | (simp; omega))) ((evt za 112).trans (optVal (zc.dep 6 112 (by kernel_rfl)) rfl rfl)) (by first | omega | (simp; omega)) ⟨_, rfl, Below.refl _ _, optDef zβ rfl⟩
                refine ⟨⟨true, .none rfl, fun h w => optUndef h, fun zβ za zw zc => ?_⟩, ?_⟩
                ·exact fld_41_0 rfl ((evt za 113).trans (optVal (zc.dep 7 113 (by kernel_rfl)) rfl rfl)) ⟨_, rfl, Below.refl _ _, optDef zβ rfl⟩
                refine ⟨⟨true, .none rfl, fun h w => optUndef h, fun zβ za zw zc => ?_⟩, ?_⟩
                ·exact ld_3 rfl ((evt za 114).trans (optVal (zc.dep 8 114 (by kernel_rfl)) rfl rfl)) (bkeeps (bstep hb78 zc.below) _ _ (hc69 i (by first | omega | (simp; omega))).1) ⟨_, rfl, Below.refl _ _, optDef zβ rfl⟩
                refine ⟨⟨true, .none rfl, fun h w => optUndef h, fun zβ za zw zc => ?_⟩, ?_⟩
                ·exact wp_call (by kernel_rfl) rfl (hv2 ((evt za 110).trans (optVal (zc.dep 4 110 (by kernel_rfl)) rfl rfl)) ((evt za 115).trans (optVal (zc.dep 9 115 (by kernel_rfl)) rfl rfl))) (has_any ((dget bsp i).var) (by have z := hM.vars _ (dget_mem (l := bsp) (k := i) (by omega)); omega) ((dget bsp j).t) _ _ (IsT.below (bstep hb78 zc.below) (InT.isT (hc69 j (by first | omega | (simp; omega))).2.2.2.1))) (fun v w' h => ⟨v, rfl, h.2, optDef zβ h.1⟩)
                exact trivial
               ·intro za w81 zh hb82 zu
                have zh := zh.cons (d := 116) (v := .bool ((T.hasB (-1 - (dget bsp i).var) ((dget bsp j).t)))) (optVal (zu 10 116 (by kernel_rfl)) rfl rfl)
                clear zu
                refine WE.go zh ?_
                refine WE.next ?_
                refine WC.cond rfl (fun h83 => ?_) (fun h83 => ?_)
                ·skip
                 rw [hM.has i j (by omega) (by omega)] at h83
                 exact absurd h83 (by decide)
                ·skip
                 refine WC.skip (WE.blockNormal (WE.next (WC.region ?_)))
                 refine WL.val (.int .i64 ((((j + 1) : Nat) : Int))) rfl rfl rfl (fun za zC zh zk => addb_3 rfl (zh.ev rfl) (zh.ev rfl) (wrap_eq (by omega) (by omega) (by omega)) zk) ?_
                 refine WL.mv rfl rfl rfl rfl rfl (WL.nil ?_)
                 refine WE.round (j + 1) ⟨rfl, rfl, rfl, rfl, rfl, rfl, rfl, rfl, rfl, rfl, rfl, rfl, rfl, rfl, rfl, rfl, rfl, rfl, rfl, rfl, rfl, trivial⟩ ?_ ?_
                 ·have hb84 : Below w.heap.size w w81 := (bstep hb77 hb82)
                  have hb85 : Below w1.heap.size w1 w81 := (bstep hb78 hb82)
                  have ho86 := ho79.below hb82
                  exact ⟨by omega, hb84, hb85, ho86⟩
                 ·omega
              ·have h80 : ¬ ((((j : Nat) : Int) : Int) < (((bsp.length : Nat) : Int) : Int)) := by simpa using h80
               refine WC.exit (WE.thenExit (WE.thenExit (WE.blockIs rfl (WE.blockNormal (WE.next (WC.region ?_))))))
               refine WL.val (.int .i64 ((((i + 1) : Nat) : Int))) rfl rfl rfl (fun za zC zh zk => addb_3 rfl (zh.ev rfl) (zh.ev rfl) (wrap_eq (by omega) (by omega) (by omega)) zk) ?_
               refine WL.mv rfl rfl rfl rfl rfl (WL.nil ?_)
               refine WE.round (i + 1) ⟨rfl, rfl, rfl, rfl, rfl, rfl, rfl, rfl, rfl, rfl, rfl, rfl, rfl, rfl, rfl, rfl, trivial⟩ ?_ ?_
               ·exact ⟨by omega, hb77, hb78, ho79⟩
               ·omega
          ·have h63 : ¬ ((((i : Nat) : Int) : Int) < (((bsp.length : Nat) : Int) : Int)) := by simpa using h63
           refine WC.exit (WE.thenExit (WE.thenExit (WE.blockIs rfl (WE.next (WC.seq (WC.region ?_))))))
           refine WL.call rfl rfl rfl (fun za zh zC => wp_call (by kernel_rfl) rfl (hv0)) (wakes_any _) ?_
           rintro _ w88 ⟨rfl, hq87⟩
           refine WL.asg rfl rfl rfl rfl rfl (WL.nil (WE.next (WC.ret (WE.ret1 rfl rfl ?_))))
           have hb89 : Below w.heap.size w w88 := (bstep hb60 hq87)
           exact ⟨_, rfl, rfl, hb89⟩
end Go.Proofs.Ythhgidliopohcaa

/- Rows of things of several cells, how they lie in memory. -/
namespace Go.Proofs.Ythhgidliopohcaa
open Go.RowKit
/-- The row at 'a' holds the things 'l', 'k' cells each. -/
def IsRow {α : Type} (w : World) (k : Nat) (R : World → α → List Value → Prop) (l : List α) (a : Option Addr) : Prop :=
  ∀ i (hi : i < l.length), ∃ (b o : Nat) (cs : List Value), a = some ⟨b, o, none⟩ ∧ cs.length = k ∧ (∀ j, j < k → w.cell? ⟨b, o + i * k + j, none⟩ = cs[j]?) ∧ R w l[i] cs
theorem IsRow.keep {α : Type} {w w' : World} {k : Nat} {R : World → α → List Value → Prop} {l : List α} {a : Option Addr} (h : IsRow w k R l a) (hb : Below w.heap.size w w') (hR : ∀ x cs, R w x cs → R w' x cs) : IsRow w' k R l a := by
  intro i hi
  obtain ⟨b, o, cs, h1, h2, h3, h4⟩ := h i hi
  refine ⟨b, o, cs, h1, h2, fun j hj => ?_, hR _ _ h4⟩
  have := h3 j hj
  rw [List.getElem?_eq_getElem (by omega)] at this ⊢
  exact bkeeps hb _ _ this
section
variable {H : Type} {enc : TypeId × Value → H} {P : Program} {w : World} {base : Nat} {spare : Nat → Bool} {held : Bool}
/-- A slice opened: its things, one by one. -/
theorem open_row {α : Type} [Inhabited α] {t e : TypeId} {k : Nat} {fuel : Nat} {cs : List Value} {x : DataW H × List MemPlace} (ht : P.underlying t = some (.slice e)) (hC : P.cellsOf e = k) (hk : 0 < k)
    (h : DataW.trod enc P w base spare held fuel t cs = some x) {R : World → α → List Value → Prop} {S : α → DataW H → Prop}
    (hel : ∀ n cs x, DataW.trod enc P w base spare held n e cs = some x → ∃ a : α, R w a cs ∧ S a x.1) :
    ∃ (l : List α) (a : Option Addr) (cap : Nat) (ds sp : List (DataW H)), cs = [.slice a l.length cap] ∧ l.length ≤ cap ∧ cap ≤ maxLen ∧ IsRow w k R l a ∧ ds.length = l.length ∧ (x.1 = .nil ∧ l = [] ∧ ds = [] ∨ x.1 = .slice ds sp) ∧
      ∀ i (hi : i < l.length) (hd : i < ds.length), S l[i] ds[i] := by
  rcases DataW.trod_slice ht h with ⟨rfl, rfl⟩ | ⟨a, len, cap, elems, rest, m, rfl, rfl, rfl, hb, hlc, hcm, hlen, hat, _, _⟩
  · exact ⟨[], none, 0, [], [], rfl, Nat.le_refl _, Nat.zero_le _, fun i hi => absurd hi (by simp), rfl, .inl ⟨rfl, rfl, rfl⟩, fun i hi => absurd hi (by simp)⟩
  · have hspot : 0 < len → ∃ b o, a = ⟨b, o, none⟩ := by
      intro h0
      have hk := hat 0 h0
      rw [hC, List.getElem?_eq_getElem (by omega)] at hk
      obtain ⟨cs', h1, _⟩ := Option.bind_eq_some_iff.1 hk
      obtain ⟨_, hl', hcell⟩ := World.cells?_some h1
      have c0 := hcell 0 (by omega)
      rw [List.getElem?_eq_getElem (by omega)] at c0
      have := World.cell?_spot c0
      obtain ⟨b, o, spot⟩ := a
      exact ⟨b, o, by simpa [Addr.add] using this⟩
    have key : ∀ i, i < len → ∃ t : α, (∃ (b o : Nat) (cs : List Value), some a = some ⟨b, o, none⟩ ∧ cs.length = k ∧ (∀ j, j < k → w.cell? ⟨b, o + i * k + j, none⟩ = cs[j]?) ∧ R w t cs) ∧
        ∀ (hd : i < elems.length), S t elems[i].1 := by
      intro i hi
      have hk := hat i hi
      rw [hC, List.getElem?_eq_getElem (by omega)] at hk
      obtain ⟨cs', h1, h2⟩ := Option.bind_eq_some_iff.1 hk
      obtain ⟨t, hR, hS⟩ := hel _ _ _ h2
      obtain ⟨_, hl', hcell⟩ := World.cells?_some h1
      obtain ⟨b, o, rfl⟩ := hspot (by omega)
      refine ⟨t, ⟨b, o, cs', rfl, hl', fun j hj => ?_, hR⟩, fun _ => hS⟩
      have := hcell j hj
      rwa [add_plain2, add_plain2] at this
    obtain ⟨F, hF⟩ := Go.Deep.choose_lt key
    have hLL : ((List.range len).map F).length = len := by simp
    refine ⟨(List.range len).map F, some a, cap, elems.map (·.1), rest.map (·.1), by rw [hLL], by rw [hLL]; exact hlc, hcm, fun i hi => ?_, by rw [hLL]; simpa using hlen, .inr rfl, fun i hi hd => ?_⟩
    · have := (hF i (by simpa using hi)).1
      simpa using this
    · have := (hF i (by simpa using hi)).2 (by simpa using hd)
      simpa using this
end
end Go.Proofs.Ythhgidliopohcaa

/- What a law's statement asks behind its call, where the call answers true and leaves all that was there as it was. -/
namespace Go.Proofs.Ythhgidliopohcaa
open Go.ChangeShapes Go.WideShapes Go.ChangeAt Go.RowKit
section
variable {H : Type} {enc : TypeId × Value → H} {P : Program}
theorem trodAll_below (hl : laidOutB P = true) {W W' : World} (hb : Below W.heap.size W W') : ∀ {ts : List TypeId} {vs : List Value} {ds : List (DataW H)} {ps : List MemPlace},
    (∀ t ∈ ts, P.readableRec t = true ∧ t < P.types.size) → (∀ x ∈ ps, x.block < W.heap.size) → DataW.TrodAll enc P W 0 (fun _ => true) true ts vs ds ps →
    DataW.TrodAll enc P W' 0 (fun b => decide (b < W.heap.size)) true ts vs ds ps
  | [], [], [], _, _, _, h => h
  | t :: ts, v :: vs, d :: ds, ps, hr, hlt, ⟨p, q, h1, h2, e⟩ => by
    subst e
    exact ⟨p, q, Below.trod hl (hr t (by simp)).1 (hr t (by simp)).2 h1 hb (fun x hx => hlt x (by simp [hx])), trodAll_below hl hb (fun t ht => hr t (by simp [ht])) (fun x hx => hlt x (by simp [hx])) h2, rfl⟩
  | [], _ :: _, _, _, _, _, h => h.elim
  | [], [], _ :: _, _, _, _, h => h.elim
  | _ :: _, [], _, _, _, _, h => h.elim
  | _ :: _, _ :: _, [], _, _, _, h => h.elim
theorem law_post {f : Func} {s : ChangeSpec} {W W' : World} {args : Array Value} {ds gs : List (DataW H)} {before : List MemPlace} {tb : TypeId} (hl : laidOutB P = true) (hr : ∀ t ∈ f.params.toList, P.readableRec t = true ∧ t < P.types.size)
    (htb : P.underlying tb = some .bool) (hrt : f.resultTypes = #[tb]) (hv : s.vars = []) (hs : s.fn H ds = { results := [.lit (.bool true)], args := ds })
    (hW : DataW.Whole enc P f.params.toList s.vars false W args.toList ds gs before) (hb : Below W.heap.size W W') : s.post enc P f false true false false W args (.bool true) W' := by
  have hlt : ∀ p ∈ before, p.block < W.heap.size := fun p hp => hW.lt p hp
  have hW0 := hW
  obtain ⟨p, q, hA, hV, hpq, _, _⟩ := hW
  rw [hv] at hV
  obtain ⟨rfl, rfl⟩ := trodVars_none hV
  refine ⟨ds, [], before, [], p, [], hW0, ?_, ?_, ?_, hb.frame _, fun h => by cases h⟩
  · rw [List.append_nil, hs, hrt]
    exact trodAll_cons_mk (shut_bool htb _) trodAll_mk0
  · rw [List.append_nil, hs]
    refine trodAll_below hl hb hr (fun x hx => hlt x ?_) hA
    rw [hpq]; simp [hx]
  · rw [List.append_nil, hv]
    have : (s.fn H ds).vars = [] := by rw [hs]
    rw [this]
    rfl
end
end Go.Proofs.Ythhgidliopohcaa

/- Arguments of a law, opened: terms, integers, truth values; rows in general. -/
namespace Go.Proofs.Ythhgidliopohcaa
open Go.ChangeShapes Go.WideShapes Go.ChangeAt Go.RowKit
theorem own : ownKnob Try.prog.godebug = none := by kernel_rfl
theorem one_le_bulk {H : Type} (d : DataW H) : 1 ≤ Rows.uptoBulk d := by
  cases d with
  | lit l => cases l <;> simp [Rows.uptoBulk]
  | _ => simp [Rows.uptoBulk]
theorem len_le_bulk {H : Type} (ds : List (DataW H)) : ds.length ≤ Rows.uptoBulkAll ds := by
  induction ds with
  | nil => simp
  | cons d r ih => have := one_le_bulk d; simp only [List.length_cons, Rows.uptoBulkAll]; omega
theorem readable_all {P : Program} {ts : List TypeId} (h : (ts.all fun t => P.readableRec t && Nat.blt t P.types.size) = true) : ∀ t ∈ ts, P.readableRec t = true ∧ t < P.types.size := by
  intro t ht
  have := List.all_eq_true.1 h t ht
  simp only [Bool.and_eq_true, Nat.blt_eq] at this
  exact this
theorem bulk_mem {H : Type} {l : List (DataW H)} (hk : Rows.uptoSmall H l = true) {d : DataW H} (h : d ∈ l) : Rows.uptoBulk d ≤ 1048576 :=
  Nat.le_trans (bulkAll_le h) (of_decide_eq_true hk)
section
variable {H : Type} {enc : TypeId × Value → H} {w : World} {base : Nat} {spare : Nat → Bool} {held : Bool}
theorem bulk_at {H : Type} : ∀ {ds : List (DataW H)} {d : DataW H}, d ∈ ds → Rows.uptoBulk d ≤ Rows.uptoBulkAll ds
  | [], _, h => nomatch h
  | x :: r, d, h => by
    rw [Rows.uptoBulkAll]
    rcases List.mem_cons.1 h with rfl | h
    · omega
    · have := bulk_at h; omega
/-- A row that was opened, as the rows of elements have it. -/
theorem inRow_of {α : Type} {E : Elt α} {R : World → α → List Value → Prop} {l : List α} {a : Option Addr} (hR : ∀ x cs, R w x cs → E.In (fun _ => True) w x cs) (h : IsRow w E.k R l a) : InRow E (fun _ => True) w l a := fun i hi => by
  obtain ⟨b, o, cs, h1, _, h3, h4⟩ := h i hi
  exact ⟨b, o, cs, h1, trivial, hR _ _ h4, h3⟩
theorem IsT.inTrue {t : T} {v : Value} (h : IsT w t v) : InT (fun _ => True) w t v := InT.mono (fun _ _ _ => trivial) (IsT.inT h)
end
end Go.Proofs.Ythhgidliopohcaa

namespace Go.Proofs.Ythhgidliopohcaa
open Go.ChangeShapes Go.WideShapes Go.ChangeAt Go.RowKit
section
variable {H : Type} {enc : TypeId × Value → H} {w : World} {base : Nat} {spare : Nat → Bool} {held : Bool}
instance : Inhabited (T × T) := ⟨(.mk 0 [], .mk 0 [])⟩
def IsPrC (w : World) (x : T × T) (cs : List Value) : Prop := eltD.In (fun _ => True) w x cs
set_option maxRecDepth 100000 in
theorem open_Pr (fuel : Nat) (cs : List Value) (x : DataW H × List MemPlace) (h : DataW.trod enc Try.prog w base spare held fuel 33 cs = some x) :
    ∃ y : T × T, IsPrC w y cs ∧ y.1.size + y.2.size ≤ Rows.uptoBulk x.1 := by
  have hC : Try.prog.cellsOf 33 = 4 := by kernel_rfl
  have hC32 : Try.prog.cellsOf 32 = 2 := by kernel_rfl
  obtain ⟨xs, n, rfl, rfl, hl, hlen, hf⟩ := DataW.trod_array Try.underlying33 h
  rw [hC] at hl
  match xs, hlen, cs, hl with
  | [y0, y1], _, [c0, c1, c2, c3], _ =>
    have g0 : DataW.trod enc Try.prog w base spare held n 32 [c0, c1] = some y0 := by simpa [hC32] using hf 0 (by decide)
    have g1 : DataW.trod enc Try.prog w base spare held n 32 [c2, c3] = some y1 := by simpa [hC32] using hf 1 (by decide)
    obtain ⟨t1, u1, u2, e1, h1, s1⟩ := open_T _ _ _ g0
    obtain ⟨t2, u3, u4, e2, h2, s2⟩ := open_T _ _ _ g1
    simp only [List.cons.injEq, and_true] at e1 e2
    obtain ⟨rfl, rfl⟩ := e1
    obtain ⟨rfl, rfl⟩ := e2
    exact ⟨(t1, t2), ⟨_, _, _, _, rfl, h1.inTrue, h2.inTrue⟩, by simp only [List.map_cons, List.map_nil, Rows.uptoBulk, Rows.uptoBulkAll]; omega⟩
set_option maxRecDepth 100000 in
theorem arg_Ps {r : Reach} {b : Nat} {v : Value} {d : DataW H} {p : List MemPlace} (h : Value.okWide Try.prog w r b 22 v) (ht : DataW.Trod enc Try.prog w base spare held 22 v d p) (hk : Rows.uptoBulk d ≤ 1048576) :
    ∃ (l : List (T × T)) (a : Option Addr) (c : Nat), v = .slice a l.length c ∧ IsPs w l a c ∧ l.length ≤ 1048576 ∧ ∀ k, k < l.length → (prget l k).1.size ≤ 4294967296 ∧ (prget l k).2.size ≤ 4294967296 := by
  obtain ⟨a, n, c, rfl⟩ := okWide_slice Try.underlying22 h
  obtain ⟨fuel, hf⟩ := ht
  obtain ⟨l, a', c', ds, sp, e, h1, h2, h3, h4, h5, h6⟩ := open_row Try.underlying22 (k := 4) (by kernel_rfl) (by omega) hf (R := IsPrC) (S := fun y d => y.1.size + y.2.size ≤ Rows.uptoBulk d) (fun n cs x hx => open_Pr n cs x hx)
  have e' : Value.slice a n c = .slice a' l.length c' := by simpa [Value.cells] using e
  have hlen : l.length ≤ 1048576 := by
    rcases h5 with ⟨_, rfl, _⟩ | e
    · simp
    · have := len_le_bulk ds
      have e2 : d = .slice ds sp := e
      rw [e2] at hk; simp only [Rows.uptoBulk] at hk; omega
  refine ⟨l, a', c', e', ⟨inRow_of (E := eltD) (fun _ _ h => h) h3, h1, h2⟩, hlen, fun k hi => ?_⟩
  have hs := h6 k hi (by omega)
  rw [prget_lt hi]
  rcases h5 with ⟨_, rfl, _⟩ | e
  · simp at hi
  · have := bulk_at (List.getElem_mem (show k < ds.length by omega))
    have e2 : d = .slice ds sp := e
    rw [e2] at hk; simp only [Rows.uptoBulk] at hk; omega
end
end Go.Proofs.Ythhgidliopohcaa
