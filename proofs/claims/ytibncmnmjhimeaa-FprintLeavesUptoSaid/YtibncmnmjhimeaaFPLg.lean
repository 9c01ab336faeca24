/- An index is asked: the program. -/
import Derived.Test.YtibncmnmjhimeaaFPLf
import Derived.Test.YtibncmnmjhimeaaFPLb
import Derived.Test.YtibncmnmjhimeaaFPLa
import Derived.Test.YtibncmnmjhimeaaFPLc

/- Letters, prints, copies: the program. -/
namespace Go.Proofs.Ytibncmnmjhimeaa
open Go.RowKit Go
set_option linter.unusedVariables false
set_option linter.unusedSimpArgs false
/-- The eight places, told. -/
structure PlIs (w : World) (B : Nat) (A : Nat → Option Addr) : Prop where
 row : ∀ i, i < 8 → InRow eltN (fun b => B ≤ b) w (pl8.getD i []) (A i)
theorem PlIs.below {w w' : World} {B : Nat} {A : Nat → Option Addr} (h : PlIs w B A) (hb : Below w.heap.size w w') : PlIs w' B A := ⟨fun i hi => (h.row i hi).below hb⟩
theorem PlIs.chg {w w' : World} {B : Nat} {A : Nat → Option Addr} {X : Nat → Prop} (h : PlIs w B A) (hc : Chg X w w') (hX : ∀ b, B ≤ b → ¬ X b) : PlIs w' B A := ⟨fun i hi => (h.row i hi).keep fun p v hp hv => by
 have hb := World.block_lt_of_cell? _ _ hv
 unfold World.cell? at hv ⊢
 rw [hc.block p.block hb (hX _ hp)]; exact hv⟩
theorem PlIs.upd {w w' : World} {B g : Nat} {A : Nat → Option Addr} (h : PlIs w B A) (hu : Upd g w w') (hg : g < B) : PlIs w' B A := h.chg (X := fun b => b = g) (.ofUpd hu rfl) (fun b q e => by have z : b = g := e; omega)
theorem inRow1 {w : World} {B b t : Nat} {x : Nat} (hg : B ≤ b) (h : Blk w b t #[.int .i64 (x : Int)]) : InRow eltN (fun k => B ≤ k) w [x] (some ⟨b, 0, none⟩) := fun i hi => by
 have hi0 : i = 0 := by simp at hi; exact hi
 subst hi0
 refine ⟨b, 0, [.int .i64 (x : Int)], rfl, hg, rfl, fun j hj => ?_⟩
 have hj0 : j = 0 := by have z : j < 1 := hj; omega
 subst hj0
 exact (h.cell 0).trans rfl
theorem inRow2 {w : World} {B b t : Nat} {x y : Nat} (hg : B ≤ b) (h : Blk w b t #[.int .i64 (x : Int), .int .i64 (y : Int)]) : InRow eltN (fun k => B ≤ k) w [x, y] (some ⟨b, 0, none⟩) := fun i hi => by
 have hi2 : i = 0 ∨ i = 1 := by simp at hi; omega
 rcases hi2 with rfl | rfl
 ·refine ⟨b, 0, [.int .i64 (x : Int)], rfl, hg, rfl, fun j hj => ?_⟩
  have hj0 : j = 0 := by have z : j < 1 := hj; omega
  subst hj0
  exact (h.cell 0).trans rfl
 ·refine ⟨b, 0, [.int .i64 (y : Int)], rfl, hg, rfl, fun j hj => ?_⟩
  have hj0 : j = 0 := by have z : j < 1 := hj; omega
  subst hj0
  exact (h.cell 1).trans rfl
set_option maxRecDepth 100000 in
theorem places_any (w : World) : Calls Try.prog 39 #[] w (Ret fun v' w' => (∃ (A : Nat → Option Addr) (C : Nat → Nat), v' = .agg #[.slice (A 0) 0 (C 0), .slice (A 1) 1 (C 1), .slice (A 2) 1 (C 2), .slice (A 3) 1 (C 3), .slice (A 4) 2 (C 4), .slice (A 5) 2 (C 5), .slice (A 6) 2 (C 6), .slice (A 7) 2 (C 7)] ∧ PlIs w' w.heap.size A) ∧ Below w.heap.size w w') := by
 skip
 refine Calls.walk (l := []) Try.func39 rfl (by kernel_rfl) ?_
 refine WC.sub (K' := []) trivial ?_
 refine WC.seq (WC.region ?_)
 refine WL.step (post := NewBlk w 72 #[.slice none 0 0, .slice none 0 0, .slice none 0 0, .slice none 0 0, .slice none 0 0, .slice none 0 0, .slice none 0 0, .slice none 0 0]) rfl rfl rfl (fun za zC zh zk => alloc_72 rfl (zk _ _ (newBlk _ _ _))) ?_
 rintro _ w1 ⟨g2, rfl, hg3, hB4, hb5, hz6⟩
 have hl7 : w.heap.size ≤ g2 := by omega
 refine WL.nil (WE.next (WC.seq (WC.region ?_)))
 refine WL.step (post := NewRow w1 3 #[] 0) rfl rfl rfl (fun za zC zh zk => row_71_0 rfl  (zk _ _ (newRow _ _ _ _))) ?_
 rintro _ w8 ⟨g9, rfl, hg10, hB11, hb12, hz13⟩
 have hl14 : g2 < g9 := by have z1 := hB4.lt; omega
 have hl15 : w.heap.size ≤ g9 := by have z2 := (hb5).size; omega
 refine WL.step (post := NewRow w8 3 #[.int .i64 0] 1) rfl rfl rfl (fun za zC zh zk => row_71_1 rfl (zh.ev rfl) (zk _ _ (newRow _ _ _ _))) ?_
 rintro _ w16 ⟨g17, rfl, hg18, hB19, hb20, hz21⟩
 have hl22 : g2 < g17 := by have z1 := hB4.lt; have z2 := (hb12).size; omega
 have hl23 : g9 < g17 := by have z1 := hB11.lt; omega
 have hb24 : Below w.heap.size w w8 := (bstep hb5 hb12)
 have hl25 : w.heap.size ≤ g17 := by have z2 := (hb24).size; omega
 refine WL.step (post := NewRow w16 3 #[.int .i64 1] 1) rfl rfl rfl (fun za zC zh zk => row_71_1 rfl (zh.ev rfl) (zk _ _ (newRow _ _ _ _))) ?_
 rintro _ w26 ⟨g27, rfl, hg28, hB29, hb30, hz31⟩
 have hb32 : Below w1.heap.size w1 w16 := (bstep hb12 hb20)
 have hl33 : g2 < g27 := by have z1 := hB4.lt; have z2 := (hb32).size; omega
 have hl34 : g9 < g27 := by have z1 := hB11.lt; have z2 := (hb20).size; omega
 have hl35 : g17 < g27 := by have z1 := hB19.lt; omega
 have hb36 : Below w.heap.size w w16 := (bstep hb5 hb32)
 have hl37 : w.heap.size ≤ g27 := by have z2 := (hb36).size; omega
 refine WL.step (post := NewRow w26 3 #[.int .i64 2] 1) rfl rfl rfl (fun za zC zh zk => row_71_1 rfl (zh.ev rfl) (zk _ _ (newRow _ _ _ _))) ?_
 rintro _ w38 ⟨g39, rfl, hg40, hB41, hb42, hz43⟩
 have hb44 : Below w1.heap.size w1 w26 := (bstep hb32 hb30)
 have hl45 : g2 < g39 := by have z1 := hB4.lt; have z2 := (hb44).size; omega
 have hb46 : Below w8.heap.size w8 w26 := (bstep hb20 hb30)
 have hl47 : g9 < g39 := by have z1 := hB11.lt; have z2 := (hb46).size; omega
 have hl48 : g17 < g39 := by have z1 := hB19.lt; have z2 := (hb30).size; omega
 have hl49 : g27 < g39 := by have z1 := hB29.lt; omega
 have hb50 : Below w.heap.size w w26 := (bstep hb5 hb44)
 have hl51 : w.heap.size ≤ g39 := by have z2 := (hb50).size; omega
 refine WL.step (post := NewRow w38 3 #[.int .i64 0, .int .i64 0] 2) rfl rfl rfl (fun za zC zh zk => row_71_2 rfl (zh.ev rfl) (zh.ev rfl) (zk _ _ (newRow _ _ _ _))) ?_
 rintro _ w52 ⟨g53, rfl, hg54, hB55, hb56, hz57⟩
 have hb58 : Below w1.heap.size w1 w38 := (bstep hb44 hb42)
 have hl59 : g2 < g53 := by have z1 := hB4.lt; have z2 := (hb58).size; omega
 have hb60 : Below w8.heap.size w8 w38 := (bstep hb46 hb42)
 have hl61 : g9 < g53 := by have z1 := hB11.lt; have z2 := (hb60).size; omega
 have hb62 : Below w16.heap.size w16 w38 := (bstep hb30 hb42)
 have hl63 : g17 < g53 := by have z1 := hB19.lt; have z2 := (hb62).size; omega
 have hl64 : g27 < g53 := by have z1 := hB29.lt; have z2 := (hb42).size; omega
 have hl65 : g39 < g53 := by have z1 := hB41.lt; omega
 have hb66 : Below w.heap.size w w38 := (bstep hb5 hb58)
 have hl67 : w.heap.size ≤ g53 := by have z2 := (hb66).size; omega
 refine WL.step (post := NewRow w52 3 #[.int .i64 0, .int .i64 1] 2) rfl rfl rfl (fun za zC zh zk => row_71_2 rfl (zh.ev rfl) (zh.ev rfl) (zk _ _ (newRow _ _ _ _))) ?_
 rintro _ w68 ⟨g69, rfl, hg70, hB71, hb72, hz73⟩
 have hb74 : Below w1.heap.size w1 w52 := (bstep hb58 hb56)
 have hl75 : g2 < g69 := by have z1 := hB4.lt; have z2 := (hb74).size; omega
 have hb76 : Below w8.heap.size w8 w52 := (bstep hb60 hb56)
 have hl77 : g9 < g69 := by have z1 := hB11.lt; have z2 := (hb76).size; omega
 have hb78 : Below w16.heap.size w16 w52 := (bstep hb62 hb56)
 have hl79 : g17 < g69 := by have z1 := hB19.lt; have z2 := (hb78).size; omega
 have hb80 : Below w26.heap.size w26 w52 := (bstep hb42 hb56)
 have hl81 : g27 < g69 := by have z1 := hB29.lt; have z2 := (hb80).size; omega
 have hl82 : g39 < g69 := by have z1 := hB41.lt; have z2 := (hb56).size; omega
 have hl83 : g53 < g69 := by have z1 := hB55.lt; omega
 have hb84 : Below w.heap.size w w52 := (bstep hb5 hb74)
 have hl85 : w.heap.size ≤ g69 := by have z2 := (hb84).size; omega
 refine WL.step (post := NewRow w68 3 #[.int .i64 1, .int .i64 0] 2) rfl rfl rfl (fun za zC zh zk => row_71_2 rfl (zh.ev rfl) (zh.ev rfl) (zk _ _ (newRow _ _ _ _))) ?_
 rintro _ w86 ⟨g87, rfl, hg88, hB89, hb90, hz91⟩
 have hb92 : Below w1.heap.size w1 w68 := (bstep hb74 hb72)
 have hl93 : g2 < g87 := by have z1 := hB4.lt; have z2 := (hb92).size; omega
 have hb94 : Below w8.heap.size w8 w68 := (bstep hb76 hb72)
 have hl95 : g9 < g87 := by have z1 := hB11.lt; have z2 := (hb94).size; omega
 have hb96 : Below w16.heap.size w16 w68 := (bstep hb78 hb72)
 have hl97 : g17 < g87 := by have z1 := hB19.lt; have z2 := (hb96).size; omega
 have hb98 : Below w26.heap.size w26 w68 := (bstep hb80 hb72)
 have hl99 : g27 < g87 := by have z1 := hB29.lt; have z2 := (hb98).size; omega
 have hb100 : Below w38.heap.size w38 w68 := (bstep hb56 hb72)
 have hl101 : g39 < g87 := by have z1 := hB41.lt; have z2 := (hb100).size; omega
 have hl102 : g53 < g87 := by have z1 := hB55.lt; have z2 := (hb72).size; omega
 have hl103 : g69 < g87 := by have z1 := hB71.lt; omega
 have hb104 : Below w.heap.size w w68 := (bstep hb5 hb92)
 have hl105 : w.heap.size ≤ g87 := by have z2 := (hb104).size; omega
 refine WL.step (post := NewRow w86 3 #[.int .i64 1, .int .i64 1] 2) rfl rfl rfl (fun za zC zh zk => row_71_2 rfl (zh.ev rfl) (zh.ev rfl) (zk _ _ (newRow _ _ _ _))) ?_
 rintro _ w106 ⟨g107, rfl, hg108, hB109, hb110, hz111⟩
 have hb112 : Below w1.heap.size w1 w86 := (bstep hb92 hb90)
 have hl113 : g2 < g107 := by have z1 := hB4.lt; have z2 := (hb112).size; omega
 have hb114 : Below w8.heap.size w8 w86 := (bstep hb94 hb90)
 have hl115 : g9 < g107 := by have z1 := hB11.lt; have z2 := (hb114).size; omega
 have hb116 : Below w16.heap.size w16 w86 := (bstep hb96 hb90)
 have hl117 : g17 < g107 := by have z1 := hB19.lt; have z2 := (hb116).size; omega
 have hb118 : Below w26.heap.size w26 w86 := (bstep hb98 hb90)
 have hl119 : g27 < g107 := by have z1 := hB29.lt; have z2 := (hb118).size; omega
 have hb120 : Below w38.heap.size w38 w86 := (bstep hb100 hb90)
 have hl121 : g39 < g107 := by have z1 := hB41.lt; have z2 := (hb120).size; omega
 have hb122 : Below w52.heap.size w52 w86 := (bstep hb72 hb90)
 have hl123 : g53 < g107 := by have z1 := hB55.lt; have z2 := (hb122).size; omega
 have hl124 : g69 < g107 := by have z1 := hB71.lt; have z2 := (hb90).size; omega
 have hl125 : g87 < g107 := by have z1 := hB89.lt; omega
 have hb126 : Below w.heap.size w w86 := (bstep hb5 hb112)
 have hl127 : w.heap.size ≤ g107 := by have z2 := (hb126).size; omega
 refine WL.val (.agg #[.slice ((some ⟨g9, 0, none⟩)) 0 0, .slice ((some ⟨g17, 0, none⟩)) 1 1, .slice ((some ⟨g27, 0, none⟩)) 1 1, .slice ((some ⟨g39, 0, none⟩)) 1 1, .slice ((some ⟨g53, 0, none⟩)) 2 2, .slice ((some ⟨g69, 0, none⟩)) 2 2, .slice ((some ⟨g87, 0, none⟩)) 2 2, .slice ((some ⟨g107, 0, none⟩)) 2 2]) rfl rfl rfl (fun za zC zh zk => build_72_0_1_2_3_4_5_6_7 rfl (zh.ev rfl) (zh.ev rfl) (zh.ev rfl) (zh.ev rfl) (zh.ev rfl) (zh.ev rfl) (zh.ev rfl) (zh.ev rfl) zk) ?_
 have hb129 : Below w1.heap.size w1 w106 := (bstep hb112 hb110)
 have hB128 := hB4.below hb129
 refine WL.step (post := fun _ w' => Upd g2 w106 w' ∧ Blk w' g2 72 #[.slice ((some ⟨g9, 0, none⟩)) 0 0, .slice ((some ⟨g17, 0, none⟩)) 1 1, .slice ((some ⟨g27, 0, none⟩)) 1 1, .slice ((some ⟨g39, 0, none⟩)) 1 1, .slice ((some ⟨g53, 0, none⟩)) 2 2, .slice ((some ⟨g69, 0, none⟩)) 2 2, .slice ((some ⟨g87, 0, none⟩)) 2 2, .slice ((some ⟨g107, 0, none⟩)) 2 2]) rfl rfl rfl (fun za zC zh zk => st_72 rfl (zh.ev rfl) (zh.ev rfl) rfl rfl rfl rfl rfl rfl rfl rfl hB128 (by first | decide | simp) (fun v => by have zb0 : Blk _ g2 72 #[.slice ((some ⟨g9, 0, none⟩)) 0 0, .slice none 0 0, .slice none 0 0, .slice none 0 0, .slice none 0 0, .slice none 0 0, .slice none 0 0, .slice none 0 0] := hB128.set_ 0 _; have zb1 : Blk _ g2 72 #[.slice ((some ⟨g9, 0, none⟩)) 0 0, .slice ((some ⟨g17, 0, none⟩)) 1 1, .slice none 0 0, .slice none 0 0, .slice none 0 0, .slice none 0 0, .slice none 0 0, .slice none 0 0] := zb0.set_ 1 _; have zb2 : Blk _ g2 72 #[.slice ((some ⟨g9, 0, none⟩)) 0 0, .slice ((some ⟨g17, 0, none⟩)) 1 1, .slice ((some ⟨g27, 0, none⟩)) 1 1, .slice none 0 0, .slice none 0 0, .slice none 0 0, .slice none 0 0, .slice none 0 0] := zb1.set_ 2 _; have zb3 : Blk _ g2 72 #[.slice ((some ⟨g9, 0, none⟩)) 0 0, .slice ((some ⟨g17, 0, none⟩)) 1 1, .slice ((some ⟨g27, 0, none⟩)) 1 1, .slice ((some ⟨g39, 0, none⟩)) 1 1, .slice none 0 0, .slice none 0 0, .slice none 0 0, .slice none 0 0] := zb2.set_ 3 _; have zb4 : Blk _ g2 72 #[.slice ((some ⟨g9, 0, none⟩)) 0 0, .slice ((some ⟨g17, 0, none⟩)) 1 1, .slice ((some ⟨g27, 0, none⟩)) 1 1, .slice ((some ⟨g39, 0, none⟩)) 1 1, .slice ((some ⟨g53, 0, none⟩)) 2 2, .slice none 0 0, .slice none 0 0, .slice none 0 0] := zb3.set_ 4 _; have zb5 : Blk _ g2 72 #[.slice ((some ⟨g9, 0, none⟩)) 0 0, .slice ((some ⟨g17, 0, none⟩)) 1 1, .slice ((some ⟨g27, 0, none⟩)) 1 1, .slice ((some ⟨g39, 0, none⟩)) 1 1, .slice ((some ⟨g53, 0, none⟩)) 2 2, .slice ((some ⟨g69, 0, none⟩)) 2 2, .slice none 0 0, .slice none 0 0] := zb4.set_ 5 _; have zb6 : Blk _ g2 72 #[.slice ((some ⟨g9, 0, none⟩)) 0 0, .slice ((some ⟨g17, 0, none⟩)) 1 1, .slice ((some ⟨g27, 0, none⟩)) 1 1, .slice ((some ⟨g39, 0, none⟩)) 1 1, .slice ((some ⟨g53, 0, none⟩)) 2 2, .slice ((some ⟨g69, 0, none⟩)) 2 2, .slice ((some ⟨g87, 0, none⟩)) 2 2, .slice none 0 0] := zb5.set_ 6 _; have zb7 : Blk _ g2 72 #[.slice ((some ⟨g9, 0, none⟩)) 0 0, .slice ((some ⟨g17, 0, none⟩)) 1 1, .slice ((some ⟨g27, 0, none⟩)) 1 1, .slice ((some ⟨g39, 0, none⟩)) 1 1, .slice ((some ⟨g53, 0, none⟩)) 2 2, .slice ((some ⟨g69, 0, none⟩)) 2 2, .slice ((some ⟨g87, 0, none⟩)) 2 2, .slice ((some ⟨g107, 0, none⟩)) 2 2] := zb6.set_ 7 _; exact zk v _ ⟨(((((((Upd.at_ _ _ _ _).trans (Upd.at_ _ _ _ _)).trans (Upd.at_ _ _ _ _)).trans (Upd.at_ _ _ _ _)).trans (Upd.at_ _ _ _ _)).trans (Upd.at_ _ _ _ _)).trans (Upd.at_ _ _ _ _)).trans (Upd.at_ _ _ _ _), zb7⟩)) ?_
 rintro v133 w130 ⟨hu131, hB132⟩
 have hb134 : Below w.heap.size w w106 := (bstep hb5 hb129)
 have hb135 := upd_below hb134 hu131 (by omega)
 have hb137 : Below w8.heap.size w8 w106 := (bstep hb114 hb110)
 have hB136 := hB11.below hb137
 have hB138 := upd_blk hB136 hu131 (by omega)
 have hb140 : Below w16.heap.size w16 w106 := (bstep hb116 hb110)
 have hB139 := hB19.below hb140
 have hB141 := upd_blk hB139 hu131 (by omega)
 have hb143 : Below w26.heap.size w26 w106 := (bstep hb118 hb110)
 have hB142 := hB29.below hb143
 have hB144 := upd_blk hB142 hu131 (by omega)
 have hb146 : Below w38.heap.size w38 w106 := (bstep hb120 hb110)
 have hB145 := hB41.below hb146
 have hB147 := upd_blk hB145 hu131 (by omega)
 have hb149 : Below w52.heap.size w52 w106 := (bstep hb122 hb110)
 have hB148 := hB55.below hb149
 have hB150 := upd_blk hB148 hu131 (by omega)
 have hb152 : Below w68.heap.size w68 w106 := (bstep hb90 hb110)
 have hB151 := hB71.below hb152
 have hB153 := upd_blk hB151 hu131 (by omega)
 have hB154 := hB89.below hb110
 have hB155 := upd_blk hB154 hu131 (by omega)
 have hB156 := upd_blk hB109 hu131 (by omega)
 refine WL.nil (WE.next (WC.ret ?_))
 refine WE.retAny (v := .agg #[.slice ((some ⟨g9, 0, none⟩)) 0 0, .slice ((some ⟨g17, 0, none⟩)) 1 1, .slice ((some ⟨g27, 0, none⟩)) 1 1, .slice ((some ⟨g39, 0, none⟩)) 1 1, .slice ((some ⟨g53, 0, none⟩)) 2 2, .slice ((some ⟨g69, 0, none⟩)) 2 2, .slice ((some ⟨g87, 0, none⟩)) 2 2, .slice ((some ⟨g107, 0, none⟩)) 2 2]) (fun za zh => ?_) ?_
 ·have z0 : za.tmps[0]?.getD undef = .pointer (some ⟨g2, 0, none⟩) := by rw [← Array.getD_eq_getD_getElem?]; exact zh.knows 0 _ rfl
  have y0 : w130.cell? ⟨g2, 0, none⟩ = some (.slice ((some ⟨g9, 0, none⟩)) 0 0) := ((hB132.cell 0).trans rfl)
  have y1 : w130.cell? ⟨g2, 1, none⟩ = some (.slice ((some ⟨g17, 0, none⟩)) 1 1) := ((hB132.cell 1).trans rfl)
  have y2 : w130.cell? ⟨g2, 2, none⟩ = some (.slice ((some ⟨g27, 0, none⟩)) 1 1) := ((hB132.cell 2).trans rfl)
  have y3 : w130.cell? ⟨g2, 3, none⟩ = some (.slice ((some ⟨g39, 0, none⟩)) 1 1) := ((hB132.cell 3).trans rfl)
  have y4 : w130.cell? ⟨g2, 4, none⟩ = some (.slice ((some ⟨g53, 0, none⟩)) 2 2) := ((hB132.cell 4).trans rfl)
  have y5 : w130.cell? ⟨g2, 5, none⟩ = some (.slice ((some ⟨g69, 0, none⟩)) 2 2) := ((hB132.cell 5).trans rfl)
  have y6 : w130.cell? ⟨g2, 6, none⟩ = some (.slice ((some ⟨g87, 0, none⟩)) 2 2) := ((hB132.cell 6).trans rfl)
  have y7 : w130.cell? ⟨g2, 7, none⟩ = some (.slice ((some ⟨g107, 0, none⟩)) 2 2) := ((hB132.cell 7).trans rfl)
  simp [results, Try.results39, z0, y0, y1, y2, y3, y4, y5, y6, y7, go_sem]
 ·refine ⟨_, rfl, ⟨fun i => match i with | 0 => (some ⟨g9, 0, none⟩) | 1 => (some ⟨g17, 0, none⟩) | 2 => (some ⟨g27, 0, none⟩) | 3 => (some ⟨g39, 0, none⟩) | 4 => (some ⟨g53, 0, none⟩) | 5 => (some ⟨g69, 0, none⟩) | 6 => (some ⟨g87, 0, none⟩) | _ => (some ⟨g107, 0, none⟩), fun i => match i with | 0 => 0 | 1 => 1 | 2 => 1 | 3 => 1 | 4 => 2 | 5 => 2 | 6 => 2 | _ => 2, rfl, ⟨fun i hi => ?_⟩⟩, hb135⟩
  match i, hi with
  | 0, _ => exact InRow.nil
  | 1, _ => exact inRow1 (x := 0) (by omega) hB141
  | 2, _ => exact inRow1 (x := 1) (by omega) hB144
  | 3, _ => exact inRow1 (x := 2) (by omega) hB147
  | 4, _ => exact inRow2 (x := 0) (y := 0) (by omega) hB150
  | 5, _ => exact inRow2 (x := 0) (y := 1) (by omega) hB153
  | 6, _ => exact inRow2 (x := 1) (y := 0) (by omega) hB155
  | 7, _ => exact inRow2 (x := 1) (y := 1) (by omega) hB156
theorem ltr_neg {s : T} {i : Nat} {p : List Nat} (h : s.f < 0) : ltr s (i :: p) = -2 := by
 cases s with
 | mk f l => have h : f < 0 := h; rw [ltr, if_pos h]
theorem ltr_none {s : T} {i : Nat} {p : List Nat} (h0 : ¬ s.f < 0) (h : s.args.length ≤ i) : ltr s (i :: p) = -3 := by
 cases s with
 | mk f l => have h0 : ¬ f < 0 := h0; have h : l.length ≤ i := h; rw [ltr, if_neg h0, if_pos h]
theorem ltr_next {s : T} {i : Nat} {p : List Nat} (h0 : ¬ s.f < 0) (h : ¬ s.args.length ≤ i) : ltr s (i :: p) = ltr (tget s.args i) p := by
 cases s with
 | mk f l => have h0 : ¬ f < 0 := h0; have h : ¬ l.length ≤ i := h; rw [ltr, if_neg h0, if_neg h]; rfl
theorem drop_ltr {p : List Nat} {k : Nat} (h : k < p.length) : p.drop k = aget p k :: p.drop (k + 1) := by rw [List.drop_eq_getElem_cons h, aget_lt h]
structure LSt where
 k : Nat
 s : T
 a : Option Addr
 c : Nat
set_option maxRecDepth 100000 in
theorem letter_any (p : List Nat) (t : T) (S : Nat → Prop) (w : World) (v : Value) (a : Option Addr) (c : Nat) (hz : p.length ≤ 4294967296) (hv : IsT w t v) (hp : InRow eltN S w p a) : Calls Try.prog 40 #[v, .slice a p.length c] w (Ret fun v' w' => v' = .int .i64 (ltr t p) ∧ Below w.heap.size w w') := by
 have hvt := hv
 obtain ⟨_, ta, tc, rfl, _, _, _⟩ := hv.form
 obtain ⟨lb, lo, hla, hlc⟩ := InRow.openN hp
 refine Calls.walk (l := [.agg #[.int .i64 t.f, .slice ta t.args.length tc], .slice a p.length c]) Try.func40 rfl (by kernel_rfl) ?_
 refine WC.sub (K' := [(0, .agg #[.int .i64 t.f, .slice ta t.args.length tc]), (1, .slice a p.length c)]) ⟨rfl, rfl, trivial⟩ ?_
 refine WC.seq (WC.region ?_)
 refine WL.step (post := NewBlk w 24 #[.int .i64 t.f, .slice ta t.args.length tc]) rfl rfl rfl (fun za zC zh zk => box_24 rfl (zh.ev rfl) (zk _ _ (newBlk _ _ _))) ?_
 rintro _ w1 ⟨g2, rfl, hg3, hB4, hb5, hz6⟩
 have hl7 : w.heap.size ≤ g2 := by omega
 refine WL.asg rfl rfl rfl rfl rfl (WL.nil (WE.next (WC.seq (WC.seq (WC.region (WL.mv rfl rfl rfl rfl rfl ?_))))))
 refine WL.val (.int .i64 (((p.length : Nat) : Int))) rfl rfl rfl (fun za zC zh zk => len_71 rfl (zh.ev rfl) zk) ?_
 refine WL.mv rfl rfl rfl rfl rfl (WL.nil (WE.next (WC.block ?_)))
 refine WC.loop (X := LSt) (fun x => p.length - x.k) (fun x => [(0, .agg #[.int .i64 t.f, .slice ta t.args.length tc]), (1, .slice a p.length c), (2, .pointer (some ⟨g2, 0, none⟩)), (7, .slice a p.length c), (8, .int .i64 (((p.length : Nat) : Int))), (9, .int .i64 (((x.k : Nat) : Int)))]) (fun x w8 => x.k ≤ p.length ∧ ltr x.s (p.drop x.k) = ltr t p ∧ IsT w x.s (.agg #[.int .i64 x.s.f, .slice x.a x.s.args.length x.c]) ∧ Below w.heap.size w w8 ∧ Blk w8 g2 24 #[.int .i64 x.s.f, .slice x.a x.s.args.length x.c]) (⟨0, t, ta, tc⟩) ⟨rfl, rfl, rfl, rfl, rfl, rfl, trivial⟩ ?_ ?_
 ·exact ⟨Nat.zero_le _, rfl, hvt, hb5, hB4⟩
 ·rintro x w8 ⟨hk, hxe, hxT, hb9, hB10⟩
  refine WC.seq (WC.region ?_)
  refine WL.val (.bool ((decide ((((x.k : Nat) : Int) : Int) < (((p.length : Nat) : Int) : Int))))) rfl rfl rfl (fun za zC zh zk => lss_3 rfl (zh.ev rfl) (zh.ev rfl) zk) ?_
  refine WL.nil (WE.next (WC.seq ?_))
  refine WC.cond rfl (fun h11 => ?_) (fun h11 => ?_)
  ·have h11 : (((x.k : Nat) : Int) : Int) < (((p.length : Nat) : Int) : Int) := by simpa using h11
   refine WC.skip (WE.next (WC.seq (WC.block (WC.seq (WC.region ?_)))))
   refine WL.val _ rfl rfl rfl (fun za zC zh zk => ix_71 (k := x.k) rfl (zh.ev rfl) (hla x.k (by first | omega | (simp; omega))) (zh.ev rfl) (by first | omega | (simp; omega)) zk) ?_
   refine WL.val _ rfl rfl rfl (fun za zC zh zk => ld_3 rfl (zh.ev rfl) (bkeeps hb9 _ _ (hlc x.k (by first | omega | (simp; omega)))) zk) ?_
   refine WL.asg rfl rfl rfl rfl rfl (WL.nil (WE.next (WC.seq (WC.block (WC.seq (WC.region ?_))))))
   refine WL.val _ rfl rfl rfl (fun za zC zh zk => fld_24_0 rfl (zh.ev rfl) zk) ?_
   refine WL.val _ rfl rfl rfl (fun za zC zh zk => ld_3 rfl (zh.ev rfl) ((hB10.cell 0).trans rfl) zk) ?_
   refine WL.val (.bool ((decide ((x.s.f : Int) < (0 : Int))))) rfl rfl rfl (fun za zC zh zk => lss_3 rfl (zh.ev rfl) (zh.ev rfl) zk) ?_
   refine WL.asg rfl rfl rfl rfl rfl (WL.nil (WE.next ?_))
   refine WC.cond rfl (fun h12 => ?_) (fun h12 => ?_)
   ·have h12 : (x.s.f : Int) < (0 : Int) := by simpa using h12
    refine WC.seq (WC.region (WL.asg rfl rfl rfl rfl rfl (WL.nil (WE.next (WC.ret (WE.blockRet (WE.thenRet (WE.blockRet (WE.thenRet (WE.thenRet (WE.blockRet (WE.thenRet (WE.ret1 rfl rfl ?_)))))))))))))
    refine ⟨_, rfl, ?_, hb9⟩
    rw [← hxe, drop_ltr (by omega), ltr_neg (by omega)]
   ·have h12 : ¬ ((x.s.f : Int) < (0 : Int)) := by simpa using h12
    refine WC.seq (WC.region (WL.mv rfl rfl rfl rfl rfl ?_))
    refine WL.val _ rfl rfl rfl (fun za zC zh zk => fld_24_1 rfl (zh.ev rfl) zk) ?_
    refine WL.val _ rfl rfl rfl (fun za zC zh zk => ld_22 rfl (zh.ev rfl) ((hB10.cell 1).trans rfl) zk) ?_
    refine WL.val (.int .i64 (((x.s.args.length : Nat) : Int))) rfl rfl rfl (fun za zC zh zk => len_22 rfl (zh.ev rfl) zk) ?_
    refine WL.val (.bool ((decide ((((x.s.args.length : Nat) : Int) : Int) ≤ ((((aget p x.k) : Nat) : Int) : Int))))) rfl rfl rfl (fun za zC zh zk => geq_3 rfl (zh.ev rfl) (zh.ev rfl) zk) ?_
    refine WL.asg rfl rfl rfl rfl rfl (WL.nil (WE.next ?_))
    refine WC.cond rfl (fun h13 => ?_) (fun h13 => ?_)
    ·have h13 : (((x.s.args.length : Nat) : Int) : Int) ≤ ((((aget p x.k) : Nat) : Int) : Int) := by simpa using h13
     refine WC.seq (WC.region (WL.asg rfl rfl rfl rfl rfl (WL.nil (WE.next (WC.ret (WE.blockRet (WE.thenRet (WE.blockRet (WE.thenRet (WE.thenRet (WE.blockRet (WE.thenRet (WE.ret1 rfl rfl ?_)))))))))))))
     refine ⟨_, rfl, ?_, hb9⟩
     rw [← hxe, drop_ltr (by omega), ltr_none (by omega) (by omega)]
    ·have h13 : ¬ ((((x.s.args.length : Nat) : Int) : Int) ≤ ((((aget p x.k) : Nat) : Int) : Int)) := by simpa using h13
     refine WC.skip (WE.blockNormal (WE.next (WC.region ?_)))
     refine WL.val _ rfl rfl rfl (fun za zC zh zk => fld_24_1 rfl (zh.ev rfl) zk) ?_
     refine WL.val _ rfl rfl rfl (fun za zC zh zk => ld_22 rfl (zh.ev rfl) ((hB10.cell 1).trans rfl) zk) ?_
     refine WL.mv rfl rfl rfl rfl rfl ?_
     have hl14 := isT_row hxT
     obtain ⟨b15, o16, A17, C18, ha19, hc20⟩ := IsTs.open hl14.2.2.2
     refine WL.val _ rfl rfl rfl (fun za zC zh zk => ix_22 (k := (aget p x.k)) rfl (zh.ev rfl) (ha19 ((aget p x.k)) (by first | omega | (simp; omega))) (zh.ev rfl) (by first | omega | (simp; omega)) zk) ?_
     refine WL.val _ rfl rfl rfl (fun za zC zh zk => ld_24 rfl (zh.ev rfl) (bkeeps hb9 _ _ (hc20 ((aget p x.k)) (by first | omega | (simp; omega))).1) (bkeeps hb9 _ _ (hc20 ((aget p x.k)) (by first | omega | (simp; omega))).2.1) zk) ?_
     refine WL.step (post := fun _ w' => Upd g2 w8 w' ∧ Blk w' g2 24 #[.int .i64 ((tget x.s.args ((aget p x.k))).f), .slice ((A17 ((aget p x.k)))) ((tget x.s.args ((aget p x.k))).args.length) ((C18 ((aget p x.k))))]) rfl rfl rfl (fun za zC zh zk => st_24 rfl (zh.ev rfl) (zh.ev rfl) rfl rfl hB10 (by first | decide | simp) (fun v => zk v _ ⟨(Upd.at_ _ _ _ _).trans (Upd.at_ _ _ _ _), (hB10.set_ 0 _).set_ 1 _⟩)) ?_
     rintro v24 w21 ⟨hu22, hB23⟩
     have hb25 := upd_below hb9 hu22 (by omega)
     refine WL.nil (WE.blockNormal (WE.next (WC.region ?_)))
     refine WL.val (.int .i64 ((((x.k + 1) : Nat) : Int))) rfl rfl rfl (fun za zC zh zk => addb_3 rfl (zh.ev rfl) (zh.ev rfl) (wrap_eq (by omega) (by omega) (by omega)) zk) ?_
     refine WL.mv rfl rfl rfl rfl rfl (WL.nil ?_)
     refine WE.round (⟨x.k + 1, tget x.s.args (aget p x.k), (A17 ((aget p x.k))), (C18 ((aget p x.k)))⟩) ⟨rfl, rfl, rfl, rfl, rfl, rfl, trivial⟩ ?_ ?_
     ·exact ⟨(by (try dsimp only); omega), (by (try dsimp only); rw [← ltr_next (by omega) (by omega), ← drop_ltr (by omega)]; exact hxe), ((hc20 ((aget p x.k)) (by first | omega | (simp; omega))).2.2), hb25, hB23⟩
     ·(try dsimp only); omega
  ·have h11 : ¬ ((((x.k : Nat) : Int) : Int) < (((p.length : Nat) : Int) : Int)) := by simpa using h11
   refine WC.exit (WE.thenExit (WE.thenExit (WE.blockIs rfl (WE.next (WC.seq (WC.region ?_))))))
   refine WL.val _ rfl rfl rfl (fun za zC zh zk => fld_24_0 rfl (zh.ev rfl) zk) ?_
   refine WL.val _ rfl rfl rfl (fun za zC zh zk => ld_3 rfl (zh.ev rfl) ((hB10.cell 0).trans rfl) zk) ?_
   refine WL.val (.int .i64 ((max x.s.f ((-1))))) rfl rfl rfl (fun za zC zh zk => max_3 rfl (zh.ev rfl) (zh.ev rfl) zk) ?_
   refine WL.asg rfl rfl rfl rfl rfl (WL.nil (WE.next (WC.ret (WE.ret1 rfl rfl ?_))))
   refine ⟨_, rfl, ?_, hb9⟩
   rw [← hxe, List.drop_of_length_le (by omega)]
   cases x.s; rfl
set_option maxRecDepth 100000 in
theorem of_any (t : T) (w : World) (v : Value) (hv : IsT w t v) : Calls Try.prog 25 #[v] w (Ret fun v' w' => v' = encP (prt t) ∧ Below w.heap.size w w') := by
 have hvt := hv
 obtain ⟨_, ta, tc, rfl, _, _, _⟩ := hv.form
 rw [encP_prt]
 refine Calls.walk (l := [.agg #[.int .i64 t.f, .slice ta t.args.length tc]]) Try.func25 rfl (by kernel_rfl) ?_
 refine WC.sub (K' := [(0, .agg #[.int .i64 t.f, .slice ta t.args.length tc])]) ⟨rfl, trivial⟩ ?_
 refine WC.seq (WC.region ?_)
 refine WL.step (post := NewBlk w 24 #[.int .i64 t.f, .slice ta t.args.length tc]) rfl rfl rfl (fun za zC zh zk => box_24 rfl (zh.ev rfl) (zk _ _ (newBlk _ _ _))) ?_
 rintro _ w1 ⟨g2, rfl, hg3, hB4, hb5, hz6⟩
 have hl7 : w.heap.size ≤ g2 := by omega
 refine WL.step (post := NewBlk w1 50 #[.int .i64 0, .int .i64 0, .int .i64 0, .int .i64 0, .int .i64 0, .int .i64 0, .int .i64 0, .int .i64 0]) rfl rfl rfl (fun za zC zh zk => alloc_50 rfl (zk _ _ (newBlk _ _ _))) ?_
 rintro _ w8 ⟨g9, rfl, hg10, hB11, hb12, hz13⟩
 have hl14 : g2 < g9 := by have z1 := hB4.lt; omega
 have hl15 : w.heap.size ≤ g9 := by have z2 := (hb5).size; omega
 refine WL.nil (WE.next (WC.seq (WC.seq (WC.region ?_))))
 have hB18 := hB4.below hb12
 have hl19 := hB18.lt
 have hl20 := hB11.lt
 refine WL.call rfl rfl rfl (fun za zh zC => wp_call (by kernel_rfl) rfl (hv0)) (places_any _) ?_
 rintro _ w21 ⟨⟨A, C, rfl, hP16⟩, hb17⟩
 refine WL.mv rfl rfl rfl rfl rfl (WL.nil (WE.next (WC.block ?_)))
 refine WC.loop (X := Nat) (fun k => 8 - k) (fun k => [(0, .agg #[.int .i64 t.f, .slice ta t.args.length tc]), (1, .pointer (some ⟨g2, 0, none⟩)), (2, .pointer (some ⟨g9, 0, none⟩)), (5, .agg #[.slice ((A 0)) 0 ((C 0)), .slice ((A 1)) 1 ((C 1)), .slice ((A 2)) 1 ((C 2)), .slice ((A 3)) 1 ((C 3)), .slice ((A 4)) 2 ((C 4)), .slice ((A 5)) 2 ((C 5)), .slice ((A 6)) 2 ((C 6)), .slice ((A 7)) 2 ((C 7))]), (6, .int .i64 (((k : Nat) : Int)))]) (fun k w22 => k ≤ 8 ∧ Below w.heap.size w w22 ∧ Blk w22 g2 24 #[.int .i64 t.f, .slice ta t.args.length tc] ∧ Blk w22 g9 50 #[.int .i64 ((if 0 < k then (ltr t []) else 0)), .int .i64 ((if 1 < k then (ltr t [0]) else 0)), .int .i64 ((if 2 < k then (ltr t [1]) else 0)), .int .i64 ((if 3 < k then (ltr t [2]) else 0)), .int .i64 ((if 4 < k then (ltr t [0, 0]) else 0)), .int .i64 ((if 5 < k then (ltr t [0, 1]) else 0)), .int .i64 ((if 6 < k then (ltr t [1, 0]) else 0)), .int .i64 ((if 7 < k then (ltr t [1, 1]) else 0))] ∧ PlIs (w22) w8.heap.size A) 0 ⟨rfl, rfl, rfl, rfl, rfl, trivial⟩ ?_ ?_
 ·have hb23 : Below w.heap.size w w21 := (bstep (bstep hb5 hb12) hb17)
  have hB24 := hB18.below hb17
  have hB25 := hB11.below hb17
  exact ⟨Nat.zero_le _, hb23, hB24, hB25, hP16⟩
 ·rintro k w22 ⟨hk, hb26, hB27, hB28, ho29⟩
  have hcase : k = 0 ∨ k = 1 ∨ k = 2 ∨ k = 3 ∨ k = 4 ∨ k = 5 ∨ k = 6 ∨ k = 7 ∨ k = 8 := by omega
  rcases hcase with rfl | rfl | rfl | rfl | rfl | rfl | rfl | rfl | rfl
  ·have hB30 : Blk w22 g9 50 #[.int .i64 0, .int .i64 0, .int .i64 0, .int .i64 0, .int .i64 0, .int .i64 0, .int .i64 0, .int .i64 0] := hB28
   refine WC.seq (WC.region ?_)
   refine WL.val (.bool true) rfl rfl rfl (fun za zC zh zk => lss_3 rfl (zh.ev rfl) (zh.ev rfl) zk) ?_
   refine WL.nil (WE.next (WC.seq ?_))
   refine WC.condT rfl rfl ?_
   refine WC.skip (WE.next (WC.seq (WC.block (WC.seq (WC.region (WL.mv rfl rfl rfl rfl rfl ?_))))))
   refine WL.val (.slice ((A 0)) 0 ((C 0))) rfl rfl rfl (fun za zC zh zk => axc_72_0 rfl (zh.ev rfl) (zh.ev rfl) zk) ?_
   refine WL.asg rfl rfl rfl rfl rfl (WL.asg rfl rfl rfl rfl rfl (WL.nil (WE.next (WC.region (WL.mv rfl rfl rfl rfl rfl ?_)))))
   refine WL.val _ rfl rfl rfl (fun za zC zh zk => ld_24 rfl (zh.ev rfl) ((hB27.cell 0).trans rfl) ((hB27.cell 1).trans rfl) zk) ?_
   refine WL.mv rfl rfl rfl rfl rfl ?_
   refine WL.call rfl rfl rfl (fun za zh zC => wp_call (by kernel_rfl) rfl (hv2 (zh.ev rfl) (zh.ev rfl))) (letter_any [] t _ _ _ _ _ (by decide) (IsT.below hb26 hvt) ((PlIs.row ho29) 0 (by decide))) ?_
   rintro _ w32 ⟨rfl, hq31⟩
   refine WL.val _ rfl rfl rfl (fun za zC zh zk => ixa_50 (k := 0) rfl (zh.ev rfl) (zh.ev rfl) (by decide) zk) ?_
   have hB33 := hB30.below hq31
   refine WL.step (post := fun _ w' => Upd g9 w32 w' ∧ Blk w' g9 50 #[.int .i64 ((ltr t [])), .int .i64 0, .int .i64 0, .int .i64 0, .int .i64 0, .int .i64 0, .int .i64 0, .int .i64 0]) rfl rfl rfl (fun za zC zh zk => st_3 rfl (zh.ev rfl) (zh.ev rfl) hB33 (by first | decide | simp) (fun v => zk v _ ⟨Upd.at_ _ _ _ _, hB33.set_ 0 _⟩)) ?_
   rintro v37 w34 ⟨hu35, hB36⟩
   have hb38 : Below w.heap.size w w32 := (bstep hb26 hq31)
   have hb39 := upd_below hb38 hu35 (by omega)
   have hB40 := hB27.below hq31
   have hB41 := upd_blk hB40 hu35 (by omega)
   have ho42 := ho29.below hq31
   have ho43 := ho42.upd hu35 (by omega)
   refine WL.nil (WE.blockNormal (WE.next (WC.region ?_)))
   refine WL.val (.int .i64 1) rfl rfl rfl (fun za zC zh zk => addb_3 rfl (zh.ev rfl) (zh.ev rfl) (wrap_eq (by omega) (by omega) (by omega)) zk) ?_
   refine WL.mv rfl rfl rfl rfl rfl (WL.nil ?_)
   refine WE.round 1 ⟨rfl, rfl, rfl, rfl, rfl, trivial⟩ ?_ ?_
   ·exact ⟨(by omega), hb39, hB41, hB36, ho43⟩
   ·omega
  ·have hB44 : Blk w22 g9 50 #[.int .i64 ((ltr t [])), .int .i64 0, .int .i64 0, .int .i64 0, .int .i64 0, .int .i64 0, .int .i64 0, .int .i64 0] := hB28
   refine WC.seq (WC.region ?_)
   refine WL.val (.bool true) rfl rfl rfl (fun za zC zh zk => lss_3 rfl (zh.ev rfl) (zh.ev rfl) zk) ?_
   refine WL.nil (WE.next (WC.seq ?_))
   refine WC.condT rfl rfl ?_
   refine WC.skip (WE.next (WC.seq (WC.block (WC.seq (WC.region (WL.mv rfl rfl rfl rfl rfl ?_))))))
   refine WL.val (.slice ((A 1)) 1 ((C 1))) rfl rfl rfl (fun za zC zh zk => axc_72_1 rfl (zh.ev rfl) (zh.ev rfl) zk) ?_
   refine WL.asg rfl rfl rfl rfl rfl (WL.asg rfl rfl rfl rfl rfl (WL.nil (WE.next (WC.region (WL.mv rfl rfl rfl rfl rfl ?_)))))
   refine WL.val _ rfl rfl rfl (fun za zC zh zk => ld_24 rfl (zh.ev rfl) ((hB27.cell 0).trans rfl) ((hB27.cell 1).trans rfl) zk) ?_
   refine WL.mv rfl rfl rfl rfl rfl ?_
   refine WL.call rfl rfl rfl (fun za zh zC => wp_call (by kernel_rfl) rfl (hv2 (zh.ev rfl) (zh.ev rfl))) (letter_any [0] t _ _ _ _ _ (by decide) (IsT.below hb26 hvt) ((PlIs.row ho29) 1 (by decide))) ?_
   rintro _ w46 ⟨rfl, hq45⟩
   refine WL.val _ rfl rfl rfl (fun za zC zh zk => ixa_50 (k := 1) rfl (zh.ev rfl) (zh.ev rfl) (by decide) zk) ?_
   have hB47 := hB44.below hq45
   refine WL.step (post := fun _ w' => Upd g9 w46 w' ∧ Blk w' g9 50 #[.int .i64 ((ltr t [])), .int .i64 ((ltr t [0])), .int .i64 0, .int .i64 0, .int .i64 0, .int .i64 0, .int .i64 0, .int .i64 0]) rfl rfl rfl (fun za zC zh zk => st_3 rfl (zh.ev rfl) (zh.ev rfl) hB47 (by first | decide | simp) (fun v => zk v _ ⟨Upd.at_ _ _ _ _, hB47.set_ 1 _⟩)) ?_
   rintro v51 w48 ⟨hu49, hB50⟩
   have hb52 : Below w.heap.size w w46 := (bstep hb26 hq45)
   have hb53 := upd_below hb52 hu49 (by omega)
   have hB54 := hB27.below hq45
   have hB55 := upd_blk hB54 hu49 (by omega)
   have ho56 := ho29.below hq45
   have ho57 := ho56.upd hu49 (by omega)
   refine WL.nil (WE.blockNormal (WE.next (WC.region ?_)))
   refine WL.val (.int .i64 2) rfl rfl rfl (fun za zC zh zk => addb_3 rfl (zh.ev rfl) (zh.ev rfl) (wrap_eq (by omega) (by omega) (by omega)) zk) ?_
   refine WL.mv rfl rfl rfl rfl rfl (WL.nil ?_)
   refine WE.round 2 ⟨rfl, rfl, rfl, rfl, rfl, trivial⟩ ?_ ?_
   ·exact ⟨(by omega), hb53, hB55, hB50, ho57⟩
   ·omega
  ·have hB58 : Blk w22 g9 50 #[.int .i64 ((ltr t [])), .int .i64 ((ltr t [0])), .int .i64 0, .int .i64 0, .int .i64 0, .int .i64 0, .int .i64 0, .int .i64 0] := hB28
   refine WC.seq (WC.region ?_)
   refine WL.val (.bool true) rfl rfl rfl (fun za zC zh zk => lss_3 rfl (zh.ev rfl) (zh.ev rfl) zk) ?_
   refine WL.nil (WE.next (WC.seq ?_))
   refine WC.condT rfl rfl ?_
   refine WC.skip (WE.next (WC.seq (WC.block (WC.seq (WC.region (WL.mv rfl rfl rfl rfl rfl ?_))))))
   refine WL.val (.slice ((A 2)) 1 ((C 2))) rfl rfl rfl (fun za zC zh zk => axc_72_2 rfl (zh.ev rfl) (zh.ev rfl) zk) ?_
   refine WL.asg rfl rfl rfl rfl rfl (WL.asg rfl rfl rfl rfl rfl (WL.nil (WE.next (WC.region (WL.mv rfl rfl rfl rfl rfl ?_)))))
   refine WL.val _ rfl rfl rfl (fun za zC zh zk => ld_24 rfl (zh.ev rfl) ((hB27.cell 0).trans rfl) ((hB27.cell 1).trans rfl) zk) ?_
   refine WL.mv rfl rfl rfl rfl rfl ?_
   refine WL.call rfl rfl rfl (fun za zh zC => wp_call (by kernel_rfl) rfl (hv2 (zh.ev rfl) (zh.ev rfl))) (letter_any [1] t _ _ _ _ _ (by decide) (IsT.below hb26 hvt) ((PlIs.row ho29) 2 (by decide))) ?_
   rintro _ w60 ⟨rfl, hq59⟩
   refine WL.val _ rfl rfl rfl (fun za zC zh zk => ixa_50 (k := 2) rfl (zh.ev rfl) (zh.ev rfl) (by decide) zk) ?_
   have hB61 := hB58.below hq59
   refine WL.step (post := fun _ w' => Upd g9 w60 w' ∧ Blk w' g9 50 #[.int .i64 ((ltr t [])), .int .i64 ((ltr t [0])), .int .i64 ((ltr t [1])), .int .i64 0, .int .i64 0, .int .i64 0, .int .i64 0, .int .i64 0]) rfl rfl rfl (fun za zC zh zk => st_3 rfl (zh.ev rfl) (zh.ev rfl) hB61 (by first | decide | simp) (fun v => zk v _ ⟨Upd.at_ _ _ _ _, hB61.set_ 2 _⟩)) ?_
   rintro v65 w62 ⟨hu63, hB64⟩
   have hb66 : Below w.heap.size w w60 := (bstep hb26 hq59)
   have hb67 := upd_below hb66 hu63 (by omega)
   have hB68 := hB27.below hq59
   have hB69 := upd_blk hB68 hu63 (by omega)
   have ho70 := ho29.below hq59
   have ho71 := ho70.upd hu63 (by omega)
   refine WL.nil (WE.blockNormal (WE.next (WC.region ?_)))
   refine WL.val (.int .i64 3) rfl rfl rfl (fun za zC zh zk => addb_3 rfl (zh.ev rfl) (zh.ev rfl) (wrap_eq (by omega) (by omega) (by omega)) zk) ?_
   refine WL.mv rfl rfl rfl rfl rfl (WL.nil ?_)
   refine WE.round 3 ⟨rfl, rfl, rfl, rfl, rfl, trivial⟩ ?_ ?_
   ·exact ⟨(by omega), hb67, hB69, hB64, ho71⟩
   ·omega
  ·have hB72 : Blk w22 g9 50 #[.int .i64 ((ltr t [])), .int .i64 ((ltr t [0])), .int .i64 ((ltr t [1])), .int .i64 0, .int .i64 0, .int .i64 0, .int .i64 0, .int .i64 0] := hB28
   refine WC.seq (WC.region ?_)
   refine WL.val (.bool true) rfl rfl rfl (fun za zC zh zk => lss_3 rfl (zh.ev rfl) (zh.ev rfl) zk) ?_
   refine WL.nil (WE.next (WC.seq ?_))
   refine WC.condT rfl rfl ?_
   refine WC.skip (WE.next (WC.seq (WC.block (WC.seq (WC.region (WL.mv rfl rfl rfl rfl rfl ?_))))))
   refine WL.val (.slice ((A 3)) 1 ((C 3))) rfl rfl rfl (fun za zC zh zk => axc_72_3 rfl (zh.ev rfl) (zh.ev rfl) zk) ?_
   refine WL.asg rfl rfl rfl rfl rfl (WL.asg rfl rfl rfl rfl rfl (WL.nil (WE.next (WC.region (WL.mv rfl rfl rfl rfl rfl ?_)))))
   refine WL.val _ rfl rfl rfl (fun za zC zh zk => ld_24 rfl (zh.ev rfl) ((hB27.cell 0).trans rfl) ((hB27.cell 1).trans rfl) zk) ?_
   refine WL.mv rfl rfl rfl rfl rfl ?_
   refine WL.call rfl rfl rfl (fun za zh zC => wp_call (by kernel_rfl) rfl (hv2 (zh.ev rfl) (zh.ev rfl))) (letter_any [2] t _ _ _ _ _ (by decide) (IsT.below hb26 hvt) ((PlIs.row ho29) 3 (by decide))) ?_
   rintro _ w74 ⟨rfl, hq73⟩
   refine WL.val _ rfl rfl rfl (fun za zC zh zk => ixa_50 (k := 3) rfl (zh.ev rfl) (zh.ev rfl) (by decide) zk) ?_
   have hB75 := hB72.below hq73
   refine WL.step (post := fun _ w' => Upd g9 w74 w' ∧ Blk w' g9 50 #[.int .i64 ((ltr t [])), .int .i64 ((ltr t [0])), .int .i64 ((ltr t [1])), .int .i64 ((ltr t [2])), .int .i64 0, .int .i64 0, .int .i64 0, .int .i64 0]) rfl rfl rfl (fun za zC zh zk => st_3 rfl (zh.ev rfl) (zh.ev rfl) hB75 (by first | decide | simp) (fun v => zk v _ ⟨Upd.at_ _ _ _ _, hB75.set_ 3 _⟩)) ?_
   rintro v79 w76 ⟨hu77, hB78⟩
   have hb80 : Below w.heap.size w w74 := (bstep hb26 hq73)
   have hb81 := upd_below hb80 hu77 (by omega)
   have hB82 := hB27.below hq73
   have hB83 := upd_blk hB82 hu77 (by omega)
   have ho84 := ho29.below hq73
   have ho85 := ho84.upd hu77 (by omega)
   refine WL.nil (WE.blockNormal (WE.next (WC.region ?_)))
   refine WL.val (.int .i64 4) rfl rfl rfl (fun za zC zh zk => addb_3 rfl (zh.ev rfl) (zh.ev rfl) (wrap_eq (by omega) (by omega) (by omega)) zk) ?_
   refine WL.mv rfl rfl rfl rfl rfl (WL.nil ?_)
   refine WE.round 4 ⟨rfl, rfl, rfl, rfl, rfl, trivial⟩ ?_ ?_
   ·exact ⟨(by omega), hb81, hB83, hB78, ho85⟩
   ·omega
  ·have hB86 : Blk w22 g9 50 #[.int .i64 ((ltr t [])), .int .i64 ((ltr t [0])), .int .i64 ((ltr t [1])), .int .i64 ((ltr t [2])), .int .i64 0, .int .i64 0, .int .i64 0, .int .i64 0] := hB28
   refine WC.seq (WC.region ?_)
   refine WL.val (.bool true) rfl rfl rfl (fun za zC zh zk => lss_3 rfl (zh.ev rfl) (zh.ev rfl) zk) ?_
   refine WL.nil (WE.next (WC.seq ?_))
   refine WC.condT rfl rfl ?_
   refine WC.skip (WE.next (WC.seq (WC.block (WC.seq (WC.region (WL.mv rfl rfl rfl rfl rfl ?_))))))
   refine WL.val (.slice ((A 4)) 2 ((C 4))) rfl rfl rfl (fun za zC zh zk => axc_72_4 rfl (zh.ev rfl) (zh.ev rfl) zk) ?_
   refine WL.asg rfl rfl rfl rfl rfl (WL.asg rfl rfl rfl rfl rfl (WL.nil (WE.next (WC.region (WL.mv rfl rfl rfl rfl rfl ?_)))))
   refine WL.val _ rfl rfl rfl (fun za zC zh zk => ld_24 rfl (zh.ev rfl) ((hB27.cell 0).trans rfl) ((hB27.cell 1).trans rfl) zk) ?_
   refine WL.mv rfl rfl rfl rfl rfl ?_
   refine WL.call rfl rfl rfl (fun za zh zC => wp_call (by kernel_rfl) rfl (hv2 (zh.ev rfl) (zh.ev rfl))) (letter_any [0, 0] t _ _ _ _ _ (by decide) (IsT.below hb26 hvt) ((PlIs.row ho29) 4 (by decide))) ?_
   rintro _ w88 ⟨rfl, hq87⟩
   refine WL.val _ rfl rfl rfl (fun za zC zh zk => ixa_50 (k := 4) rfl (zh.ev rfl) (zh.ev rfl) (by decide) zk) ?_
   have hB89 := hB86.below hq87
   refine WL.step (post := fun _ w' => Upd g9 w88 w' ∧ Blk w' g9 50 #[.int .i64 ((ltr t [])), .int .i64 ((ltr t [0])), .int .i64 ((ltr t [1])), .int .i64 ((ltr t [2])), .int .i64 ((ltr t [0, 0])), .int .i64 0, .int .i64 0, .int .i64 0]) rfl rfl rfl (fun za zC zh zk => st_3 rfl (zh.ev rfl) (zh.ev rfl) hB89 (by first | decide | simp) (fun v => zk v _ ⟨Upd.at_ _ _ _ _, hB89.set_ 4 _⟩)) ?_
   rintro v93 w90 ⟨hu91, hB92⟩
   have hb94 : Below w.heap.size w w88 := (bstep hb26 hq87)
   have hb95 := upd_below hb94 hu91 (by omega)
   have hB96 := hB27.below hq87
   have hB97 := upd_blk hB96 hu91 (by omega)
   have ho98 := ho29.below hq87
   have ho99 := ho98.upd hu91 (by omega)
   refine WL.nil (WE.blockNormal (WE.next (WC.region ?_)))
   refine WL.val (.int .i64 5) rfl rfl rfl (fun za zC zh zk => addb_3 rfl (zh.ev rfl) (zh.ev rfl) (wrap_eq (by omega) (by omega) (by omega)) zk) ?_
   refine WL.mv rfl rfl rfl rfl rfl (WL.nil ?_)
   refine WE.round 5 ⟨rfl, rfl, rfl, rfl, rfl, trivial⟩ ?_ ?_
   ·exact ⟨(by omega), hb95, hB97, hB92, ho99⟩
   ·omega
  ·have hB100 : Blk w22 g9 50 #[.int .i64 ((ltr t [])), .int .i64 ((ltr t [0])), .int .i64 ((ltr t [1])), .int .i64 ((ltr t [2])), .int .i64 ((ltr t [0, 0])), .int .i64 0, .int .i64 0, .int .i64 0] := hB28
   refine WC.seq (WC.region ?_)
   refine WL.val (.bool true) rfl rfl rfl (fun za zC zh zk => lss_3 rfl (zh.ev rfl) (zh.ev rfl) zk) ?_
   refine WL.nil (WE.next (WC.seq ?_))
   refine WC.condT rfl rfl ?_
   refine WC.skip (WE.next (WC.seq (WC.block (WC.seq (WC.region (WL.mv rfl rfl rfl rfl rfl ?_))))))
   refine WL.val (.slice ((A 5)) 2 ((C 5))) rfl rfl rfl (fun za zC zh zk => axc_72_5 rfl (zh.ev rfl) (zh.ev rfl) zk) ?_
   refine WL.asg rfl rfl rfl rfl rfl (WL.asg rfl rfl rfl rfl rfl (WL.nil (WE.next (WC.region (WL.mv rfl rfl rfl rfl rfl ?_)))))
   refine WL.val _ rfl rfl rfl (fun za zC zh zk => ld_24 rfl (zh.ev rfl) ((hB27.cell 0).trans rfl) ((hB27.cell 1).trans rfl) zk) ?_
   refine WL.mv rfl rfl rfl rfl rfl ?_
   refine WL.call rfl rfl rfl (fun za zh zC => wp_call (by kernel_rfl) rfl (hv2 (zh.ev rfl) (zh.ev rfl))) (letter_any [0, 1] t _ _ _ _ _ (by decide) (IsT.below hb26 hvt) ((PlIs.row ho29) 5 (by decide))) ?_
   rintro _ w102 ⟨rfl, hq101⟩
   refine WL.val _ rfl rfl rfl (fun za zC zh zk => ixa_50 (k := 5) rfl (zh.ev rfl) (zh.ev rfl) (by decide) zk) ?_
   have hB103 := hB100.below hq101
   refine WL.step (post := fun _ w' => Upd g9 w102 w' ∧ Blk w' g9 50 #[.int .i64 ((ltr t [])), .int .i64 ((ltr t [0])), .int .i64 ((ltr t [1])), .int .i64 ((ltr t [2])), .int .i64 ((ltr t [0, 0])), .int .i64 ((ltr t [0, 1])), .int .i64 0, .int .i64 0]) rfl rfl rfl (fun za zC zh zk => st_3 rfl (zh.ev rfl) (zh.ev rfl) hB103 (by first | decide | simp) (fun v => zk v _ ⟨Upd.at_ _ _ _ _, hB103.set_ 5 _⟩)) ?_
   rintro v107 w104 ⟨hu105, hB106⟩
   have hb108 : Below w.heap.size w w102 := (bstep hb26 hq101)
   have hb109 := upd_below hb108 hu105 (by omega)
   have hB110 := hB27.below hq101
   have hB111 := upd_blk hB110 hu105 (by omega)
   have ho112 := ho29.below hq101
   have ho113 := ho112.upd hu105 (by omega)
   refine WL.nil (WE.blockNormal (WE.next (WC.region ?_)))
   refine WL.val (.int .i64 6) rfl rfl rfl (fun za zC zh zk => addb_3 rfl (zh.ev rfl) (zh.ev rfl) (wrap_eq (by omega) (by omega) (by omega)) zk) ?_
   refine WL.mv rfl rfl rfl rfl rfl (WL.nil ?_)
   refine WE.round 6 ⟨rfl, rfl, rfl, rfl, rfl, trivial⟩ ?_ ?_
   ·exact ⟨(by omega), hb109, hB111, hB106, ho113⟩
   ·omega
  ·have hB114 : Blk w22 g9 50 #[.int .i64 ((ltr t [])), .int .i64 ((ltr t [0])), .int .i64 ((ltr t [1])), .int .i64 ((ltr t [2])), .int .i64 ((ltr t [0, 0])), .int .i64 ((ltr t [0, 1])), .int .i64 0, .int .i64 0] := hB28
   refine WC.seq (WC.region ?_)
   refine WL.val (.bool true) rfl rfl rfl (fun za zC zh zk => lss_3 rfl (zh.ev rfl) (zh.ev rfl) zk) ?_
   refine WL.nil (WE.next (WC.seq ?_))
   refine WC.condT rfl rfl ?_
   refine WC.skip (WE.next (WC.seq (WC.block (WC.seq (WC.region (WL.mv rfl rfl rfl rfl rfl ?_))))))
   refine WL.val (.slice ((A 6)) 2 ((C 6))) rfl rfl rfl (fun za zC zh zk => axc_72_6 rfl (zh.ev rfl) (zh.ev rfl) zk) ?_
   refine WL.asg rfl rfl rfl rfl rfl (WL.asg rfl rfl rfl rfl rfl (WL.nil (WE.next (WC.region (WL.mv rfl rfl rfl rfl rfl ?_)))))
   refine WL.val _ rfl rfl rfl (fun za zC zh zk => ld_24 rfl (zh.ev rfl) ((hB27.cell 0).trans rfl) ((hB27.cell 1).trans rfl) zk) ?_
   refine WL.mv rfl rfl rfl rfl rfl ?_
   refine WL.call rfl rfl rfl (fun za zh zC => wp_call (by kernel_rfl) rfl (hv2 (zh.ev rfl) (zh.ev rfl))) (letter_any [1, 0] t _ _ _ _ _ (by decide) (IsT.below hb26 hvt) ((PlIs.row ho29) 6 (by decide))) ?_
   rintro _ w116 ⟨rfl, hq115⟩
   refine WL.val _ rfl rfl rfl (fun za zC zh zk => ixa_50 (k := 6) rfl (zh.ev rfl) (zh.ev rfl) (by decide) zk) ?_
   have hB117 := hB114.below hq115
   refine WL.step (post := fun _ w' => Upd g9 w116 w' ∧ Blk w' g9 50 #[.int .i64 ((ltr t [])), .int .i64 ((ltr t [0])), .int .i64 ((ltr t [1])), .int .i64 ((ltr t [2])), .int .i64 ((ltr t [0, 0])), .int .i64 ((ltr t [0, 1])), .int .i64 ((ltr t [1, 0])), .int .i64 0]) rfl rfl rfl (fun za zC zh zk => st_3 rfl (zh.ev rfl) (zh.ev rfl) hB117 (by first | decide | simp) (fun v => zk v _ ⟨Upd.at_ _ _ _ _, hB117.set_ 6 _⟩)) ?_
   rintro v121 w118 ⟨hu119, hB120⟩
   have hb122 : Below w.heap.size w w116 := (bstep hb26 hq115)
   have hb123 := upd_below hb122 hu119 (by omega)
   have hB124 := hB27.below hq115
   have hB125 := upd_blk hB124 hu119 (by omega)
   have ho126 := ho29.below hq115
   have ho127 := ho126.upd hu119 (by omega)
   refine WL.nil (WE.blockNormal (WE.next (WC.region ?_)))
   refine WL.val (.int .i64 7) rfl rfl rfl (fun za zC zh zk => addb_3 rfl (zh.ev rfl) (zh.ev rfl) (wrap_eq (by omega) (by omega) (by omega)) zk) ?_
   refine WL.mv rfl rfl rfl rfl rfl (WL.nil ?_)
   refine WE.round 7 ⟨rfl, rfl, rfl, rfl, rfl, trivial⟩ ?_ ?_
   ·exact ⟨(by omega), hb123, hB125, hB120, ho127⟩
   ·omega
  ·have hB128 : Blk w22 g9 50 #[.int .i64 ((ltr t [])), .int .i64 ((ltr t [0])), .int .i64 ((ltr t [1])), .int .i64 ((ltr t [2])), .int .i64 ((ltr t [0, 0])), .int .i64 ((ltr t [0, 1])), .int .i64 ((ltr t [1, 0])), .int .i64 0] := hB28
   refine WC.seq (WC.region ?_)
   refine WL.val (.bool true) rfl rfl rfl (fun za zC zh zk => lss_3 rfl (zh.ev rfl) (zh.ev rfl) zk) ?_
   refine WL.nil (WE.next (WC.seq ?_))
   refine WC.condT rfl rfl ?_
   refine WC.skip (WE.next (WC.seq (WC.block (WC.seq (WC.region (WL.mv rfl rfl rfl rfl rfl ?_))))))
   refine WL.val (.slice ((A 7)) 2 ((C 7))) rfl rfl rfl (fun za zC zh zk => axc_72_7 rfl (zh.ev rfl) (zh.ev rfl) zk) ?_
   refine WL.asg rfl rfl rfl rfl rfl (WL.asg rfl rfl rfl rfl rfl (WL.nil (WE.next (WC.region (WL.mv rfl rfl rfl rfl rfl ?_)))))
   refine WL.val _ rfl rfl rfl (fun za zC zh zk => ld_24 rfl (zh.ev rfl) ((hB27.cell 0).trans rfl) ((hB27.cell 1).trans rfl) zk) ?_
   refine WL.mv rfl rfl rfl rfl rfl ?_
   refine WL.call rfl rfl rfl (fun za zh zC => wp_call (by kernel_rfl) rfl (hv2 (zh.ev rfl) (zh.ev rfl))) (letter_any [1, 1] t _ _ _ _ _ (by decide) (IsT.below hb26 hvt) ((PlIs.row ho29) 7 (by decide))) ?_
   rintro _ w130 ⟨rfl, hq129⟩
   refine WL.val _ rfl rfl rfl (fun za zC zh zk => ixa_50 (k := 7) rfl (zh.ev rfl) (zh.ev rfl) (by decide) zk) ?_
   have hB131 := hB128.below hq129
   refine WL.step (post := fun _ w' => Upd g9 w130 w' ∧ Blk w' g9 50 #[.int .i64 ((ltr t [])), .int .i64 ((ltr t [0])), .int .i64 ((ltr t [1])), .int .i64 ((ltr t [2])), .int .i64 ((ltr t [0, 0])), .int .i64 ((ltr t [0, 1])), .int .i64 ((ltr t [1, 0])), .int .i64 ((ltr t [1, 1]))]) rfl rfl rfl (fun za zC zh zk => st_3 rfl (zh.ev rfl) (zh.ev rfl) hB131 (by first | decide | simp) (fun v => zk v _ ⟨Upd.at_ _ _ _ _, hB131.set_ 7 _⟩)) ?_
   rintro v135 w132 ⟨hu133, hB134⟩
   have hb136 : Below w.heap.size w w130 := (bstep hb26 hq129)
   have hb137 := upd_below hb136 hu133 (by omega)
   have hB138 := hB27.below hq129
   have hB139 := upd_blk hB138 hu133 (by omega)
   have ho140 := ho29.below hq129
   have ho141 := ho140.upd hu133 (by omega)
   refine WL.nil (WE.blockNormal (WE.next (WC.region ?_)))
   refine WL.val (.int .i64 8) rfl rfl rfl (fun za zC zh zk => addb_3 rfl (zh.ev rfl) (zh.ev rfl) (wrap_eq (by omega) (by omega) (by omega)) zk) ?_
   refine WL.mv rfl rfl rfl rfl rfl (WL.nil ?_)
   refine WE.round 8 ⟨rfl, rfl, rfl, rfl, rfl, trivial⟩ ?_ ?_
   ·exact ⟨(by omega), hb137, hB139, hB134, ho141⟩
   ·omega
  ·have hB142 : Blk w22 g9 50 #[.int .i64 ((ltr t [])), .int .i64 ((ltr t [0])), .int .i64 ((ltr t [1])), .int .i64 ((ltr t [2])), .int .i64 ((ltr t [0, 0])), .int .i64 ((ltr t [0, 1])), .int .i64 ((ltr t [1, 0])), .int .i64 ((ltr t [1, 1]))] := hB28
   refine WC.seq (WC.region ?_)
   refine WL.val (.bool false) rfl rfl rfl (fun za zC zh zk => lss_3 rfl (zh.ev rfl) (zh.ev rfl) zk) ?_
   refine WL.nil (WE.next (WC.seq ?_))
   refine WC.condF rfl rfl ?_
   refine WC.exit (WE.thenExit (WE.thenExit (WE.blockIs rfl (WE.next (WC.seq (WC.region ?_))))))
   refine WL.val _ rfl rfl rfl (fun za zC zh zk => ld_50 rfl (zh.ev rfl) ((hB142.cell 0).trans rfl) ((hB142.cell 1).trans rfl) ((hB142.cell 2).trans rfl) ((hB142.cell 3).trans rfl) ((hB142.cell 4).trans rfl) ((hB142.cell 5).trans rfl) ((hB142.cell 6).trans rfl) ((hB142.cell 7).trans rfl) zk) ?_
   refine WL.step (post := fun _ w' => Upd g9 w22 w' ∧ Blk w' g9 50 #[.int .i64 ((ltr t [])), .int .i64 ((ltr t [0])), .int .i64 ((ltr t [1])), .int .i64 ((ltr t [2])), .int .i64 ((ltr t [0, 0])), .int .i64 ((ltr t [0, 1])), .int .i64 ((ltr t [1, 0])), .int .i64 ((ltr t [1, 1]))]) rfl rfl rfl (fun za zC zh zk => st_50 rfl (zh.ev rfl) (zh.ev rfl) rfl rfl rfl rfl rfl rfl rfl rfl hB142 (by first | decide | simp) (fun v => by have zb0 : Blk _ g9 50 #[.int .i64 ((ltr t [])), .int .i64 ((ltr t [0])), .int .i64 ((ltr t [1])), .int .i64 ((ltr t [2])), .int .i64 ((ltr t [0, 0])), .int .i64 ((ltr t [0, 1])), .int .i64 ((ltr t [1, 0])), .int .i64 ((ltr t [1, 1]))] := hB142.set_ 0 _; have zb1 : Blk _ g9 50 #[.int .i64 ((ltr t [])), .int .i64 ((ltr t [0])), .int .i64 ((ltr t [1])), .int .i64 ((ltr t [2])), .int .i64 ((ltr t [0, 0])), .int .i64 ((ltr t [0, 1])), .int .i64 ((ltr t [1, 0])), .int .i64 ((ltr t [1, 1]))] := zb0.set_ 1 _; have zb2 : Blk _ g9 50 #[.int .i64 ((ltr t [])), .int .i64 ((ltr t [0])), .int .i64 ((ltr t [1])), .int .i64 ((ltr t [2])), .int .i64 ((ltr t [0, 0])), .int .i64 ((ltr t [0, 1])), .int .i64 ((ltr t [1, 0])), .int .i64 ((ltr t [1, 1]))] := zb1.set_ 2 _; have zb3 : Blk _ g9 50 #[.int .i64 ((ltr t [])), .int .i64 ((ltr t [0])), .int .i64 ((ltr t [1])), .int .i64 ((ltr t [2])), .int .i64 ((ltr t [0, 0])), .int .i64 ((ltr t [0, 1])), .int .i64 ((ltr t [1, 0])), .int .i64 ((ltr t [1, 1]))] := zb2.set_ 3 _; have zb4 : Blk _ g9 50 #[.int .i64 ((ltr t [])), .int .i64 ((ltr t [0])), .int .i64 ((ltr t [1])), .int .i64 ((ltr t [2])), .int .i64 ((ltr t [0, 0])), .int .i64 ((ltr t [0, 1])), .int .i64 ((ltr t [1, 0])), .int .i64 ((ltr t [1, 1]))] := zb3.set_ 4 _; have zb5 : Blk _ g9 50 #[.int .i64 ((ltr t [])), .int .i64 ((ltr t [0])), .int .i64 ((ltr t [1])), .int .i64 ((ltr t [2])), .int .i64 ((ltr t [0, 0])), .int .i64 ((ltr t [0, 1])), .int .i64 ((ltr t [1, 0])), .int .i64 ((ltr t [1, 1]))] := zb4.set_ 5 _; have zb6 : Blk _ g9 50 #[.int .i64 ((ltr t [])), .int .i64 ((ltr t [0])), .int .i64 ((ltr t [1])), .int .i64 ((ltr t [2])), .int .i64 ((ltr t [0, 0])), .int .i64 ((ltr t [0, 1])), .int .i64 ((ltr t [1, 0])), .int .i64 ((ltr t [1, 1]))] := zb5.set_ 6 _; have zb7 : Blk _ g9 50 #[.int .i64 ((ltr t [])), .int .i64 ((ltr t [0])), .int .i64 ((ltr t [1])), .int .i64 ((ltr t [2])), .int .i64 ((ltr t [0, 0])), .int .i64 ((ltr t [0, 1])), .int .i64 ((ltr t [1, 0])), .int .i64 ((ltr t [1, 1]))] := zb6.set_ 7 _; exact zk v _ ⟨(((((((Upd.at_ _ _ _ _).trans (Upd.at_ _ _ _ _)).trans (Upd.at_ _ _ _ _)).trans (Upd.at_ _ _ _ _)).trans (Upd.at_ _ _ _ _)).trans (Upd.at_ _ _ _ _)).trans (Upd.at_ _ _ _ _)).trans (Upd.at_ _ _ _ _), zb7⟩)) ?_
   rintro v146 w143 ⟨hu144, hB145⟩
   have hb147 := upd_below hb26 hu144 (by omega)
   have hB148 := upd_blk hB27 hu144 (by omega)
   have ho149 := ho29.upd hu144 (by omega)
   refine WL.nil (WE.next (WC.ret ?_))
   refine WE.retAny (v := .agg #[.int .i64 ((ltr t [])), .int .i64 ((ltr t [0])), .int .i64 ((ltr t [1])), .int .i64 ((ltr t [2])), .int .i64 ((ltr t [0, 0])), .int .i64 ((ltr t [0, 1])), .int .i64 ((ltr t [1, 0])), .int .i64 ((ltr t [1, 1]))]) (fun za zh => ?_) ?_
   ·have z0 : za.tmps[2]?.getD undef = .pointer (some ⟨g9, 0, none⟩) := by rw [← Array.getD_eq_getD_getElem?]; exact zh.knows 2 _ rfl
    have y0 : w143.cell? ⟨g9, 0, none⟩ = some (.int .i64 ((ltr t []))) := ((hB145.cell 0).trans rfl)
    have y1 : w143.cell? ⟨g9, 1, none⟩ = some (.int .i64 ((ltr t [0]))) := ((hB145.cell 1).trans rfl)
    have y2 : w143.cell? ⟨g9, 2, none⟩ = some (.int .i64 ((ltr t [1]))) := ((hB145.cell 2).trans rfl)
    have y3 : w143.cell? ⟨g9, 3, none⟩ = some (.int .i64 ((ltr t [2]))) := ((hB145.cell 3).trans rfl)
    have y4 : w143.cell? ⟨g9, 4, none⟩ = some (.int .i64 ((ltr t [0, 0]))) := ((hB145.cell 4).trans rfl)
    have y5 : w143.cell? ⟨g9, 5, none⟩ = some (.int .i64 ((ltr t [0, 1]))) := ((hB145.cell 5).trans rfl)
    have y6 : w143.cell? ⟨g9, 6, none⟩ = some (.int .i64 ((ltr t [1, 0]))) := ((hB145.cell 6).trans rfl)
    have y7 : w143.cell? ⟨g9, 7, none⟩ = some (.int .i64 ((ltr t [1, 1]))) := ((hB145.cell 7).trans rfl)
    simp [results, Try.results25, z0, y0, y1, y2, y3, y4, y5, y6, y7, go_sem]
   ·exact ⟨_, rfl, rfl, hb147⟩
set_option maxRecDepth 100000 in
theorem fU_any (x y : Int) (w : World) : Calls Try.prog 28 #[.int .i64 x, .int .i64 y] w (Ret fun v' w' => v' = .bool (ltU x y) ∧ Below w.heap.size w w') := by
 skip
 refine Calls.walk (l := [.int .i64 x, .int .i64 y]) Try.func28 rfl (by kernel_rfl) ?_
 refine WC.sub (K' := [(0, .int .i64 x), (1, .int .i64 y)]) ⟨rfl, rfl, trivial⟩ ?_
 refine WC.seq (WC.region (WL.asg rfl rfl rfl rfl rfl (WL.nil (WE.next (WC.seq (WC.block (WC.seq ?_)))))))
 refine WC.opt [(true, .val (.int .i64 x)), (true, .val (.bool (((x : Int) == ((-2) : Int))))), (true, .val (.bool (((x : Int) == ((-2) : Int))))), ((true && !((x : Int) == ((-2) : Int))), .val (.int .i64 y)), ((true && !((x : Int) == ((-2) : Int))), .val (.bool (((y : Int) == ((-2) : Int))))), (true, .val (.bool ((((x : Int) == ((-2) : Int)) || ((y : Int) == ((-2) : Int)))))), (true, .val (.bool ((((x : Int) == ((-2) : Int)) || ((y : Int) == ((-2) : Int))))))] [(0, .int .i64 x), (1, .int .i64 y), (4, .bool false)] ⟨rfl, rfl, rfl, trivial⟩ (by kernel_rfl) (by kernel_rfl) (by kernel_rfl) ?_ ?_
 ·refine ⟨⟨true, .none rfl, fun h w => optUndef h, fun zβ za zw zc => ?_⟩, ?_⟩
  ·exact wp_move rfl (zc.kn.ev rfl) ⟨_, rfl, Below.refl _ _, optDef zβ rfl⟩
  refine ⟨⟨true, .none rfl, fun h w => optUndef h, fun zβ za zw zc => ?_⟩, ?_⟩
  ·exact eql_3 rfl ((evt za 6).trans (optVal (zc.dep 0 6 (by kernel_rfl)) rfl rfl)) (zc.kn.ev rfl) ⟨_, rfl, Below.refl _ _, optDef zβ rfl⟩
  refine ⟨⟨true, .none rfl, fun h w => optUndef h, fun zβ za zw zc => ?_⟩, ?_⟩
  ·exact wp_move rfl ((evt za 7).trans (optVal (zc.dep 1 7 (by kernel_rfl)) rfl rfl)) ⟨_, rfl, Below.refl _ _, optDef zβ rfl⟩
  refine ⟨⟨_, .no (d := true) rfl (fun v w h => h), fun h w => optUndef h, fun zβ za zw zc => ?_⟩, ?_⟩
  ·exact wp_move rfl (zc.kn.ev rfl) ⟨_, rfl, Below.refl _ _, optDef zβ rfl⟩
  refine ⟨⟨_, .no (d := true) rfl (fun v w h => h), fun h w => optUndef h, fun zβ za zw zc => ?_⟩, ?_⟩
  ·exact eql_3 rfl ((evt za 9).trans (optVal (zc.dep 3 9 (by kernel_rfl)) rfl zβ)) (zc.kn.ev rfl) ⟨_, rfl, Below.refl _ _, optDef zβ rfl⟩
  refine ⟨⟨true, .none rfl, fun h w => optUndef h, fun zβ za zw zc => ?_⟩, ?_⟩
  ·exact wp_or rfl ((evt za 8).trans (optVal (zc.dep 2 8 (by kernel_rfl)) rfl rfl)) (fun hp => ((evt za 10).trans (optVal (zc.dep 4 10 (by kernel_rfl)) rfl (bMkN zβ hp)))) ⟨_, rfl, Below.refl _ _, optDef zβ rfl⟩
  refine ⟨⟨true, .none rfl, fun h w => optUndef h, fun zβ za zw zc => ?_⟩, ?_⟩
  ·exact wp_assign rfl ((evt za 11).trans (optVal (zc.dep 5 11 (by kernel_rfl)) rfl rfl)) ⟨_, rfl, Below.refl _ _, optDef zβ rfl⟩
  exact trivial
 ·intro za w1 zh hb2 zu
  have zh := zh.cons (d := 5) (v := .bool ((((x : Int) == ((-2) : Int)) || ((y : Int) == ((-2) : Int))))) (optVal (zu 6 5 (by kernel_rfl)) rfl rfl)
  clear zu
  refine WE.go zh ?_
  refine WE.next ?_
  refine WC.cond rfl (fun h3 => ?_) (fun h3 => ?_)
  ·have h3 : ((x : Int) = ((-2) : Int)) ∨ ((y : Int) = ((-2) : Int)) := by simpa using h3
   refine WC.seq (WC.region (WL.asg rfl rfl rfl rfl rfl (WL.nil (WE.next (WC.ret (WE.blockRet (WE.thenRet (WE.ret1 rfl rfl ?_))))))))
   refine ⟨_, rfl, congrArg Value.bool ?_, hb2⟩
   unfold ltU
   rw [Bool.eq_iff_iff]
   by_cases q1 : x = -2 <;> by_cases q2 : y = -2 <;> by_cases q3 : x = -3 <;> by_cases q4 : y = -3 <;> by_cases q5 : x = -1 <;> by_cases q6 : y = -1 <;> simp_all <;> omega
  ·have h3 : ¬ (((x : Int) = ((-2) : Int)) ∨ ((y : Int) = ((-2) : Int))) := by simpa using h3
   refine WC.seq ?_
   refine WC.opt [(true, .val (.int .i64 x)), (true, .val (.bool (((x : Int) == ((-3) : Int))))), (true, .val (.bool (((x : Int) == ((-3) : Int))))), ((true && !((x : Int) == ((-3) : Int))), .val (.int .i64 y)), ((true && !((x : Int) == ((-3) : Int))), .val (.bool (((y : Int) == ((-3) : Int))))), (true, .val (.bool ((((x : Int) == ((-3) : Int)) || ((y : Int) == ((-3) : Int)))))), (true, .val (.bool ((((x : Int) == ((-3) : Int)) || ((y : Int) == ((-3) : Int))))))] [(0, .int .i64 x), (1, .int .i64 y), (4, .bool false), (5, .bool ((((x : Int) == ((-2) : Int)) || ((y : Int) == ((-2) : Int)))))] ⟨rfl, rfl, rfl, rfl, trivial⟩ (by kernel_rfl) (by kernel_rfl) (by kernel_rfl) ?_ ?_
   ·refine ⟨⟨true, .none rfl, fun h w => optUndef h, fun zβ za zw zc => ?_⟩, ?_⟩
    ·exact wp_move rfl (zc.kn.ev rfl) ⟨_, rfl, Below.refl _ _, optDef zβ rfl⟩
    refine ⟨⟨true, .none rfl, fun h w => optUndef h, fun zβ za zw zc => ?_⟩, ?_⟩
    ·exact eql_3 rfl ((evt za 13).trans (optVal (zc.dep 0 13 (by kernel_rfl)) rfl rfl)) (zc.kn.ev rfl) ⟨_, rfl, Below.refl _ _, optDef zβ rfl⟩
    refine ⟨⟨true, .none rfl, fun h w => optUndef h, fun zβ za zw zc => ?_⟩, ?_⟩
    ·exact wp_move rfl ((evt za 14).trans (optVal (zc.dep 1 14 (by kernel_rfl)) rfl rfl)) ⟨_, rfl, Below.refl _ _, optDef zβ rfl⟩
    refine ⟨⟨_, .no (d := true) rfl (fun v w h => h), fun h w => optUndef h, fun zβ za zw zc => ?_⟩, ?_⟩
    ·exact wp_move rfl (zc.kn.ev rfl) ⟨_, rfl, Below.refl _ _, optDef zβ rfl⟩
    refine ⟨⟨_, .no (d := true) rfl (fun v w h => h), fun h w => optUndef h, fun zβ za zw zc => ?_⟩, ?_⟩
    ·exact eql_3 rfl ((evt za 16).trans (optVal (zc.dep 3 16 (by kernel_rfl)) rfl zβ)) (zc.kn.ev rfl) ⟨_, rfl, Below.refl _ _, optDef zβ rfl⟩
    refine ⟨⟨true, .none rfl, fun h w => optUndef h, fun zβ za zw zc => ?_⟩, ?_⟩
    ·exact wp_or rfl ((evt za 15).trans (optVal (zc.dep 2 15 (by kernel_rfl)) rfl rfl)) (fun hp => ((evt za 17).trans (optVal (zc.dep 4 17 (by kernel_rfl)) rfl (bMkN zβ hp)))) ⟨_, rfl, Below.refl _ _, optDef zβ rfl⟩
    refine ⟨⟨true, .none rfl, fun h w => optUndef h, fun zβ za zw zc => ?_⟩, ?_⟩
    ·exact wp_assign rfl ((evt za 18).trans (optVal (zc.dep 5 18 (by kernel_rfl)) rfl rfl)) ⟨_, rfl, Below.refl _ _, optDef zβ rfl⟩
    exact trivial
   ·intro za w4 zh hb5 zu
    have zh := zh.cons (d := 12) (v := .bool ((((x : Int) == ((-3) : Int)) || ((y : Int) == ((-3) : Int))))) (optVal (zu 6 12 (by kernel_rfl)) rfl rfl)
    clear zu
    refine WE.go zh ?_
    refine WE.next ?_
    refine WC.cond rfl (fun h6 => ?_) (fun h6 => ?_)
    ·have h6 : ((x : Int) = ((-3) : Int)) ∨ ((y : Int) = ((-3) : Int)) := by simpa using h6
     refine WC.seq (WC.region (WL.mv rfl rfl rfl rfl rfl (WL.mv rfl rfl rfl rfl rfl ?_)))
     refine WL.val (.bool (((x : Int) == (y : Int)))) rfl rfl rfl (fun za zC zh zk => eql_3 rfl (zh.ev rfl) (zh.ev rfl) zk) ?_
     refine WL.asg rfl rfl rfl rfl rfl (WL.nil (WE.next (WC.ret (WE.blockRet (WE.thenRet (WE.ret1 rfl rfl ?_))))))
     have hb7 : Below w.heap.size w w4 := (bstep hb2 hb5)
     refine ⟨_, rfl, congrArg Value.bool ?_, hb7⟩
     unfold ltU
     rw [Bool.eq_iff_iff]
     by_cases q1 : x = -2 <;> by_cases q2 : y = -2 <;> by_cases q3 : x = -3 <;> by_cases q4 : y = -3 <;> by_cases q5 : x = -1 <;> by_cases q6 : y = -1 <;> simp_all <;> omega
    ·have h6 : ¬ (((x : Int) = ((-3) : Int)) ∨ ((y : Int) = ((-3) : Int))) := by simpa using h6
     refine WC.skip (WE.blockNormal (WE.next (WC.seq ?_)))
     refine WC.opt [(true, .val (.int .i64 x)), (true, .val (.int .i64 y)), (true, .val (.bool (((x : Int) == (y : Int))))), (true, .val (.bool (((x : Int) == (y : Int))))), ((true && !((x : Int) == (y : Int))), .val (.int .i64 x)), ((true && !((x : Int) == (y : Int))), .val (.bool (((x : Int) == ((-1) : Int))))), (true, .val (.bool ((((x : Int) == (y : Int)) || ((x : Int) == ((-1) : Int)))))), (true, .val (.bool ((((x : Int) == (y : Int)) || ((x : Int) == ((-1) : Int)))))), ((true && !(((x : Int) == (y : Int)) || ((x : Int) == ((-1) : Int)))), .val (.int .i64 y)), ((true && !(((x : Int) == (y : Int)) || ((x : Int) == ((-1) : Int)))), .val (.bool (((y : Int) == ((-1) : Int))))), (true, .val (.bool (((((x : Int) == (y : Int)) || ((x : Int) == ((-1) : Int))) || ((y : Int) == ((-1) : Int)))))), (true, .val (.bool (((((x : Int) == (y : Int)) || ((x : Int) == ((-1) : Int))) || ((y : Int) == ((-1) : Int))))))] [(0, .int .i64 x), (1, .int .i64 y), (5, .bool ((((x : Int) == ((-2) : Int)) || ((y : Int) == ((-2) : Int))))), (12, .bool ((((x : Int) == ((-3) : Int)) || ((y : Int) == ((-3) : Int)))))] ⟨rfl, rfl, rfl, rfl, trivial⟩ (by kernel_rfl) (by kernel_rfl) (by kernel_rfl) ?_ ?_
     ·refine ⟨⟨true, .none rfl, fun h w => optUndef h, fun zβ za zw zc => ?_⟩, ?_⟩
      ·exact wp_move rfl (zc.kn.ev rfl) ⟨_, rfl, Below.refl _ _, optDef zβ rfl⟩
      refine ⟨⟨true, .none rfl, fun h w => optUndef h, fun zβ za zw zc => ?_⟩, ?_⟩
      ·exact wp_move rfl (zc.kn.ev rfl) ⟨_, rfl, Below.refl _ _, optDef zβ rfl⟩
      refine ⟨⟨true, .none rfl, fun h w => optUndef h, fun zβ za zw zc => ?_⟩, ?_⟩
      ·exact eql_3 rfl ((evt za 22).trans (optVal (zc.dep 0 22 (by kernel_rfl)) rfl rfl)) ((evt za 23).trans (optVal (zc.dep 1 23 (by kernel_rfl)) rfl rfl)) ⟨_, rfl, Below.refl _ _, optDef zβ rfl⟩
      refine ⟨⟨true, .none rfl, fun h w => optUndef h, fun zβ za zw zc => ?_⟩, ?_⟩
      ·exact wp_move rfl ((evt za 24).trans (optVal (zc.dep 2 24 (by kernel_rfl)) rfl rfl)) ⟨_, rfl, Below.refl _ _, optDef zβ rfl⟩
      refine ⟨⟨_, .no (d := true) rfl (fun v w h => h), fun h w => optUndef h, fun zβ za zw zc => ?_⟩, ?_⟩
      ·exact wp_move rfl (zc.kn.ev rfl) ⟨_, rfl, Below.refl _ _, optDef zβ rfl⟩
      refine ⟨⟨_, .no (d := true) rfl (fun v w h => h), fun h w => optUndef h, fun zβ za zw zc => ?_⟩, ?_⟩
      ·exact eql_3 rfl ((evt za 26).trans (optVal (zc.dep 4 26 (by kernel_rfl)) rfl zβ)) (zc.kn.ev rfl) ⟨_, rfl, Below.refl _ _, optDef zβ rfl⟩
      refine ⟨⟨true, .none rfl, fun h w => optUndef h, fun zβ za zw zc => ?_⟩, ?_⟩
      ·exact wp_or rfl ((evt za 25).trans (optVal (zc.dep 3 25 (by kernel_rfl)) rfl rfl)) (fun hp => ((evt za 27).trans (optVal (zc.dep 5 27 (by kernel_rfl)) rfl (bMkN zβ hp)))) ⟨_, rfl, Below.refl _ _, optDef zβ rfl⟩
      refine ⟨⟨true, .none rfl, fun h w => optUndef h, fun zβ za zw zc => ?_⟩, ?_⟩
      ·exact wp_move rfl ((evt za 28).trans (optVal (zc.dep 6 28 (by kernel_rfl)) rfl rfl)) ⟨_, rfl, Below.refl _ _, optDef zβ rfl⟩
      refine ⟨⟨_, .no (d := true) rfl (fun v w h => h), fun h w => optUndef h, fun zβ za zw zc => ?_⟩, ?_⟩
      ·exact wp_move rfl (zc.kn.ev rfl) ⟨_, rfl, Below.refl _ _, optDef zβ rfl⟩
      refine ⟨⟨_, .no (d := true) rfl (fun v w h => h), fun h w => optUndef h, fun zβ za zw zc => ?_⟩, ?_⟩
      ·exact eql_3 rfl ((evt za 30).trans (optVal (zc.dep 8 30 (by kernel_rfl)) rfl zβ)) (zc.kn.ev rfl) ⟨_, rfl, Below.refl _ _, optDef zβ rfl⟩
      refine ⟨⟨true, .none rfl, fun h w => optUndef h, fun zβ za zw zc => ?_⟩, ?_⟩
      ·exact wp_or rfl ((evt za 29).trans (optVal (zc.dep 7 29 (by kernel_rfl)) rfl rfl)) (fun hp => ((evt za 31).trans (optVal (zc.dep 9 31 (by kernel_rfl)) rfl (bMkN zβ hp)))) ⟨_, rfl, Below.refl _ _, optDef zβ rfl⟩
      refine ⟨⟨true, .none rfl, fun h w => optUndef h, fun zβ za zw zc => ?_⟩, ?_⟩
      ·exact wp_assign rfl ((evt za 32).trans (optVal (zc.dep 10 32 (by kernel_rfl)) rfl rfl)) ⟨_, rfl, Below.refl _ _, optDef zβ rfl⟩
      exact trivial
     ·intro za w8 zh hb9 zu
      have zh := zh.cons (d := 4) (v := .bool (((((x : Int) == (y : Int)) || ((x : Int) == ((-1) : Int))) || ((y : Int) == ((-1) : Int))))) (optVal (zu 11 4 (by kernel_rfl)) rfl rfl)
      clear zu
      refine WE.go zh ?_
      refine WE.next (WC.ret (WE.ret1 rfl rfl ?_))
      have hb10 : Below w.heap.size w w8 := (bstep (bstep hb2 hb5) hb9)
      refine ⟨_, rfl, congrArg Value.bool ?_, hb10⟩
      unfold ltU
      rw [Bool.eq_iff_iff]
      by_cases q1 : x = -2 <;> by_cases q2 : y = -2 <;> by_cases q3 : x = -3 <;> by_cases q4 : y = -3 <;> by_cases q5 : x = -1 <;> by_cases q6 : y = -1 <;> simp_all <;> omega
set_option maxRecDepth 100000 in
theorem fI_any (x y : Int) (w : World) : Calls Try.prog 30 #[.int .i64 x, .int .i64 y] w (Ret fun v' w' => v' = .bool (ltI x y) ∧ Below w.heap.size w w') := by
 skip
 refine Calls.walk (l := [.int .i64 x, .int .i64 y]) Try.func30 rfl (by kernel_rfl) ?_
 refine WC.sub (K' := [(0, .int .i64 x), (1, .int .i64 y)]) ⟨rfl, rfl, trivial⟩ ?_
 refine WC.seq (WC.region (WL.asg rfl rfl rfl rfl rfl (WL.nil (WE.next (WC.seq (WC.seq (WC.region (WL.mv rfl rfl rfl rfl rfl (WL.nil (WE.next (WC.block (WC.seq (WC.region ?_)))))))))))))
 refine WL.val (.bool (((y : Int) == ((-2) : Int)))) rfl rfl rfl (fun za zC zh zk => eql_3 rfl (zh.ev rfl) (zh.ev rfl) zk) ?_
 refine WL.asg rfl rfl rfl rfl rfl (WL.nil (WE.next ?_))
 refine WC.cond rfl (fun h1 => ?_) (fun h1 => ?_)
 ·have h1 : (y : Int) = ((-2) : Int) := by simpa using h1
  refine WC.seq (WC.region (WL.asg rfl rfl rfl rfl rfl (WL.nil (WE.next (WC.ret (WE.blockRet (WE.thenRet (WE.ret1 rfl rfl ?_))))))))
  refine ⟨_, rfl, congrArg Value.bool ?_, (Below.refl _ _)⟩
  unfold ltI
  by_cases q2 : y = -2 <;> by_cases q6 : y = -1 <;> simp_all <;> (rw [Bool.eq_iff_iff]; simp)
 ·have h1 : ¬ ((y : Int) = ((-2) : Int)) := by simpa using h1
  refine WC.seq (WC.region ?_)
  refine WL.val (.bool (((y : Int) == ((-1) : Int)))) rfl rfl rfl (fun za zC zh zk => eql_3 rfl (zh.ev rfl) (zh.ev rfl) zk) ?_
  refine WL.asg rfl rfl rfl rfl rfl (WL.nil (WE.next ?_))
  refine WC.cond rfl (fun h2 => ?_) (fun h2 => ?_)
  ·have h2 : (y : Int) = ((-1) : Int) := by simpa using h2
   refine WC.seq (WC.region (WL.mv rfl rfl rfl rfl rfl ?_))
   refine WL.val (.bool ((decide (((-1) : Int) ≤ (x : Int))))) rfl rfl rfl (fun za zC zh zk => geq_3 rfl (zh.ev rfl) (zh.ev rfl) zk) ?_
   refine WL.asg rfl rfl rfl rfl rfl (WL.nil (WE.next (WC.ret (WE.blockRet (WE.thenRet (WE.ret1 rfl rfl ?_))))))
   refine ⟨_, rfl, congrArg Value.bool ?_, (Below.refl _ _)⟩
   unfold ltI
   by_cases q2 : y = -2 <;> by_cases q6 : y = -1 <;> simp_all <;> (rw [Bool.eq_iff_iff]; simp)
  ·have h2 : ¬ ((y : Int) = ((-1) : Int)) := by simpa using h2
   refine WC.skip (WE.blockNormal (WE.next (WC.seq (WC.region (WL.mv rfl rfl rfl rfl rfl (WL.mv rfl rfl rfl rfl rfl ?_))))))
   refine WL.val (.bool (((x : Int) == (y : Int)))) rfl rfl rfl (fun za zC zh zk => eql_3 rfl (zh.ev rfl) (zh.ev rfl) zk) ?_
   refine WL.asg rfl rfl rfl rfl rfl (WL.nil (WE.next (WC.ret (WE.ret1 rfl rfl ?_))))
   refine ⟨_, rfl, congrArg Value.bool ?_, (Below.refl _ _)⟩
   unfold ltI
   by_cases q2 : y = -2 <;> by_cases q6 : y = -1 <;> simp_all <;> (rw [Bool.eq_iff_iff]; simp)
set_option maxRecDepth 100000 in
theorem fG_any (x y : Int) (w : World) : Calls Try.prog 29 #[.int .i64 x, .int .i64 y] w (Ret fun v' w' => v' = .bool (ltI y x) ∧ Below w.heap.size w w') := by
 skip
 refine Calls.walk (l := [.int .i64 x, .int .i64 y]) Try.func29 rfl (by kernel_rfl) ?_
 refine WC.sub (K' := [(0, .int .i64 x), (1, .int .i64 y)]) ⟨rfl, rfl, trivial⟩ ?_
 refine WC.seq (WC.region (WL.asg rfl rfl rfl rfl rfl (WL.nil (WE.next (WC.seq (WC.region (WL.mv rfl rfl rfl rfl rfl (WL.mv rfl rfl rfl rfl rfl ?_))))))))
 refine WL.call rfl rfl rfl (fun za zh zC => wp_call (by kernel_rfl) rfl (hv2 (zh.ev rfl) (zh.ev rfl))) (fI_any y x _) ?_
 rintro _ w2 ⟨rfl, hq1⟩
 refine WL.asg rfl rfl rfl rfl rfl (WL.nil (WE.next (WC.ret (WE.ret1 rfl rfl ?_))))
 exact ⟨_, rfl, rfl, hq1⟩
set_option maxRecDepth 100000 in
theorem cop_any : ∀ (t : T) (w : World) (v : Value), t.size ≤ 4294967296 → IsT w t v → Calls Try.prog 26 #[v] w (Ret fun v' w' => NewT w w' t v' ∧ Below w.heap.size w w') := by
 refine T.ind (fun f l ih => ?_)
 intro w v hz hv
 have hlen := len_le_sizeL l
 have hz' := hz
 simp only [T.size] at hz'
 obtain ⟨hf, a, c, rfl, hc, hm, hl⟩ := hv
 refine Calls.walk (l := [.agg #[.int .i64 f, .slice a l.length c]]) Try.func26 rfl (by kernel_rfl) ?_
 refine WC.sub (K' := [(0, .agg #[.int .i64 f, .slice a l.length c])]) ⟨rfl, trivial⟩ ?_
 refine WC.seq (WC.region ?_)
 refine WL.step (post := NewBlk w 24 #[.int .i64 f, .slice a l.length c]) rfl rfl rfl (fun za zC zh zk => box_24 rfl (zh.ev rfl) (zk _ _ (newBlk _ _ _))) ?_
 rintro _ w1 ⟨g2, rfl, hg3, hB4, hb5, hz6⟩
 have hl7 : w.heap.size ≤ g2 := by omega
 refine WL.step (post := NewBlk w1 24 #[.int .i64 0, .slice none 0 0]) rfl rfl rfl (fun za zC zh zk => alloc_24 rfl (zk _ _ (newBlk _ _ _))) ?_
 rintro _ w8 ⟨g9, rfl, hg10, hB11, hb12, hz13⟩
 have hl14 : g2 < g9 := by have z1 := hB4.lt; omega
 have hl15 : w.heap.size ≤ g9 := by have z2 := (hb5).size; omega
 refine WL.nil (WE.next (WC.seq (WC.region ?_)))
 refine WL.val _ rfl rfl rfl (fun za zC zh zk => fld_24_0 rfl (zh.ev rfl) zk) ?_
 have hB16 := hB4.below hb12
 refine WL.val _ rfl rfl rfl (fun za zC zh zk => ld_3 rfl (zh.ev rfl) ((hB16.cell 0).trans rfl) zk) ?_
 refine WL.val (.agg #[.int .i64 f, .slice none 0 0]) rfl rfl rfl (fun za zC zh zk => build_24_0 rfl (zh.ev rfl) zk) ?_
 refine WL.step (post := NewBlk w8 24 #[.int .i64 0, .slice none 0 0]) rfl rfl rfl (fun za zC zh zk => alloc_24 rfl (zk _ _ (newBlk _ _ _))) ?_
 rintro _ w17 ⟨g18, rfl, hg19, hB20, hb21, hz22⟩
 have hl23 : g2 < g18 := by have z1 := hB16.lt; omega
 have hl24 : g9 < g18 := by have z1 := hB11.lt; omega
 have hb25 : Below w.heap.size w w8 := (bstep hb5 hb12)
 have hl26 : w.heap.size ≤ g18 := by have z2 := (hb25).size; omega
 refine WL.step (post := fun _ w' => Upd g18 w17 w' ∧ Blk w' g18 24 #[.int .i64 f, .slice none 0 0]) rfl rfl rfl (fun za zC zh zk => st_24 rfl (zh.ev rfl) (zh.ev rfl) rfl rfl hB20 (by first | decide | simp) (fun v => zk v _ ⟨(Upd.at_ _ _ _ _).trans (Upd.at_ _ _ _ _), (hB20.set_ 0 _).set_ 1 _⟩)) ?_
 rintro v30 w27 ⟨hu28, hB29⟩
 have hb31 : Below w.heap.size w w17 := (bstep hb25 hb21)
 have hb32 := upd_below hb31 hu28 (by omega)
 have hB33 := hB16.below hb21
 have hB34 := upd_blk hB33 hu28 (by omega)
 have hB35 := hB11.below hb21
 have hB36 := upd_blk hB35 hu28 (by omega)
 refine WL.nil (WE.next (WC.seq (WC.seq (WC.region ?_))))
 refine WL.val _ rfl rfl rfl (fun za zC zh zk => fld_24_1 rfl (zh.ev rfl) zk) ?_
 refine WL.val _ rfl rfl rfl (fun za zC zh zk => ld_22 rfl (zh.ev rfl) ((hB34.cell 1).trans rfl) zk) ?_
 refine WL.val (.int .i64 (((l.length : Nat) : Int))) rfl rfl rfl (fun za zC zh zk => len_22 rfl (zh.ev rfl) zk) ?_
 refine WL.mv rfl rfl rfl rfl rfl (WL.nil (WE.next (WC.block ?_)))
 have hl37 : g2 < w27.heap.size := by have z1 := hB34.lt; omega
 have hl38 : g9 < w27.heap.size := by have z1 := hB36.lt; omega
 have hl39 : g18 < w27.heap.size := by have z1 := hB29.lt; omega
 have hl40 : w.heap.size ≤ w27.heap.size := (hb32).size
 have hR41 : RowE eltT w27 w27.heap.size 24 none 0 0 [] := RowE.nil
 refine WC.loop (X := Option Addr × Nat × Nat) (fun x => l.length - x.2.2) (fun x => [(0, .agg #[.int .i64 f, .slice a l.length c]), (1, .pointer (some ⟨g2, 0, none⟩)), (2, .pointer (some ⟨g9, 0, none⟩)), (3, .pointer (some ⟨g18, 0, none⟩)), (10, .slice a l.length c), (11, .int .i64 (((l.length : Nat) : Int))), (12, .int .i64 (((x.2.2 : Nat) : Int)))]) (fun x w42 => x.2.2 ≤ l.length ∧ w27.heap.size ≤ (w42).heap.size ∧ Below w.heap.size w w42 ∧ Blk w42 g2 24 #[.int .i64 f, .slice a l.length c] ∧ Blk w42 g9 24 #[.int .i64 0, .slice none 0 0] ∧ Blk w42 g18 24 #[.int .i64 f, .slice x.1 x.2.2 x.2.1] ∧ RowE eltT (w42) w27.heap.size 24 x.1 x.2.1 x.2.2 (l.take x.2.2)) ((none, 0, 0)) ⟨rfl, rfl, rfl, rfl, rfl, rfl, rfl, trivial⟩ ?_ ?_
 ·exact ⟨Nat.zero_le _, Nat.le_refl _, hb32, hB34, hB36, hB29, (by simpa using hR41)⟩
 ·rintro x w42 ⟨hk, hBw, hb43, hB44, hB45, hB46, ho47⟩
  refine WC.seq (WC.region ?_)
  refine WL.val (.bool ((decide ((((x.2.2 : Nat) : Int) : Int) < (((l.length : Nat) : Int) : Int))))) rfl rfl rfl (fun za zC zh zk => lss_3 rfl (zh.ev rfl) (zh.ev rfl) zk) ?_
  refine WL.nil (WE.next (WC.seq ?_))
  refine WC.cond rfl (fun h48 => ?_) (fun h48 => ?_)
  ·have h48 : (((x.2.2 : Nat) : Int) : Int) < (((l.length : Nat) : Int) : Int) := by simpa using h48
   refine WC.skip (WE.next (WC.seq (WC.block (WC.seq (WC.region ?_)))))
   obtain ⟨b49, o50, A51, C52, ha53, hc54⟩ := IsTs.open hl
   refine WL.val _ rfl rfl rfl (fun za zC zh zk => ix_22 (k := x.2.2) rfl (zh.ev rfl) (ha53 x.2.2 (by first | omega | (simp; omega))) (zh.ev rfl) (by first | omega | (simp; omega)) zk) ?_
   refine WL.val _ rfl rfl rfl (fun za zC zh zk => ld_24 rfl (zh.ev rfl) (bkeeps hb43 _ _ (hc54 x.2.2 (by first | omega | (simp; omega))).1) (bkeeps hb43 _ _ (hc54 x.2.2 (by first | omega | (simp; omega))).2.1) zk) ?_
   refine WL.step (post := NewBlk w42 24 #[.int .i64 0, .slice none 0 0]) rfl rfl rfl (fun za zC zh zk => alloc_24 rfl (zk _ _ (newBlk _ _ _))) ?_
   rintro _ w55 ⟨g56, rfl, hg57, hB58, hb59, hz60⟩
   have hl61 : g2 < g56 := by have z1 := hB44.lt; omega
   have hl62 : g9 < g56 := by have z1 := hB45.lt; omega
   have hl63 : g18 < g56 := by have z1 := hB46.lt; omega
   have hl64 : w.heap.size ≤ g56 := by have z2 := (hb43).size; omega
   have hl65 : w42.heap.size ≤ g56 := by omega
   refine WL.step (post := fun _ w' => Upd g56 w55 w' ∧ Blk w' g56 24 #[.int .i64 ((tget l x.2.2).f), .slice ((A51 x.2.2)) ((tget l x.2.2).args.length) ((C52 x.2.2))]) rfl rfl rfl (fun za zC zh zk => st_24 rfl (zh.ev rfl) (zh.ev rfl) rfl rfl hB58 (by first | decide | simp) (fun v => zk v _ ⟨(Upd.at_ _ _ _ _).trans (Upd.at_ _ _ _ _), (hB58.set_ 0 _).set_ 1 _⟩)) ?_
   rintro v69 w66 ⟨hu67, hB68⟩
   have hb70 : Below w.heap.size w w55 := (bstep hb43 hb59)
   have hb71 := upd_below hb70 hu67 (by omega)
   have hb72 := upd_below hb59 hu67 (by omega)
   have hB73 := hB44.below hb59
   have hB74 := upd_blk hB73 hu67 (by omega)
   have hB75 := hB45.below hb59
   have hB76 := upd_blk hB75 hu67 (by omega)
   have hB77 := hB46.below hb59
   have hB78 := upd_blk hB77 hu67 (by omega)
   refine WL.nil (WE.next ?_)
   have ho79 := ho47.below hb72
   have hSlt : ∀ b, (fun b => b = g18 ∨ (Value.slice x.1 x.2.2 x.2.1).ownBlock = some b) b → b < w66.heap.size := fun b h => h.elim (fun e => e ▸ hB78.lt) (fun h => (ho79.lt b h).2)
   have hSlo : ∀ b, (fun b => b = g18 ∨ (Value.slice x.1 x.2.2 x.2.1).ownBlock = some b) b → b = g18 ∨ (w27.heap.size ≤ b ∧ b < w42.heap.size) := fun b h => h.imp id (fun h => ho47.lt b h)
   have hBW : w27.heap.size ≤ w66.heap.size := by have z1 := (Nat.le_trans hBw hb72.size); omega
   have hlL : x.2.2 = ((l.take x.2.2)).length := ho79.len
   refine WC.tail2 (S := ((fun b => b = g18 ∨ (Value.slice x.1 x.2.2 x.2.1).ownBlock = some b))) [(true, .val (.pointer (some ⟨g18, 1, none⟩))), (true, .val (.slice x.1 x.2.2 x.2.1)), (true, .val (.agg #[.int .i64 ((tget l x.2.2).f), .slice ((A51 x.2.2)) ((tget l x.2.2).args.length) ((C52 x.2.2))])), (true, .mem (fun v w' => NewT w66 w' ((tget l x.2.2)) v) (fun v w w' hc h => InT.chg h hc (fun b hb hs => by have z := hSlt b hs; omega))), (true, .mem (fun v w' => OneRow eltT w66 24 ((tget l x.2.2)) v w') (fun v w w' hc h => h.chg hc hSlt)), (true, .val undef), (true, .val (.pointer (some ⟨g18, 1, none⟩))), (true, .val undef)] [(0, .agg #[.int .i64 f, .slice a l.length c]), (1, .pointer (some ⟨g2, 0, none⟩)), (2, .pointer (some ⟨g9, 0, none⟩)), (3, .pointer (some ⟨g18, 0, none⟩)), (5, .pointer (some ⟨g56, 0, none⟩)), (10, .slice a l.length c), (11, .int .i64 (((l.length : Nat) : Int))), (12, .int .i64 (((x.2.2 : Nat) : Int))), (13, .bool ((decide ((((x.2.2 : Nat) : Int) : Int) < (((l.length : Nat) : Int) : Int)))))] 5 7 ((x.2.2 + 1)) 21 (fun ra rc wz => RowE eltT wz w27.heap.size 24 ra rc (x.2.2 + 1) ((l.take x.2.2 ++ [(tget l x.2.2)])) ∧ Blk wz g18 24 #[.int .i64 f, .slice x.1 x.2.2 x.2.1]) (fun ra rc wz => RowE eltT wz w27.heap.size 24 ra rc (x.2.2 + 1) ((l.take x.2.2 ++ [(tget l x.2.2)])) ∧ Blk wz g18 24 #[.int .i64 f, .slice ra ((x.2.2 + 1)) rc]) (by decide) (fun ra rc w w' hb h => ⟨h.1.below hb, h.2.below hb⟩) (fun ra rc w w' hb h => ⟨h.1.below hb, h.2.below hb⟩) ⟨rfl, rfl, rfl, rfl, rfl, rfl, rfl, rfl, rfl, trivial⟩ (by kernel_rfl) (by kernel_rfl) (by kernel_rfl) (by kernel_rfl) (by kernel_rfl) ?_ ?_
   ·refine ⟨.inl ⟨rfl, true, .none rfl, (fun gg b h => by cases h), fun h w => optUndef h, fun zβ za zw zc => ?_⟩, ?_⟩
    ·exact fld_24_1 rfl (zc.kn.ev rfl) ⟨_, rfl, Below.refl _ _, optDef zβ rfl⟩
    refine ⟨.inl ⟨rfl, true, .none rfl, (fun gg b h => by cases h), fun h w => optUndef h, fun zβ za zw zc => ?_⟩, ?_⟩
    ·exact ld_22 rfl ((evt za 16).trans (optSVal (zc.dep 0 16 (by kernel_rfl) (by decide)) rfl rfl)) (bkeeps (zc.early (by kernel_rfl)) _ _ ((hB78.cell 1).trans rfl)) ⟨_, rfl, Below.refl _ _, optDef zβ rfl⟩
    refine ⟨.inl ⟨rfl, true, .none rfl, (fun gg b h => by cases h), fun h w => optUndef h, fun zβ za zw zc => ?_⟩, ?_⟩
    ·exact ld_24 rfl (zc.kn.ev rfl) (bkeeps (zc.early (by kernel_rfl)) _ _ ((hB68.cell 0).trans rfl)) (bkeeps (zc.early (by kernel_rfl)) _ _ ((hB68.cell 1).trans rfl)) ⟨_, rfl, Below.refl _ _, optDef zβ rfl⟩
    refine ⟨.inl ⟨rfl, true, .none rfl, (fun gg b h => by cases h), fun h w => optUndef h, fun zβ za zw zc => ?_⟩, ?_⟩
    ·exact wp_call (by kernel_rfl) rfl (hv1 ((evt za 18).trans (optSVal (zc.dep 2 18 (by kernel_rfl) (by decide)) rfl rfl))) (ih (tget l x.2.2) (tget_mem (by omega)) _ _ (size_at (by omega) hz) (IsT.below (bstep hb71 (zc.early (by kernel_rfl))) (hc54 x.2.2 (by first | omega | (simp; omega))).2.2)) (fun v w' h => ⟨v, rfl, h.2, optDef zβ (InT.mono (fun b hb _ => Nat.le_trans (zc.early (by kernel_rfl)).size hb) h.1)⟩)
    refine ⟨.inl ⟨rfl, true, .none rfl, (fun gg b h => by cases h), fun h w => optUndef h, fun zβ za zw zc => ?_⟩, ?_⟩
    ·have zv := (optSMem (zc.dep 3 19 (by kernel_rfl) (by decide)) rfl rfl)
     obtain ⟨_, a1, c1, e1, _⟩ := zv.form
     rw [e1] at zv
     exact row_22_1 rfl ((evt za 19).trans e1) ⟨_, rfl, balloc _ _, optDef zβ ⟨_, _, rfl, zc.chg.size, Blk.new' rfl, _, _, rfl, zv.below (balloc _ _)⟩⟩
    refine ⟨.inr (.inl ⟨rfl, rfl, fun za zw zc => ?_⟩), ?_⟩
    ·obtain ⟨g1, cs, e1, hg1, hB1, hin⟩ := (optSMem (zc.dep 4 20 (by kernel_rfl) (by decide)) rfl rfl)
     exact wp_appE (E := eltT) (size := 2) (bytes := 32) (z := .agg #[.int .i64 0, .slice none 0 0]) rfl Try.underlying22 (by kernel_rfl) rfl (by decide) rfl ((evt za 17).trans (optSVal (zc.dep 1 17 (by kernel_rfl) (by decide)) rfl rfl)) ((evt za 20).trans e1) (ho79.below zc.below) hB1 (eltT.mono (fun b hb _ => ⟨by omega, fun e => by have z := (ho79.lt b e).2; omega⟩) hin) (by omega) (by omega) (by have z := zc.below.size; omega) (fun ra rc w' h1 h2 _ => ⟨ra, rc, rfl, ⟨h1, chg_blk (hB78.below zc.below) h2 (fun e => by have z := (ho79.lt _ e).1; omega)⟩, h2.mono (fun b hb => .inr hb)⟩)
    refine ⟨.inl ⟨rfl, true, .none rfl, (fun gg b h => by cases h), fun h w => optUndef h, fun zβ za zw zc => ?_⟩, ?_⟩
    ·exact fld_24_1 rfl (zc.kn.ev rfl) ⟨_, rfl, Below.refl _ _, optDef zβ rfl⟩
    refine ⟨.inr (.inr ⟨rfl, rfl, 21, by kernel_rfl, fun za zw ra rc zk zd zv zg => ?_⟩), ?_⟩
    ·exact st_22 rfl ((evt za 22).trans (optSVal (zd 6 22 (by kernel_rfl) (by decide)) rfl rfl)) ((evt za 21).trans zv) zg.2 (by first | decide | simp) (fun v => ⟨v, rfl, ⟨zg.1.upd (Upd.at_ _ _ _ _) (by omega), zg.2.set_ 1 _⟩, .ofUpd (Upd.at_ _ _ _ _) (.inl rfl)⟩)
    exact trivial
   ·intro za w80 ra83 rc84 zh zv hG81 hc82 zu
    have hb85 := chg_below hb71 hc82 (fun b hb => (fun h => by rcases hSlo _ h with h | h <;> omega))
    have hB86 := chg_blk hB74 hc82 (fun h => by rcases hSlo _ h with h | h <;> omega)
    have hB87 := chg_blk hB76 hc82 (fun h => by rcases hSlo _ h with h | h <;> omega)
    have hB88 := chg_blk hB68 hc82 (fun h => by rcases hSlo _ h with h | h <;> omega)
    clear zu
    refine WE.go zh ?_
    refine WE.blockNormal (WE.next (WC.region ?_))
    refine WL.val (.int .i64 ((((x.2.2 + 1) : Nat) : Int))) rfl rfl rfl (fun za zC zh zk => addb_3 rfl (zh.ev rfl) (zh.ev rfl) (wrap_eq (by omega) (by omega) (by omega)) zk) ?_
    refine WL.mv rfl rfl rfl rfl rfl (WL.nil ?_)
    refine WE.round ((ra83, rc84, x.2.2 + 1)) ⟨rfl, rfl, rfl, rfl, rfl, rfl, rfl, trivial⟩ ?_ ?_
    ·exact ⟨by (try dsimp only at *); omega, (Nat.le_trans (Nat.le_trans hBw hb72.size) hc82.size), hb85, hB86, hB87, hG81.2, (by rw [← take_snocT (by (try dsimp only at *); omega)]; exact hG81.1)⟩
    ·dsimp only; omega
  ·have h48 : ¬ ((((x.2.2 : Nat) : Int) : Int) < (((l.length : Nat) : Int) : Int)) := by simpa using h48
   refine WC.exit (WE.thenExit (WE.thenExit (WE.blockIs rfl (WE.next (WC.seq (WC.region ?_))))))
   refine WL.val _ rfl rfl rfl (fun za zC zh zk => ld_24 rfl (zh.ev rfl) ((hB46.cell 0).trans rfl) ((hB46.cell 1).trans rfl) zk) ?_
   refine WL.step (post := fun _ w' => Upd g9 w42 w' ∧ Blk w' g9 24 #[.int .i64 f, .slice x.1 x.2.2 x.2.1]) rfl rfl rfl (fun za zC zh zk => st_24 rfl (zh.ev rfl) (zh.ev rfl) rfl rfl hB45 (by first | decide | simp) (fun v => zk v _ ⟨(Upd.at_ _ _ _ _).trans (Upd.at_ _ _ _ _), (hB45.set_ 0 _).set_ 1 _⟩)) ?_
   rintro v92 w89 ⟨hu90, hB91⟩
   have hb93 := upd_below hb43 hu90 (by omega)
   have hB94 := upd_blk hB44 hu90 (by omega)
   have hB95 := upd_blk hB46 hu90 (by omega)
   have ho96 := ho47.upd hu90 (by omega)
   refine WL.nil (WE.next (WC.ret ?_))
   refine WE.retAny (v := .agg #[.int .i64 f, .slice x.1 x.2.2 x.2.1]) (fun za zh => ?_) ?_
   ·have z0 : za.tmps[2]?.getD undef = .pointer (some ⟨g9, 0, none⟩) := by rw [← Array.getD_eq_getD_getElem?]; exact zh.knows 2 _ rfl
    have y0 : w89.cell? ⟨g9, 0, none⟩ = some (.int .i64 f) := ((hB91.cell 0).trans rfl)
    have y1 : w89.cell? ⟨g9, 1, none⟩ = some (.slice x.1 x.2.2 x.2.1) := ((hB91.cell 1).trans rfl)
    simp [results, Try.results26, z0, y0, y1, go_sem]
   ·have z := ho96
    rw [List.take_of_length_le (by omega)] at z
    exact ⟨_, rfl, newT_row hf z (by omega), hb93⟩
end Go.Proofs.Ytibncmnmjhimeaa

/- An index is made, added to: the program. -/
namespace Go.Proofs.Ytibncmnmjhimeaa
open Go.RowKit Go
set_option linter.unusedVariables false
set_option linter.unusedSimpArgs false
section
variable {w : World} {a : Act} {K : Act → World → Prop} {Q : Exit → Act → World → Prop} {o : Oper}
theorem wp_neqm {x y : Operand} {r : Nat} (ho : o.op = .binOp .neq 46 x y 46) (hx : a.eval x = .map (some r)) (hy : a.eval y = .map none) (hK : K (a.put o.dst (.bool true)) w) : o.wp Try.prog a w K Q := by
 have um := Try.underlying46
 have he : (Op.equal 46 (.map (some r)) (.map none)).run Try.prog w = .ok false w := by
  unfold Op.equal
  rw [show Op.maxDepth = 9999 + 1 from rfl]
  generalize (9999 : Nat) = n
  simp [Op.equalIn, run_underlying um, go_sem]
 have hb : (binOp .neq 46 (.map (some r)) (.map none)).run Try.prog w = .ok (.bool true) w := by
  simp [binOp, he]
 unfold Oper.wp execOp
 simp only [ho, hx, hy, Sem.run_bind, hb, Result.andThen_ok]
 go_simp
 exact hK
end
set_option maxRecDepth 100000 in
theorem fok_any (g : Nat) (Z : Nat → Prop) (B : List TI) (w : World) (hK : FpIs w g Z B) : Calls Try.prog 24 #[.pointer (some ⟨g, 0, none⟩)] w (Ret fun v' w' => v' = .bool true ∧ Below w.heap.size w w') := by
 skip
 have hK0 := hK
 obtain ⟨m, es, clock, KL, S9, hO, hZ, hZl⟩ := hK0
 refine Calls.walk (l := [.pointer (some ⟨g, 0, none⟩)]) Try.func24 rfl (by kernel_rfl) ?_
 refine WC.sub (K' := [(0, .pointer (some ⟨g, 0, none⟩))]) ⟨rfl, trivial⟩ ?_
 refine WC.seq (WC.region (WL.asg rfl rfl rfl rfl rfl (WL.nil (WE.next (WC.seq ?_)))))
 refine WC.opt [(true, .val (.pointer (some ⟨g, 0, none⟩))), (true, .val (.bool true)), (true, .val (.bool true)), ((true && true), .val (.pointer (some ⟨g, 0, none⟩))), ((true && true), .val (.pointer (some ⟨g, 0, none⟩))), ((true && true), .val (.pointer (some ⟨g, 0, none⟩))), ((true && true), .val (.map ((some m)))), ((true && true), .val (.bool true)), (true, .val (.bool true)), (true, .val (.bool true))] [(0, .pointer (some ⟨g, 0, none⟩))] ⟨rfl, trivial⟩ (by kernel_rfl) (by kernel_rfl) (by kernel_rfl) ?_ ?_
 ·refine ⟨⟨true, .none rfl, fun h w => optUndef h, fun zβ za zw zc => ?_⟩, ?_⟩
  ·exact wp_move rfl (zc.kn.ev rfl) ⟨_, rfl, Below.refl _ _, optDef zβ rfl⟩
  refine ⟨⟨true, .none rfl, fun h w => optUndef h, fun zβ za zw zc => ?_⟩, ?_⟩
  ·exact neqp_27 rfl ((evt za 3).trans (optVal (zc.dep 0 3 (by kernel_rfl)) rfl rfl)) (zc.kn.ev rfl) ⟨_, rfl, Below.refl _ _, optDef zβ rfl⟩
  refine ⟨⟨true, .none rfl, fun h w => optUndef h, fun zβ za zw zc => ?_⟩, ?_⟩
  ·exact wp_move rfl ((evt za 4).trans (optVal (zc.dep 1 4 (by kernel_rfl)) rfl rfl)) ⟨_, rfl, Below.refl _ _, optDef zβ rfl⟩
  refine ⟨⟨_, .yes (d := true) rfl (fun v w h => h), fun h w => optUndef h, fun zβ za zw zc => ?_⟩, ?_⟩
  ·exact wp_move rfl (zc.kn.ev rfl) ⟨_, rfl, Below.refl _ _, optDef zβ rfl⟩
  refine ⟨⟨_, .yes (d := true) rfl (fun v w h => h), fun h w => optUndef h, fun zβ za zw zc => ?_⟩, ?_⟩
  ·exact nilCheck_ rfl ((evt za 6).trans (optVal (zc.dep 3 6 (by kernel_rfl)) rfl rfl)) ⟨_, rfl, Below.refl _ _, optDef zβ rfl⟩
  refine ⟨⟨_, .yes (d := true) rfl (fun v w h => h), fun h w => optUndef h, fun zβ za zw zc => ?_⟩, ?_⟩
  ·exact fld_48_0 rfl ((evt za 7).trans (optVal (zc.dep 4 7 (by kernel_rfl)) rfl rfl)) ⟨_, rfl, Below.refl _ _, optDef zβ rfl⟩
  refine ⟨⟨_, .yes (d := true) rfl (fun v w h => h), fun h w => optUndef h, fun zβ za zw zc => ?_⟩, ?_⟩
  ·exact ld_46 rfl ((evt za 8).trans (optVal (zc.dep 5 8 (by kernel_rfl)) rfl rfl)) (bkeeps zc.below _ _ hO.c0) ⟨_, rfl, Below.refl _ _, optDef zβ rfl⟩
  refine ⟨⟨_, .yes (d := true) rfl (fun v w h => h), fun h w => optUndef h, fun zβ za zw zc => ?_⟩, ?_⟩
  ·exact wp_neqm rfl ((evt za 9).trans (optVal (zc.dep 6 9 (by kernel_rfl)) rfl rfl)) (zc.kn.ev rfl) ⟨_, rfl, Below.refl _ _, optDef zβ rfl⟩
  refine ⟨⟨true, .none rfl, fun h w => optUndef h, fun zβ za zw zc => ?_⟩, ?_⟩
  ·exact wp_pickT rfl ((evt za 5).trans (optVal (zc.dep 2 5 (by kernel_rfl)) rfl rfl)) ((evt za 10).trans (optVal (zc.dep 7 10 (by kernel_rfl)) rfl rfl)) ⟨_, rfl, Below.refl _ _, optDef zβ rfl⟩
  refine ⟨⟨true, .none rfl, fun h w => optUndef h, fun zβ za zw zc => ?_⟩, ?_⟩
  ·exact wp_assign rfl ((evt za 11).trans (optVal (zc.dep 8 11 (by kernel_rfl)) rfl rfl)) ⟨_, rfl, Below.refl _ _, optDef zβ rfl⟩
  exact trivial
 ·intro za w1 zh hb2 zu
  have zh := zh.cons (d := 2) (v := .bool true) (optVal (zu 9 2 (by kernel_rfl)) rfl rfl)
  clear zu
  refine WE.go zh ?_
  refine WE.next (WC.ret (WE.ret1 rfl rfl ?_))
  exact ⟨_, rfl, rfl, hb2⟩
set_option maxRecDepth 100000 in
theorem flen_any (g : Nat) (Z : Nat → Prop) (B : List TI) (w : World) (hK : FpIs w g Z B) : Calls Try.prog 18 #[.pointer (some ⟨g, 0, none⟩)] w (Ret fun v' w' => v' = .int .i64 ((B.length : Nat) : Int) ∧ Below w.heap.size w w') := by
 skip
 have hK0 := hK
 obtain ⟨m, es, clock, KL, S9, hO, hZ, hZl⟩ := hK0
 refine Calls.walk (l := [.pointer (some ⟨g, 0, none⟩)]) Try.func18 rfl (by kernel_rfl) ?_
 refine WC.sub (K' := [(0, .pointer (some ⟨g, 0, none⟩))]) ⟨rfl, trivial⟩ ?_
 refine WC.seq (WC.region (WL.asg rfl rfl rfl rfl rfl (WL.nil (WE.next (WC.seq (WC.seq (WC.region (WL.mv rfl rfl rfl rfl rfl ?_))))))))
 refine WL.call rfl rfl rfl (fun za zh zC => wp_call (by kernel_rfl) rfl (hv1 (zh.ev rfl))) (fok_any g Z B _ (FpIs.below hK (Below.refl _ _))) ?_
 rintro _ w2 ⟨rfl, hq1⟩
 refine WL.val (.bool false) rfl rfl rfl (fun za zC zh zk => wp_not rfl (zh.ev rfl) zk) ?_
 refine WL.nil (WE.next ?_)
 refine WC.condF rfl rfl ?_
 refine WC.skip (WE.next (WC.seq (WC.region (WL.mv rfl rfl rfl rfl rfl ?_))))
 refine WL.val _ rfl rfl rfl (fun za zC zh zk => nilCheck_ rfl (zh.ev rfl) zk) ?_
 refine WL.val _ rfl rfl rfl (fun za zC zh zk => fld_48_1 rfl (zh.ev rfl) zk) ?_
 have hc3 := bkeeps hq1 _ _ hO.c1
 refine WL.val _ rfl rfl rfl (fun za zC zh zk => ld_3 rfl (zh.ev rfl) hc3 zk) ?_
 refine WL.asg rfl rfl rfl rfl rfl (WL.nil (WE.next (WC.ret (WE.ret1 rfl rfl ?_))))
 exact ⟨_, rfl, rfl, hq1⟩
set_option maxRecDepth 100000 in
theorem fnew_any (w : World) : Calls Try.prog 8 #[] w (Ret fun v' w' => (∃ g : Nat, v' = .pointer (some ⟨g, 0, none⟩) ∧ FpIs w' g (fun b => w.heap.size ≤ b ∧ b < w'.heap.size) []) ∧ Below w.heap.size w w') := by
 refine Calls.walk (l := []) Try.func8 rfl (by kernel_rfl) ?_
 refine WC.sub (K' := []) trivial ?_
 refine WC.seq (WC.region (WL.asg rfl rfl rfl rfl rfl (WL.nil (WE.next (WC.seq (WC.region ?_))))))
 refine WL.step (post := NewMap w) rfl rfl rfl (fun za zC zh zk => wp_makeMap_im rfl (fun v w' h => zk v w' h)) ?_
 rintro _ w1 ⟨m2, rfl, hg4, hM3, hb5, hz6⟩
 have hl7 : w.heap.size ≤ m2 := by omega
 refine WL.val (.agg #[.map ((some m2)), .int .i64 0]) rfl rfl rfl (fun za zC zh zk => build_48_0 rfl (zh.ev rfl) zk) ?_
 refine WL.step (post := NewBlk w1 48 #[.map ((some m2)), .int .i64 0]) rfl rfl rfl (fun za zC zh zk => box_48 rfl (zh.ev rfl) (zk _ _ (newBlk _ _ _))) ?_
 rintro _ w8 ⟨g9, rfl, hg10, hB11, hb12, hz13⟩
 have hl14 : m2 < g9 := by have z1 := hM3.lt; omega
 have hl15 : w.heap.size ≤ g9 := by have z2 := (hb5).size; omega
 refine WL.asg rfl rfl rfl rfl rfl (WL.nil (WE.next (WC.ret (WE.ret1 rfl rfl ?_))))
 have ho16 := hM3.below hb12
 have hb17 : Below w.heap.size w w8 := (bstep hb5 hb12)
 have hgl := hB11.lt
 have hml := ObjAt.lt ho16
 refine ⟨_, rfl, ⟨g9, rfl, m2, #[], 0, [], fun _ => False, ⟨hB11, ho16, GmE.nil, .nil, fun x hx => (nomatch hx), fun x hx => (nomatch hx), fun r hr => (nomatch hr), fun x hx => (nomatch hx), fun x hx => (nomatch hx), fun b q => q.elim, fun r hr => (nomatch hr)⟩, fun b q => ?_, fun b q => q.2⟩, hb17⟩
 rcases q with q | q | q | ⟨x, hx, _⟩
 ·exact ⟨by omega, by omega⟩
 ·exact ⟨by omega, by omega⟩
 ·exact q.elim
 ·cases hx
set_option maxRecDepth 100000 in
theorem fadd_no (g : Nat) (Z : Nat → Prop) (B : List TI) (w : World) (v : Value) (f : Int) (ta : Option Addr) (tn tc : Nat) (id : Int) (hid : id < 0) (hK : FpIs w g Z B) : Calls Try.prog 9 #[.pointer (some ⟨g, 0, none⟩), .agg #[.int .i64 f, .slice ta tn tc], .int .i64 id] w (Ret fun v' w' => v' = .int .i64 2 ∧ Below w.heap.size w w') := by
 skip
 refine Calls.walk (l := [.pointer (some ⟨g, 0, none⟩), .agg #[.int .i64 f, .slice ta tn tc], .int .i64 id]) Try.func9 rfl (by kernel_rfl) ?_
 refine WC.sub (K' := [(0, .pointer (some ⟨g, 0, none⟩)), (1, .agg #[.int .i64 f, .slice ta tn tc]), (2, .int .i64 id)]) ⟨rfl, rfl, rfl, trivial⟩ ?_
 refine WC.seq (WC.region ?_)
 refine WL.step (post := NewBlk w 24 #[.int .i64 f, .slice ta tn tc]) rfl rfl rfl (fun za zC zh zk => box_24 rfl (zh.ev rfl) (zk _ _ (newBlk _ _ _))) ?_
 rintro _ w1 ⟨g2, rfl, hg3, hB4, hb5, hz6⟩
 have hl7 : w.heap.size ≤ g2 := by omega
 refine WL.asg rfl rfl rfl rfl rfl (WL.nil (WE.next (WC.seq (WC.block (WC.seq (WC.region (WL.mv rfl rfl rfl rfl rfl ?_)))))))
 refine WL.call rfl rfl rfl (fun za zh zC => wp_call (by kernel_rfl) rfl (hv1 (zh.ev rfl))) (fok_any g Z B _ (FpIs.below hK hb5)) ?_
 rintro _ w9 ⟨rfl, hq8⟩
 refine WL.val (.bool false) rfl rfl rfl (fun za zC zh zk => wp_not rfl (zh.ev rfl) zk) ?_
 refine WL.asg rfl rfl rfl rfl rfl (WL.nil (WE.next ?_))
 refine WC.condF rfl rfl ?_
 refine WC.seq (WC.region (WL.mv rfl rfl rfl rfl rfl ?_))
 refine WL.val (.bool ((decide ((id : Int) < (0 : Int))))) rfl rfl rfl (fun za zC zh zk => lss_3 rfl (zh.ev rfl) (zh.ev rfl) zk) ?_
 refine WL.asg rfl rfl rfl rfl rfl (WL.nil (WE.next ?_))
 refine WC.condT rfl ((by simpa using hid)) ?_
 refine WC.seq (WC.region (WL.asg rfl rfl rfl rfl rfl (WL.nil (WE.next (WC.ret (WE.blockRet (WE.thenRet (WE.ret1 rfl rfl ?_))))))))
 have hb10 : Below w.heap.size w w9 := (bstep hb5 hq8)
 exact ⟨_, rfl, rfl, hb10⟩
theorem vlen6 {vals : List Value} (h : vals.length = 6) : ∃ a b c d e f, vals = [a, b, c, d, e, f] := by
 obtain _ | ⟨a, _ | ⟨b, _ | ⟨c, _ | ⟨d, _ | ⟨e, _ | ⟨f, _ | ⟨g, l⟩⟩⟩⟩⟩⟩⟩ := vals <;> simp_all
theorem zeroRows (w : World) : (zeroValue 52).run Try.prog w = .ok (.slice none 0 0) w := by
 have u := Try.underlying52
 have hi : (Try.prog.info? 52).map (fun i => i.zero) = some (some (.slice none 0 0)) := by kernel_rfl
 go_simp
set_option maxRecDepth 100000 in
theorem fadd_any (g : Nat) (Z : Nat → Prop) (B : List TI) (w : World) (t : T) (v : Value) (id : Int) (hid : 0 ≤ id) (hi64 : I64 id) (hz : t.size ≤ 4294967296) (hBl : B.length ≤ 1000000) (ht : IsT w t v) (hK : FpIs w g Z B) :
  Calls Try.prog 9 #[.pointer (some ⟨g, 0, none⟩), v, .int .i64 id] w (Ret fun v' w' => v' = .int .i64 0 ∧ (∃ Z', FpIs w' g Z' (B ++ [(t, id)]) ∧ ∀ b, Z' b → Z b ∨ w.heap.size ≤ b) ∧ Chg Z w w') := by
 have hvt := ht
 obtain ⟨_, ta, tc, rfl, _, _, _⟩ := ht.form
 skip
 have hK0 := hK
 obtain ⟨m, es, clock, KL, S9, hO, hZ, hZl⟩ := hK0
 obtain ⟨a, c, hlk, hrw, hown, _⟩ := hO.look (prt t)
 have hbl : (bag B (prt t)).length ≤ B.length := List.length_filter_le _ _
 obtain ⟨st, hst⟩ : ∃ st, st = gmStamp es clock (KL.map bkV) (prt t) := ⟨_, rfl⟩
 refine Calls.walk (l := [.pointer (some ⟨g, 0, none⟩), .agg #[.int .i64 t.f, .slice ta t.args.length tc], .int .i64 id]) Try.func9 rfl (by kernel_rfl) ?_
 refine WC.sub (K' := [(0, .pointer (some ⟨g, 0, none⟩)), (1, .agg #[.int .i64 t.f, .slice ta t.args.length tc]), (2, .int .i64 id)]) ⟨rfl, rfl, rfl, trivial⟩ ?_
 refine WC.seq (WC.region ?_)
 refine WL.step (post := NewBlk w 24 #[.int .i64 t.f, .slice ta t.args.length tc]) rfl rfl rfl (fun za zC zh zk => box_24 rfl (zh.ev rfl) (zk _ _ (newBlk _ _ _))) ?_
 rintro _ w1 ⟨g2, rfl, hg3, hB4, hb5, hz6⟩
 have hl7 : w.heap.size ≤ g2 := by omega
 refine WL.asg rfl rfl rfl rfl rfl (WL.nil (WE.next (WC.seq (WC.block (WC.seq (WC.region (WL.mv rfl rfl rfl rfl rfl ?_)))))))
 refine WL.call rfl rfl rfl (fun za zh zC => wp_call (by kernel_rfl) rfl (hv1 (zh.ev rfl))) (fok_any g Z B _ (FpIs.below hK hb5)) ?_
 rintro _ w9 ⟨rfl, hq8⟩
 refine WL.val (.bool false) rfl rfl rfl (fun za zC zh zk => wp_not rfl (zh.ev rfl) zk) ?_
 refine WL.asg rfl rfl rfl rfl rfl (WL.nil (WE.next ?_))
 refine WC.condF rfl rfl ?_
 refine WC.seq (WC.region (WL.mv rfl rfl rfl rfl rfl ?_))
 refine WL.val (.bool ((decide ((id : Int) < (0 : Int))))) rfl rfl rfl (fun za zC zh zk => lss_3 rfl (zh.ev rfl) (zh.ev rfl) zk) ?_
 refine WL.asg rfl rfl rfl rfl rfl (WL.nil (WE.next ?_))
 refine WC.condF rfl ((by simp; omega)) ?_
 refine WC.skip (WE.blockNormal (WE.next (WC.seq (WC.region ?_))))
 have hB10 := hB4.below hq8
 refine WL.val _ rfl rfl rfl (fun za zC zh zk => ld_24 rfl (zh.ev rfl) ((hB10.cell 0).trans rfl) ((hB10.cell 1).trans rfl) zk) ?_
 have hb11 : Below w.heap.size w w9 := (bstep hb5 hq8)
 refine WL.call rfl rfl rfl (fun za zh zC => wp_call (by kernel_rfl) rfl (hv1 (zh.ev rfl))) (of_any t _ _ (IsT.below hb11 hvt)) ?_
 rintro _ w12 ⟨rfl, hbo⟩
 refine WL.step (post := NewBlk w12 50 #[.int .i64 0, .int .i64 0, .int .i64 0, .int .i64 0, .int .i64 0, .int .i64 0, .int .i64 0, .int .i64 0]) rfl rfl rfl (fun za zC zh zk => alloc_50 rfl (zk _ _ (newBlk _ _ _))) ?_
 rintro _ w13 ⟨g14, rfl, hg15, hB16, hb17, hz18⟩
 have hl19 : g2 < g14 := by have z1 := hB10.lt; have z2 := (hbo).size; omega
 have hb20 : Below w.heap.size w w12 := (bstep hb11 hbo)
 have hl21 : w.heap.size ≤ g14 := by have z2 := (hb20).size; omega
 refine WL.step (post := fun _ w' => Upd g14 w13 w' ∧ Blk w' g14 50 #[.int .i64 ((ltr t [])), .int .i64 ((ltr t [0])), .int .i64 ((ltr t [1])), .int .i64 ((ltr t [2])), .int .i64 ((ltr t [0, 0])), .int .i64 ((ltr t [0, 1])), .int .i64 ((ltr t [1, 0])), .int .i64 ((ltr t [1, 1]))]) rfl rfl rfl (fun za zC zh zk => st_50 rfl (zh.ev rfl) (zh.ev rfl) rfl rfl rfl rfl rfl rfl rfl rfl hB16 (by first | decide | simp) (fun v => by have zb0 : Blk _ g14 50 #[.int .i64 ((ltr t [])), .int .i64 0, .int .i64 0, .int .i64 0, .int .i64 0, .int .i64 0, .int .i64 0, .int .i64 0] := hB16.set_ 0 _; have zb1 : Blk _ g14 50 #[.int .i64 ((ltr t [])), .int .i64 ((ltr t [0])), .int .i64 0, .int .i64 0, .int .i64 0, .int .i64 0, .int .i64 0, .int .i64 0] := zb0.set_ 1 _; have zb2 : Blk _ g14 50 #[.int .i64 ((ltr t [])), .int .i64 ((ltr t [0])), .int .i64 ((ltr t [1])), .int .i64 0, .int .i64 0, .int .i64 0, .int .i64 0, .int .i64 0] := zb1.set_ 2 _; have zb3 : Blk _ g14 50 #[.int .i64 ((ltr t [])), .int .i64 ((ltr t [0])), .int .i64 ((ltr t [1])), .int .i64 ((ltr t [2])), .int .i64 0, .int .i64 0, .int .i64 0, .int .i64 0] := zb2.set_ 3 _; have zb4 : Blk _ g14 50 #[.int .i64 ((ltr t [])), .int .i64 ((ltr t [0])), .int .i64 ((ltr t [1])), .int .i64 ((ltr t [2])), .int .i64 ((ltr t [0, 0])), .int .i64 0, .int .i64 0, .int .i64 0] := zb3.set_ 4 _; have zb5 : Blk _ g14 50 #[.int .i64 ((ltr t [])), .int .i64 ((ltr t [0])), .int .i64 ((ltr t [1])), .int .i64 ((ltr t [2])), .int .i64 ((ltr t [0, 0])), .int .i64 ((ltr t [0, 1])), .int .i64 0, .int .i64 0] := zb4.set_ 5 _; have zb6 : Blk _ g14 50 #[.int .i64 ((ltr t [])), .int .i64 ((ltr t [0])), .int .i64 ((ltr t [1])), .int .i64 ((ltr t [2])), .int .i64 ((ltr t [0, 0])), .int .i64 ((ltr t [0, 1])), .int .i64 ((ltr t [1, 0])), .int .i64 0] := zb5.set_ 6 _; have zb7 : Blk _ g14 50 #[.int .i64 ((ltr t [])), .int .i64 ((ltr t [0])), .int .i64 ((ltr t [1])), .int .i64 ((ltr t [2])), .int .i64 ((ltr t [0, 0])), .int .i64 ((ltr t [0, 1])), .int .i64 ((ltr t [1, 0])), .int .i64 ((ltr t [1, 1]))] := zb6.set_ 7 _; exact zk v _ ⟨(((((((Upd.at_ _ _ _ _).trans (Upd.at_ _ _ _ _)).trans (Upd.at_ _ _ _ _)).trans (Upd.at_ _ _ _ _)).trans (Upd.at_ _ _ _ _)).trans (Upd.at_ _ _ _ _)).trans (Upd.at_ _ _ _ _)).trans (Upd.at_ _ _ _ _), zb7⟩)) ?_
 rintro v25 w22 ⟨hu23, hB24⟩
 have hb26 : Below w.heap.size w w13 := (bstep hb20 hb17)
 have hb27 := upd_below hb26 hu23 (by omega)
 have hb29 : Below w9.heap.size w9 w13 := (bstep hbo hb17)
 have hB28 := hB10.below hb29
 have hB30 := upd_blk hB28 hu23 (by omega)
 refine WL.nil (WE.next (WC.seq ?_))
 have hl31 := hB30.lt
 have hl32 := hB24.lt
 have hws : w.heap.size ≤ w22.heap.size := hb27.size
 have hE9 : ∀ {zw : World} {q : Nat}, q ≤ 3 → (∃ vals : List Value, vals.length ≤ q ∧ AddG w22 m S9 (KL.map bkV) t id (prt t) a c (bag B (prt t)) st vals zw ∧ True) → Below w22.heap.size w22 zw := fun hq h => by obtain ⟨vals, h1, h2, _⟩ := h; exact AddG.early (Nat.le_trans h1 hq) h2
 have hObj := hO.obj.below hb27
 have hRow := hrw.below hb27
 have hSl : ∀ b, (b = m ∨ obk a (bag B (prt t)).length c = some b) → b < w22.heap.size := fun b q => by rcases q with q | q; (rw [q]; exact hObj.lt); (have z := (hown b q).2.2.2.1; omega)
 have hc33 := bkeeps hb27 _ _ hO.c0
 refine WC.seqV (S := ((fun b => b = m ∨ obk a (bag B (prt t)).length c = some b))) [(true, .val (.pointer (some ⟨g, 0, none⟩))), (true, .val (.pointer (some ⟨g, 0, none⟩))), (true, .val (.pointer (some ⟨g, 0, none⟩))), (true, .val (.map ((some m)))), (true, .val (.agg #[.int .i64 ((ltr t [])), .int .i64 ((ltr t [0])), .int .i64 ((ltr t [1])), .int .i64 ((ltr t [2])), .int .i64 ((ltr t [0, 0])), .int .i64 ((ltr t [0, 1])), .int .i64 ((ltr t [1, 0])), .int .i64 ((ltr t [1, 1]))])), (true, .val (.agg #[.int .i64 t.f, .slice ta t.args.length tc])), (true, .val undef), (true, .val (.int .i64 id)), (true, .val undef), (true, .val undef), (true, .val undef), (true, .val (.slice a ((bag B (prt t)).length) c)), (true, .val undef), (true, .val (.int .i64 (((st : Nat) : Int)))), (true, .val undef)] [(0, .pointer (some ⟨g, 0, none⟩)), (1, .agg #[.int .i64 t.f, .slice ta t.args.length tc]), (2, .int .i64 id), (4, .pointer (some ⟨g2, 0, none⟩)), (6, .int .i64 0), (7, .pointer (some ⟨g14, 0, none⟩)), (8, .bool false), (12, .bool ((decide ((id : Int) < (0 : Int)))))] [6, 8, 9, 10, 12, 14] [none, none, none, some (true, .tuple #[.slice a ((bag B (prt t)).length) c, .int .i64 (((st : Nat) : Int))]), none, none] (AddG w22 m S9 (KL.map bkV) t id (prt t) a c (bag B (prt t)) st) AddG.below (by decide) ⟨rfl, rfl, rfl, rfl, rfl, rfl, rfl, rfl, trivial⟩ (by kernel_rfl) (by kernel_rfl) (by kernel_rfl) (by kernel_rfl) ((Below.refl _ _)) ?_ ?_
 ·refine ⟨.inl ⟨rfl, true, .none rfl, (fun gg b h => by cases h), fun h w => optUndef h, fun zβ za zw zc => ?_⟩, ?_⟩
  ·exact wp_move rfl (zc.kn.ev rfl) ⟨_, rfl, Below.refl _ _, optDef zβ rfl⟩
  refine ⟨.inl ⟨rfl, true, .none rfl, (fun gg b h => by cases h), fun h w => optUndef h, fun zβ za zw zc => ?_⟩, ?_⟩
  ·exact nilCheck_ rfl ((evt za 17).trans (optSVal (zc.dep 0 17 (by kernel_rfl) (by decide)) rfl rfl)) ⟨_, rfl, Below.refl _ _, optDef zβ rfl⟩
  refine ⟨.inl ⟨rfl, true, .none rfl, (fun gg b h => by cases h), fun h w => optUndef h, fun zβ za zw zc => ?_⟩, ?_⟩
  ·exact fld_48_0 rfl ((evt za 18).trans (optSVal (zc.dep 1 18 (by kernel_rfl) (by decide)) rfl rfl)) ⟨_, rfl, Below.refl _ _, optDef zβ rfl⟩
  refine ⟨.inl ⟨rfl, true, .none rfl, (fun gg b h => by cases h), fun h w => optUndef h, fun zβ za zw zc => ?_⟩, ?_⟩
  ·exact ld_46 rfl ((evt za 19).trans (optSVal (zc.dep 2 19 (by kernel_rfl) (by decide)) rfl rfl)) (bkeeps (hE9 (q := 3) (by decide) (by obtain ⟨v9, h1, h2, _⟩ := zc.early 3 10 rfl (by kernel_rfl); exact ⟨v9, h1, h2, trivial⟩)) _ _ hc33) ⟨_, rfl, Below.refl _ _, optDef zβ rfl⟩
  refine ⟨.inl ⟨rfl, true, .none rfl, (fun gg b h => by cases h), fun h w => optUndef h, fun zβ za zw zc => ?_⟩, ?_⟩
  ·exact ld_50 rfl (zc.kn.ev rfl) (bkeeps (hE9 (q := 3) (by decide) (by obtain ⟨v9, h1, h2, _⟩ := zc.early 3 10 rfl (by kernel_rfl); exact ⟨v9, h1, h2, trivial⟩)) _ _ ((hB24.cell 0).trans rfl)) (bkeeps (hE9 (q := 3) (by decide) (by obtain ⟨v9, h1, h2, _⟩ := zc.early 3 10 rfl (by kernel_rfl); exact ⟨v9, h1, h2, trivial⟩)) _ _ ((hB24.cell 1).trans rfl)) (bkeeps (hE9 (q := 3) (by decide) (by obtain ⟨v9, h1, h2, _⟩ := zc.early 3 10 rfl (by kernel_rfl); exact ⟨v9, h1, h2, trivial⟩)) _ _ ((hB24.cell 2).trans rfl)) (bkeeps (hE9 (q := 3) (by decide) (by obtain ⟨v9, h1, h2, _⟩ := zc.early 3 10 rfl (by kernel_rfl); exact ⟨v9, h1, h2, trivial⟩)) _ _ ((hB24.cell 3).trans rfl)) (bkeeps (hE9 (q := 3) (by decide) (by obtain ⟨v9, h1, h2, _⟩ := zc.early 3 10 rfl (by kernel_rfl); exact ⟨v9, h1, h2, trivial⟩)) _ _ ((hB24.cell 4).trans rfl)) (bkeeps (hE9 (q := 3) (by decide) (by obtain ⟨v9, h1, h2, _⟩ := zc.early 3 10 rfl (by kernel_rfl); exact ⟨v9, h1, h2, trivial⟩)) _ _ ((hB24.cell 5).trans rfl)) (bkeeps (hE9 (q := 3) (by decide) (by obtain ⟨v9, h1, h2, _⟩ := zc.early 3 10 rfl (by kernel_rfl); exact ⟨v9, h1, h2, trivial⟩)) _ _ ((hB24.cell 6).trans rfl)) (bkeeps (hE9 (q := 3) (by decide) (by obtain ⟨v9, h1, h2, _⟩ := zc.early 3 10 rfl (by kernel_rfl); exact ⟨v9, h1, h2, trivial⟩)) _ _ ((hB24.cell 7).trans rfl)) ⟨_, rfl, Below.refl _ _, optDef zβ rfl⟩
  refine ⟨.inl ⟨rfl, true, .none rfl, (fun gg b h => by cases h), fun h w => optUndef h, fun zβ za zw zc => ?_⟩, ?_⟩
  ·exact ld_24 rfl (zc.kn.ev rfl) (bkeeps (hE9 (q := 3) (by decide) (by obtain ⟨v9, h1, h2, _⟩ := zc.early 3 10 rfl (by kernel_rfl); exact ⟨v9, h1, h2, trivial⟩)) _ _ ((hB30.cell 0).trans rfl)) (bkeeps (hE9 (q := 3) (by decide) (by obtain ⟨v9, h1, h2, _⟩ := zc.early 3 10 rfl (by kernel_rfl); exact ⟨v9, h1, h2, trivial⟩)) _ _ ((hB30.cell 1).trans rfl)) ⟨_, rfl, Below.refl _ _, optDef zβ rfl⟩
  refine ⟨.inr ⟨0, rfl, by kernel_rfl, true, .none rfl, (fun gg b h => by cases h), (fun h => (nomatch h)), fun zβ za zw zvals zc => ?_⟩, ?_⟩
  ·obtain rfl := vlen0 zc.len
   have zn := zc.now
   exact wp_call (by kernel_rfl) rfl (hv1 ((evt za 23).trans (optSVal (zc.dep 5 23 (by kernel_rfl) (by decide)) rfl rfl))) (cop_any t _ _ hz (IsT.below (bstep hb27 zn) hvt)) (fun v w' h => ⟨v, rfl, .ofBelow h.2, ⟨bstep zn h.2, InT.mono (fun b hb _ => Nat.le_trans zn.size hb) h.1⟩, cvNo⟩)
  refine ⟨.inl ⟨rfl, true, .none rfl, (fun gg b h => by cases h), fun h w => optUndef h, fun zβ za zw zc => ?_⟩, ?_⟩
  ·exact wp_move rfl (zc.kn.ev rfl) ⟨_, rfl, Below.refl _ _, optDef zβ rfl⟩
  refine ⟨.inr ⟨1, rfl, by kernel_rfl, true, .none rfl, (fun gg b h => by cases h), (fun h => (nomatch h)), fun zβ za zw zvals zc => ?_⟩, ?_⟩
  ·obtain ⟨z0, rfl⟩ := vlen1 zc.len
   have zn := zc.now
   obtain ⟨hb9, hT9⟩ := zn
   obtain ⟨_, a1, c1, e1, _⟩ := InT.form hT9
   have hl9 := zc.val 0 6 24 rfl (by kernel_rfl)
   simp only [List.getElem?_cons_zero, Option.some.injEq] at hl9
   rw [e1] at hT9
   exact build_54_0_1 rfl ((evt za 24).trans (hl9.symm.trans e1)) ((evt za 25).trans (optSVal (zc.dep 7 25 (by kernel_rfl) (by decide)) rfl rfl)) ⟨_, rfl, .ofBelow (Below.refl _ _), ⟨hb9, _, _, rfl, hT9⟩, cvNo⟩
  refine ⟨.inr ⟨2, rfl, by kernel_rfl, true, .none rfl, (fun gg b h => by cases h), (fun h => (nomatch h)), fun zβ za zw zvals zc => ?_⟩, ?_⟩
  ·obtain ⟨z0, z1, rfl⟩ := vlen2 zc.len
   have zn := zc.now
   obtain ⟨hb9, u1, u2, e1, hT9⟩ := zn
   obtain ⟨_, a1, c1, e2, _⟩ := InT.form hT9
   have hl9 := zc.val 1 8 26 rfl (by kernel_rfl)
   simp only [List.getElem?_cons_zero, List.getElem?_cons_succ, Option.some.injEq] at hl9
   simp only [Value.agg.injEq, Array.mk.injEq, List.cons.injEq, and_true] at e2
   obtain ⟨rfl, rfl⟩ := e2
   exact row_52_1 rfl ((evt za 26).trans (hl9.symm.trans e1)) ⟨_, rfl, .ofBelow (balloc _ _), ⟨bstep hb9 (balloc _ _), _, _, rfl, hb9.size, Blk.new' rfl, ⟨_, _, rfl, InT.below (balloc _ _) hT9⟩⟩, cvNo⟩
  refine ⟨.inr ⟨3, rfl, by kernel_rfl, true, .none rfl, (fun gg b h => by cases h), (fun h => (nomatch h)), fun zβ za zw zvals zc => ?_⟩, ?_⟩
  ·obtain ⟨z0, z1, z2, rfl⟩ := vlen3 zc.len
   have zn := zc.now
   obtain ⟨hb9, h1R⟩ := zn
   refine wp_entryAt_gm keyP (n := prt t) rfl Try.underlying46 (zeroRows _) (hObj.below hb9) hO.ent rfl ((evt za 20).trans (optSVal (zc.dep 3 20 (by kernel_rfl) (by decide)) rfl rfl)) ((evt za 21).trans (optSVal (zc.dep 4 21 (by kernel_rfl) (by decide)) rfl rfl)) (fun w' es' cl' h1 h2 h3 h4 => ?_)
   rw [hlk] at h2 h3 ⊢
   rw [← hst] at h3 ⊢
   have hc9 : Chg (fun b => b = m ∨ obk a (bag B (prt t)).length c = some b) zw w' := .ofUpd h4 (.inl rfl)
   exact ⟨_, rfl, hc9, ⟨⟨es', cl', h1, h2, fun s k e => by cases e; exact h3⟩, (hRow.below hb9).chg (Z := fun b => b = m) (.ofUpd h4 rfl) (fun b q e => (hown b q).2.1 e) (fun b q e => (hO.sS b q).2.1 e), h1R.chg hc9 hSl, Nat.le_trans hb9.size hc9.size⟩, cvIs rfl⟩
  refine ⟨.inl ⟨rfl, true, .none rfl, (fun gg b h => by cases h), fun h w => optUndef h, fun zβ za zw zc => ?_⟩, ?_⟩
  ·exact ext2_0 rfl ((evt za 28).trans (zc.link 3 10 28 _ _ rfl (by kernel_rfl) rfl rfl)) ⟨_, rfl, Below.refl _ _, optDef zβ rfl⟩
  refine ⟨.inr ⟨4, rfl, by kernel_rfl, true, .none rfl, (fun gg b h => by cases h), (fun h => (nomatch h)), fun zβ za zw zvals zc => ?_⟩, ?_⟩
  ·obtain ⟨z0, z1, z2, z3, rfl⟩ := vlen4 zc.len
   have zn := zc.now
   obtain ⟨hM9, hR9, ⟨g1, cs, e1, hg1, hB1, hin⟩, hws9⟩ := zn
   have hl9 := zc.val 2 9 27 rfl (by kernel_rfl)
   simp only [List.getElem?_cons_zero, List.getElem?_cons_succ, Option.some.injEq] at hl9
   exact wp_appD (E := eltR) (S2 := fun b => w22.heap.size ≤ b) (size := 3) (bytes := 40) (z := .agg #[.int .i64 0, .slice none 0 0, .int .i64 0]) rfl Try.underlying52 (by kernel_rfl) rfl (by decide) rfl ((evt za 22).trans (optSVal (zc.dep 11 22 (by kernel_rfl) (by decide)) rfl rfl)) ((evt za 27).trans (hl9.symm.trans e1)) hR9 hB1 hin (fun b q e => by have z := hSl b (.inr e); omega) (by omega) (by omega) (fun ra rc w' h1 h2 h3 => ⟨_, rfl, h2.mono (fun b q => .inr q), ⟨hM9.chg h2 (fun e => (hown _ e).2.1 rfl), ra, rc, rfl, h1.mono (fun b q _ => q.1.elim .inl (fun z => .inr ⟨z, h1.ne b q⟩)) (fun b q e => q.elim (fun z => by rcases h3 b e with y | y; exact (hown b y).2.2.1 z; (have z2 := (hO.sS b z).2.2; omega)) (fun z => z.2 e)), fun b q => (h3 b q).imp (fun z => z) (fun z => Nat.le_trans hws9 z)⟩, cvNo⟩)
  refine ⟨.inl ⟨rfl, true, .none rfl, (fun gg b h => by cases h), fun h w => optUndef h, fun zβ za zw zc => ?_⟩, ?_⟩
  ·exact ext2_1 rfl ((evt za 28).trans (zc.link 3 10 28 _ _ rfl (by kernel_rfl) rfl rfl)) ⟨_, rfl, Below.refl _ _, optDef zβ rfl⟩
  refine ⟨.inr ⟨5, rfl, by kernel_rfl, true, .none rfl, (fun gg b h => by cases h), (fun h => (nomatch h)), fun zβ za zw zvals zc => ?_⟩, ?_⟩
  ·obtain ⟨z0, z1, z2, z3, z4, rfl⟩ := vlen5 zc.len
   have zn := zc.now
   obtain ⟨⟨es', cl', h1, h2, h3⟩, ra, rc, e1, hR9⟩ := zn
   have hl9 := zc.val 4 12 29 rfl (by kernel_rfl)
   simp only [List.getElem?_cons_zero, List.getElem?_cons_succ, Option.some.injEq] at hl9
   refine wp_entryStore_gm (ok := okP) (enc := encP) (n := prt t) rfl h1 h2 (h3 _ _ rfl) rfl ((evt za 20).trans (optSVal (zc.dep 3 20 (by kernel_rfl) (by decide)) rfl rfl)) ((evt za 30).trans (optSVal (zc.dep 13 30 (by kernel_rfl) (by decide)) rfl rfl)) ((evt za 29).trans (hl9.symm.trans e1)) (fun w' es2 cl2 k1 k2 k3 => ?_)
   rw [gmPut_put] at k2
   exact ⟨_, rfl, .ofUpd k3 (.inl rfl), ⟨ra, rc, ⟨es2, cl2, k1, k2, fun s k e => nomatch e⟩, hR9.chg (Z := fun b => b = m) (.ofUpd k3 rfl) (fun b q e => (hO.sS b q).2.1 e) (fun b q e => by have z := hObj.lt; have z2 : b = m := e; omega) (fun b q e => (hown b q).2.1 e)⟩, cvNo⟩
  exact trivial
 ·intro za w34 zvals zh zl hG35 hc36 zu zw zk
  obtain ⟨z0, z1, z2, z3, z4, z5, rfl⟩ := vlen6 zl
  obtain ⟨ra37, rc38, hM39, hR40⟩ := hG35
  have hBg41 := chg_blk (hO.blk.below hb27) hc36 (fun q => by rcases q with q | q; exact hO.gm q; exact (hown _ q).1 rfl)
  clear zu zw zk
  refine WE.go zh ?_
  refine WE.next (WC.seq (WC.region (WL.mv rfl rfl rfl rfl rfl ?_)))
  refine WL.val _ rfl rfl rfl (fun za zC zh zk => nilCheck_ rfl (zh.ev rfl) zk) ?_
  refine WL.val _ rfl rfl rfl (fun za zC zh zk => fld_48_1 rfl (zh.ev rfl) zk) ?_
  refine WL.val _ rfl rfl rfl (fun za zC zh zk => ld_3 rfl (zh.ev rfl) ((hBg41.cell 1).trans rfl) zk) ?_
  refine WL.val (.int .i64 ((((B.length + 1) : Nat) : Int))) rfl rfl rfl (fun za zC zh zk => addb_3 rfl (zh.ev rfl) (zh.ev rfl) (wrap_eq (by omega) (by omega) (by omega)) zk) ?_
  refine WL.val _ rfl rfl rfl (fun za zC zh zk => nilCheck_ rfl (zh.ev rfl) zk) ?_
  refine WL.val _ rfl rfl rfl (fun za zC zh zk => fld_48_1 rfl (zh.ev rfl) zk) ?_
  refine WL.step (post := fun _ w' => Upd g w34 w' ∧ Blk w' g 48 #[.map ((some m)), .int .i64 ((((B.length + 1) : Nat) : Int))]) rfl rfl rfl (fun za zC zh zk => st_3 rfl (zh.ev rfl) (zh.ev rfl) hBg41 (by first | decide | simp) (fun v => zk v _ ⟨Upd.at_ _ _ _ _, hBg41.set_ 1 _⟩)) ?_
  rintro v45 w42 ⟨hu43, hB44⟩
  refine WL.nil (WE.sub (K' := [(0, .pointer (some ⟨g, 0, none⟩)), (1, .agg #[.int .i64 t.f, .slice ta t.args.length tc]), (2, .int .i64 id), (4, .pointer (some ⟨g2, 0, none⟩)), (6, .int .i64 0), (7, .pointer (some ⟨g14, 0, none⟩)), (8, .bool false), (12, .bool ((decide ((id : Int) < (0 : Int)))))]) ⟨rfl, rfl, rfl, rfl, rfl, rfl, rfl, rfl, trivial⟩ ?_)
  refine WE.next (WC.seq (WC.region (WL.asg rfl rfl rfl rfl rfl (WL.nil (WE.next (WC.ret (WE.ret1 rfl rfl ?_)))))))
  have hu9 := hu43
  have hc9 : Chg (fun b => b = g ∨ b = m ∨ obk a (bag B (prt t)).length c = some b) w w42 := Chg.trans (Chg.trans (.ofBelow hb27) (hc36.mono (fun b q => .inr q))) (.ofUpd hu9 (.inl rfl))
  obtain ⟨es2, cl2, k1, k2, _⟩ := hM39
  have hgl := hO.blk.lt
  have k1' : ObjAt w42 m (.map es2 cl2) := k1.upd hu9 (fun e => hO.gm e.symm)
  have hR9 := hR40.chg (Z := fun b => b = g) (.ofUpd hu9 rfl) (fun b q e => (hO.sS b q).1 e) (fun b q e => by have z2 : b = g := e; omega) (fun b q e => (hown b q).1 e)
  have hWs : w.heap.size ≤ w22.heap.size := hws
  have hF := FpO.added (S2 := fun b => (S9 b ∨ (w22.heap.size ≤ b ∧ obk ra37 ((bag B (prt t)).length + 1) rc38 ≠ some b)) ∧ b < w42.heap.size) hO ⟨hi64, hz⟩ hown hB44 k1' k2 (hR9.1.mono (fun b q hlt => ⟨q, hlt⟩) (fun b q => hR9.1.ne b q.1)) (fun b q => ⟨.inl q, Nat.lt_of_lt_of_le (hO.sS b q).2.2 hc9.size⟩) (fun b q => q.1.imp (fun z => z) (fun z => ⟨by omega, q.2, z.2⟩)) (fun b q => (hR9.2 b q).imp (fun z => z) (fun z => by omega)) hc9
  refine ⟨_, rfl, rfl, ⟨_, ⟨m, es2, cl2, _, _, hF, fun b q => q, hF.lt⟩, fun b q => ?_⟩, hc9.mono (fun b q => ?_)⟩
  ·rcases q with q | q | q | ⟨x, hx, q⟩
   ·exact .inl (hZ b (.inl q))
   ·exact .inl (hZ b (.inr (.inl q)))
   ·rcases q.1 with z | z
    ·exact .inl (hZ b (.inr (.inr (.inl z))))
    ·right; omega
   ·rcases KLput_mem hO.nd hx with rfl | ⟨hx, _⟩
    ·have q : obk ra37 (bag B (prt t) ++ [(t, id)]).length rc38 = some b := q
     rw [List.length_append, List.length_singleton] at q
     rcases hR9.2 b q with z | z
     ·exact .inl (hZ b (hown b z).2.2.2.2.1)
     ·right; omega
    ·exact .inl (hZ b (.inr (.inr (.inr ⟨x, hx, q⟩))))
  ·rcases q with q | q | q
   ·exact hZ b (.inl q)
   ·exact hZ b (.inr (.inl q))
   ·exact hZ b (hown b q).2.2.2.2.1
end Go.Proofs.Ytibncmnmjhimeaa

namespace Go.Proofs.Ytibncmnmjhimeaa
open Go.RowKit Go
set_option linter.unusedVariables false
set_option linter.unusedSimpArgs false
/-- The three ways' functions. -/
def fnW : Nat → FuncId
 | 0 => 28
 | 1 => 29
 | _ => 30
theorem callW (way : Nat) : callB Try.prog (fnW way) = true := by
 match way with
 | 0 => show callB Try.prog 28 = true; kernel_rfl
 | 1 => show callB Try.prog 29 = true; kernel_rfl
 | n + 2 => show callB Try.prog 30 = true; kernel_rfl
theorem fits_any (way : Nat) (x y : Int) (w : World) : Calls Try.prog (fnW way) #[.int .i64 x, .int .i64 y] w (Ret fun v' w' => v' = .bool (ltW way x y) ∧ Below w.heap.size w w') := by
 match way with
 | 0 => exact fU_any x y w
 | 1 => exact fG_any x y w
 | n + 2 => exact fI_any x y w
set_option maxRecDepth 100000 in
theorem askw_end (way g5 g7 g9 : Nat) (q0 q1 q2 q3 q4 q5 q6 q7 : Int) (p0 p1 p2 p3 p4 p5 p6 p7 : Int) (w : World) (h5 : Blk w g5 56 #[.func (.func (fnW way)) #[] #[]]) (h7 : Blk w g7 50 #[.int .i64 q0, .int .i64 q1, .int .i64 q2, .int .i64 q3, .int .i64 q4, .int .i64 q5, .int .i64 q6, .int .i64 q7]) (h9 : Blk w g9 75 #[.func (.func 41) #[] #[.pointer (some ⟨g5, 0, none⟩), .pointer (some ⟨g7, 0, none⟩), .pointer (some ⟨g9, 0, none⟩)]]) : Calls Try.prog 41 #[.agg #[.int .i64 p0, .int .i64 p1, .int .i64 p2, .int .i64 p3, .int .i64 p4, .int .i64 p5, .int .i64 p6, .int .i64 p7], .int .i64 (8 : Int), .pointer (some ⟨g5, 0, none⟩), .pointer (some ⟨g7, 0, none⟩), .pointer (some ⟨g9, 0, none⟩)] w (Ret fun v' w' => v' = .bool (fitP way (List.drop (8) [p0, p1, p2, p3, p4, p5, p6, p7]) (List.drop (8) [q0, q1, q2, q3, q4, q5, q6, q7])) ∧ Below w.heap.size w w') := by
 skip
 refine Calls.walk (l := [.agg #[.int .i64 p0, .int .i64 p1, .int .i64 p2, .int .i64 p3, .int .i64 p4, .int .i64 p5, .int .i64 p6, .int .i64 p7], .int .i64 8, .pointer (some ⟨g5, 0, none⟩), .pointer (some ⟨g7, 0, none⟩), .pointer (some ⟨g9, 0, none⟩)]) Try.func41 rfl (by kernel_rfl) ?_
 refine WC.sub (K' := [(0, .agg #[.int .i64 p0, .int .i64 p1, .int .i64 p2, .int .i64 p3, .int .i64 p4, .int .i64 p5, .int .i64 p6, .int .i64 p7]), (1, .int .i64 8), (2, .pointer (some ⟨g5, 0, none⟩)), (3, .pointer (some ⟨g7, 0, none⟩)), (4, .pointer (some ⟨g9, 0, none⟩))]) ⟨rfl, rfl, rfl, rfl, rfl, trivial⟩ ?_
 refine WC.seq (WC.region ?_)
 refine WL.step (post := NewBlk w 50 #[.int .i64 p0, .int .i64 p1, .int .i64 p2, .int .i64 p3, .int .i64 p4, .int .i64 p5, .int .i64 p6, .int .i64 p7]) rfl rfl rfl (fun za zC zh zk => box_50 rfl (zh.ev rfl) (zk _ _ (newBlk _ _ _))) ?_
 rintro _ w1 ⟨g2, rfl, hg3, hB4, hb5, hz6⟩
 have hl7 : g5 < g2 := by have z1 := h5.lt; omega
 have hl8 : g7 < g2 := by have z1 := h7.lt; omega
 have hl9 : g9 < g2 := by have z1 := h9.lt; omega
 have hl10 : w.heap.size ≤ g2 := by omega
 refine WL.asg rfl rfl rfl rfl rfl (WL.nil (WE.next (WC.seq ?_)))
 refine WC.opt [(true, .val (.int .i64 8)), (true, .val (.bool true)), (true, .val (.bool true)), ((true && !true), .val undef), ((true && !true), .val undef), ((true && !true), .val undef), ((true && !true), .val undef), ((true && !true), .val undef), ((true && !true), .val undef), ((true && !true), .val undef), ((true && !true), .val undef), ((true && !true), .val (.bool false)), (((true && !true) && false), .val undef), (((true && !true) && false), .val undef), (((true && !true) && false), .val undef), (((true && !true) && false), .val undef), (((true && !true) && false), .val undef), ((true && !true), .val undef), (true, .val (.bool true)), (true, .val (.bool true))] [(0, .agg #[.int .i64 p0, .int .i64 p1, .int .i64 p2, .int .i64 p3, .int .i64 p4, .int .i64 p5, .int .i64 p6, .int .i64 p7]), (1, .int .i64 8), (2, .pointer (some ⟨g5, 0, none⟩)), (3, .pointer (some ⟨g7, 0, none⟩)), (4, .pointer (some ⟨g9, 0, none⟩)), (5, .pointer (some ⟨g2, 0, none⟩))] ⟨rfl, rfl, rfl, rfl, rfl, rfl, trivial⟩ (by kernel_rfl) (by kernel_rfl) (by kernel_rfl) ?_ ?_
 ·refine ⟨⟨true, .none rfl, fun h w => optUndef h, fun zβ za zw zc => ?_⟩, ?_⟩
  ·exact wp_move rfl (zc.kn.ev rfl) ⟨_, rfl, Below.refl _ _, optDef zβ rfl⟩
  refine ⟨⟨true, .none rfl, fun h w => optUndef h, fun zβ za zw zc => ?_⟩, ?_⟩
  ·exact eql_3 rfl ((evt za 8).trans (optVal (zc.dep 0 8 (by kernel_rfl)) rfl rfl)) (zc.kn.ev rfl) (by rw [show ((8 : Int) == (8 : Int)) = true from rfl]; exact ⟨_, rfl, Below.refl _ _, optDef zβ rfl⟩)
  refine ⟨⟨true, .none rfl, fun h w => optUndef h, fun zβ za zw zc => ?_⟩, ?_⟩
  ·exact wp_move rfl ((evt za 9).trans (optVal (zc.dep 1 9 (by kernel_rfl)) rfl rfl)) ⟨_, rfl, Below.refl _ _, optDef zβ rfl⟩
  refine ⟨⟨(true && !true), .no (d := true) rfl (fun v w h => h), fun h w => optUndef h, fun zβ za zw zc => ?_⟩, ?_⟩
  ·simp at zβ
  refine ⟨⟨(true && !true), .no (d := true) rfl (fun v w h => h), fun h w => optUndef h, fun zβ za zw zc => ?_⟩, ?_⟩
  ·simp at zβ
  refine ⟨⟨(true && !true), .no (d := true) rfl (fun v w h => h), fun h w => optUndef h, fun zβ za zw zc => ?_⟩, ?_⟩
  ·simp at zβ
  refine ⟨⟨(true && !true), .no (d := true) rfl (fun v w h => h), fun h w => optUndef h, fun zβ za zw zc => ?_⟩, ?_⟩
  ·simp at zβ
  refine ⟨⟨(true && !true), .no (d := true) rfl (fun v w h => h), fun h w => optUndef h, fun zβ za zw zc => ?_⟩, ?_⟩
  ·simp at zβ
  refine ⟨⟨(true && !true), .no (d := true) rfl (fun v w h => h), fun h w => optUndef h, fun zβ za zw zc => ?_⟩, ?_⟩
  ·simp at zβ
  refine ⟨⟨(true && !true), .no (d := true) rfl (fun v w h => h), fun h w => optUndef h, fun zβ za zw zc => ?_⟩, ?_⟩
  ·simp at zβ
  refine ⟨⟨(true && !true), .no (d := true) rfl (fun v w h => h), fun h w => optUndef h, fun zβ za zw zc => ?_⟩, ?_⟩
  ·simp at zβ
  refine ⟨⟨(true && !true), .no (d := true) rfl (fun v w h => h), fun h w => optUndef h, fun zβ za zw zc => ?_⟩, ?_⟩
  ·simp at zβ
  refine ⟨⟨((true && !true) && false), .yes (d := (true && !true)) rfl (fun v w h => h), fun h w => optUndef h, fun zβ za zw zc => ?_⟩, ?_⟩
  ·simp at zβ
  refine ⟨⟨((true && !true) && false), .yes (d := (true && !true)) rfl (fun v w h => h), fun h w => optUndef h, fun zβ za zw zc => ?_⟩, ?_⟩
  ·simp at zβ
  refine ⟨⟨((true && !true) && false), .yes (d := (true && !true)) rfl (fun v w h => h), fun h w => optUndef h, fun zβ za zw zc => ?_⟩, ?_⟩
  ·simp at zβ
  refine ⟨⟨((true && !true) && false), .yes (d := (true && !true)) rfl (fun v w h => h), fun h w => optUndef h, fun zβ za zw zc => ?_⟩, ?_⟩
  ·simp at zβ
  refine ⟨⟨((true && !true) && false), .yes (d := (true && !true)) rfl (fun v w h => h), fun h w => optUndef h, fun zβ za zw zc => ?_⟩, ?_⟩
  ·simp at zβ
  refine ⟨⟨(true && !true), .no (d := true) rfl (fun v w h => h), fun h w => optUndef h, fun zβ za zw zc => ?_⟩, ?_⟩
  ·simp at zβ
  refine ⟨⟨true, .none rfl, fun h w => optUndef h, fun zβ za zw zc => ?_⟩, ?_⟩
  ·exact wp_pickT rfl ((evt za 10).trans (optVal (zc.dep 2 10 (by kernel_rfl)) rfl rfl)) (zc.kn.ev rfl) ⟨_, rfl, Below.refl _ _, optDef zβ rfl⟩
  refine ⟨⟨true, .none rfl, fun h w => optUndef h, fun zβ za zw zc => ?_⟩, ?_⟩
  ·exact wp_assign rfl ((evt za 26).trans (optVal (zc.dep 18 26 (by kernel_rfl)) rfl rfl)) ⟨_, rfl, Below.refl _ _, optDef zβ rfl⟩
  exact trivial
 ·intro za w11 zh hb12 zu
  have zh := zh.cons (d := 7) (v := .bool true) (optVal (zu 19 7 (by kernel_rfl)) rfl rfl)
  clear zu
  refine WE.go zh ?_
  refine WE.next (WC.ret (WE.ret1 rfl rfl ?_))
  have hb13 : Below w.heap.size w w11 := (bstep hb5 hb12)
  exact ⟨_, rfl, rfl, hb13⟩
set_option maxRecDepth 100000 in
theorem askw_step (way g5 g7 g9 : Nat) (q0 q1 q2 q3 q4 q5 q6 q7 : Int) (p0 p1 p2 p3 p4 p5 p6 p7 : Int) (i : Nat) (hi8 : i < 8) (w : World) (h5 : Blk w g5 56 #[.func (.func (fnW way)) #[] #[]]) (h7 : Blk w g7 50 #[.int .i64 q0, .int .i64 q1, .int .i64 q2, .int .i64 q3, .int .i64 q4, .int .i64 q5, .int .i64 q6, .int .i64 q7]) (h9 : Blk w g9 75 #[.func (.func 41) #[] #[.pointer (some ⟨g5, 0, none⟩), .pointer (some ⟨g7, 0, none⟩), .pointer (some ⟨g9, 0, none⟩)]]) (ih : ∀ w, (Blk w g5 56 #[.func (.func (fnW way)) #[] #[]] ∧ Blk w g7 50 #[.int .i64 q0, .int .i64 q1, .int .i64 q2, .int .i64 q3, .int .i64 q4, .int .i64 q5, .int .i64 q6, .int .i64 q7] ∧ Blk w g9 75 #[.func (.func 41) #[] #[.pointer (some ⟨g5, 0, none⟩), .pointer (some ⟨g7, 0, none⟩), .pointer (some ⟨g9, 0, none⟩)]]) → Calls Try.prog 41 #[.agg #[.int .i64 p0, .int .i64 p1, .int .i64 p2, .int .i64 p3, .int .i64 p4, .int .i64 p5, .int .i64 p6, .int .i64 p7], .int .i64 (((i + 1 : Nat) : Int) : Int), .pointer (some ⟨g5, 0, none⟩), .pointer (some ⟨g7, 0, none⟩), .pointer (some ⟨g9, 0, none⟩)] w (Ret fun v' w' => v' = .bool (fitP way (List.drop (i + 1) [p0, p1, p2, p3, p4, p5, p6, p7]) (List.drop (i + 1) [q0, q1, q2, q3, q4, q5, q6, q7])) ∧ Below w.heap.size w w')) : Calls Try.prog 41 #[.agg #[.int .i64 p0, .int .i64 p1, .int .i64 p2, .int .i64 p3, .int .i64 p4, .int .i64 p5, .int .i64 p6, .int .i64 p7], .int .i64 (((i : Nat) : Int) : Int), .pointer (some ⟨g5, 0, none⟩), .pointer (some ⟨g7, 0, none⟩), .pointer (some ⟨g9, 0, none⟩)] w (Ret fun v' w' => v' = .bool (fitP way (List.drop (i) [p0, p1, p2, p3, p4, p5, p6, p7]) (List.drop (i) [q0, q1, q2, q3, q4, q5, q6, q7])) ∧ Below w.heap.size w w') := by
 skip
 refine Calls.walk (l := [.agg #[.int .i64 p0, .int .i64 p1, .int .i64 p2, .int .i64 p3, .int .i64 p4, .int .i64 p5, .int .i64 p6, .int .i64 p7], .int .i64 (((i : Nat) : Int)), .pointer (some ⟨g5, 0, none⟩), .pointer (some ⟨g7, 0, none⟩), .pointer (some ⟨g9, 0, none⟩)]) Try.func41 rfl (by kernel_rfl) ?_
 refine WC.sub (K' := [(0, .agg #[.int .i64 p0, .int .i64 p1, .int .i64 p2, .int .i64 p3, .int .i64 p4, .int .i64 p5, .int .i64 p6, .int .i64 p7]), (1, .int .i64 (((i : Nat) : Int))), (2, .pointer (some ⟨g5, 0, none⟩)), (3, .pointer (some ⟨g7, 0, none⟩)), (4, .pointer (some ⟨g9, 0, none⟩))]) ⟨rfl, rfl, rfl, rfl, rfl, trivial⟩ ?_
 refine WC.seq (WC.region ?_)
 refine WL.step (post := NewBlk w 50 #[.int .i64 p0, .int .i64 p1, .int .i64 p2, .int .i64 p3, .int .i64 p4, .int .i64 p5, .int .i64 p6, .int .i64 p7]) rfl rfl rfl (fun za zC zh zk => box_50 rfl (zh.ev rfl) (zk _ _ (newBlk _ _ _))) ?_
 rintro _ w1 ⟨g2, rfl, hg3, hB4, hb5, hz6⟩
 have hl7 : g5 < g2 := by have z1 := h5.lt; omega
 have hl8 : g7 < g2 := by have z1 := h7.lt; omega
 have hl9 : g9 < g2 := by have z1 := h9.lt; omega
 have hl10 : w.heap.size ≤ g2 := by omega
 refine WL.asg rfl rfl rfl rfl rfl (WL.nil (WE.next (WC.seq ?_)))
 have hB11 := h5.below hb5
 have hc12 := cell8 (l := [p0, p1, p2, p3, p4, p5, p6, p7]) hB4 hi8
 have hB13 := h7.below hb5
 have hc14 := cell8 (l := [q0, q1, q2, q3, q4, q5, q6, q7]) hB13 hi8
 have hB15 := h9.below hb5
 refine WC.opt [(true, .val (.int .i64 (((i : Nat) : Int)))), (true, .val (.bool false)), (true, .val (.bool false)), ((true && !false), .val (.func (.func (fnW way)) #[] #[])), ((true && !false), .val (.int .i64 (((i : Nat) : Int)))), ((true && !false), .val (.pointer (some ⟨g2, 0 + i, none⟩))), ((true && !false), .val (.int .i64 ((List.getD [p0, p1, p2, p3, p4, p5, p6, p7] i 0)))), ((true && !false), .val (.int .i64 (((i : Nat) : Int)))), ((true && !false), .val (.pointer (some ⟨g7, 0 + i, none⟩))), ((true && !false), .val (.int .i64 ((List.getD [q0, q1, q2, q3, q4, q5, q6, q7] i 0)))), ((true && !false), .val (.bool ((ltW way (List.getD [p0, p1, p2, p3, p4, p5, p6, p7] i 0) (List.getD [q0, q1, q2, q3, q4, q5, q6, q7] i 0))))), ((true && !false), .val (.bool ((ltW way (List.getD [p0, p1, p2, p3, p4, p5, p6, p7] i 0) (List.getD [q0, q1, q2, q3, q4, q5, q6, q7] i 0))))), (((true && !false) && (ltW way (List.getD [p0, p1, p2, p3, p4, p5, p6, p7] i 0) (List.getD [q0, q1, q2, q3, q4, q5, q6, q7] i 0))), .val (.func (.func 41) #[] #[.pointer (some ⟨g5, 0, none⟩), .pointer (some ⟨g7, 0, none⟩), .pointer (some ⟨g9, 0, none⟩)])), (((true && !false) && (ltW way (List.getD [p0, p1, p2, p3, p4, p5, p6, p7] i 0) (List.getD [q0, q1, q2, q3, q4, q5, q6, q7] i 0))), .val (.agg #[.int .i64 p0, .int .i64 p1, .int .i64 p2, .int .i64 p3, .int .i64 p4, .int .i64 p5, .int .i64 p6, .int .i64 p7])), (((true && !false) && (ltW way (List.getD [p0, p1, p2, p3, p4, p5, p6, p7] i 0) (List.getD [q0, q1, q2, q3, q4, q5, q6, q7] i 0))), .val (.int .i64 (((i : Nat) : Int)))), (((true && !false) && (ltW way (List.getD [p0, p1, p2, p3, p4, p5, p6, p7] i 0) (List.getD [q0, q1, q2, q3, q4, q5, q6, q7] i 0))), .val (.int .i64 ((((i + 1) : Nat) : Int)))), (((true && !false) && (ltW way (List.getD [p0, p1, p2, p3, p4, p5, p6, p7] i 0) (List.getD [q0, q1, q2, q3, q4, q5, q6, q7] i 0))), .val (.bool ((fitP way (List.drop (i + 1) [p0, p1, p2, p3, p4, p5, p6, p7]) (List.drop (i + 1) [q0, q1, q2, q3, q4, q5, q6, q7]))))), ((true && !false), .val (.bool (((ltW way (List.getD [p0, p1, p2, p3, p4, p5, p6, p7] i 0) (List.getD [q0, q1, q2, q3, q4, q5, q6, q7] i 0)) && (fitP way (List.drop (i + 1) [p0, p1, p2, p3, p4, p5, p6, p7]) (List.drop (i + 1) [q0, q1, q2, q3, q4, q5, q6, q7])))))), (true, .val (.bool (((ltW way (List.getD [p0, p1, p2, p3, p4, p5, p6, p7] i 0) (List.getD [q0, q1, q2, q3, q4, q5, q6, q7] i 0)) && (fitP way (List.drop (i + 1) [p0, p1, p2, p3, p4, p5, p6, p7]) (List.drop (i + 1) [q0, q1, q2, q3, q4, q5, q6, q7])))))), (true, .val (.bool (((ltW way (List.getD [p0, p1, p2, p3, p4, p5, p6, p7] i 0) (List.getD [q0, q1, q2, q3, q4, q5, q6, q7] i 0)) && (fitP way (List.drop (i + 1) [p0, p1, p2, p3, p4, p5, p6, p7]) (List.drop (i + 1) [q0, q1, q2, q3, q4, q5, q6, q7]))))))] [(0, .agg #[.int .i64 p0, .int .i64 p1, .int .i64 p2, .int .i64 p3, .int .i64 p4, .int .i64 p5, .int .i64 p6, .int .i64 p7]), (1, .int .i64 (((i : Nat) : Int))), (2, .pointer (some ⟨g5, 0, none⟩)), (3, .pointer (some ⟨g7, 0, none⟩)), (4, .pointer (some ⟨g9, 0, none⟩)), (5, .pointer (some ⟨g2, 0, none⟩))] ⟨rfl, rfl, rfl, rfl, rfl, rfl, trivial⟩ (by kernel_rfl) (by kernel_rfl) (by kernel_rfl) ?_ ?_
 ·refine ⟨⟨true, .none rfl, fun h w => optUndef h, fun zβ za zw zc => ?_⟩, ?_⟩
  ·exact wp_move rfl (zc.kn.ev rfl) ⟨_, rfl, Below.refl _ _, optDef zβ rfl⟩
  refine ⟨⟨true, .none rfl, fun h w => optUndef h, fun zβ za zw zc => ?_⟩, ?_⟩
  ·exact eql_3 rfl ((evt za 8).trans (optVal (zc.dep 0 8 (by kernel_rfl)) rfl rfl)) (zc.kn.ev rfl) (by rw [show ((((i : Nat) : Int) : Int) == (8 : Int)) = false from beq_eq_false_iff_ne.2 (by omega)]; exact ⟨_, rfl, Below.refl _ _, optDef zβ rfl⟩)
  refine ⟨⟨true, .none rfl, fun h w => optUndef h, fun zβ za zw zc => ?_⟩, ?_⟩
  ·exact wp_move rfl ((evt za 9).trans (optVal (zc.dep 1 9 (by kernel_rfl)) rfl rfl)) ⟨_, rfl, Below.refl _ _, optDef zβ rfl⟩
  refine ⟨⟨_, .no (d := true) rfl (fun v w h => h), fun h w => optUndef h, fun zβ za zw zc => ?_⟩, ?_⟩
  ·exact ld_56 rfl (zc.kn.ev rfl) (bkeeps zc.below _ _ ((hB11.cell 0).trans rfl)) ⟨_, rfl, Below.refl _ _, optDef zβ rfl⟩
  refine ⟨⟨_, .no (d := true) rfl (fun v w h => h), fun h w => optUndef h, fun zβ za zw zc => ?_⟩, ?_⟩
  ·exact wp_move rfl (zc.kn.ev rfl) ⟨_, rfl, Below.refl _ _, optDef zβ rfl⟩
  refine ⟨⟨_, .no (d := true) rfl (fun v w h => h), fun h w => optUndef h, fun zβ za zw zc => ?_⟩, ?_⟩
  ·exact ixa_50 (k := i) rfl (zc.kn.ev rfl) ((evt za 12).trans (optVal (zc.dep 4 12 (by kernel_rfl)) rfl rfl)) hi8 ⟨_, rfl, Below.refl _ _, optDef zβ rfl⟩
  refine ⟨⟨_, .no (d := true) rfl (fun v w h => h), fun h w => optUndef h, fun zβ za zw zc => ?_⟩, ?_⟩
  ·exact ld_3 rfl ((evt za 13).trans (optVal (zc.dep 5 13 (by kernel_rfl)) rfl rfl)) (bkeeps zc.below _ _ hc12) ⟨_, rfl, Below.refl _ _, optDef zβ rfl⟩
  refine ⟨⟨_, .no (d := true) rfl (fun v w h => h), fun h w => optUndef h, fun zβ za zw zc => ?_⟩, ?_⟩
  ·exact wp_move rfl (zc.kn.ev rfl) ⟨_, rfl, Below.refl _ _, optDef zβ rfl⟩
  refine ⟨⟨_, .no (d := true) rfl (fun v w h => h), fun h w => optUndef h, fun zβ za zw zc => ?_⟩, ?_⟩
  ·exact ixa_50 (k := i) rfl (zc.kn.ev rfl) ((evt za 15).trans (optVal (zc.dep 7 15 (by kernel_rfl)) rfl rfl)) hi8 ⟨_, rfl, Below.refl _ _, optDef zβ rfl⟩
  refine ⟨⟨_, .no (d := true) rfl (fun v w h => h), fun h w => optUndef h, fun zβ za zw zc => ?_⟩, ?_⟩
  ·exact ld_3 rfl ((evt za 16).trans (optVal (zc.dep 8 16 (by kernel_rfl)) rfl rfl)) (bkeeps zc.below _ _ hc14) ⟨_, rfl, Below.refl _ _, optDef zβ rfl⟩
  refine ⟨⟨_, .no (d := true) rfl (fun v w h => h), fun h w => optUndef h, fun zβ za zw zc => ?_⟩, ?_⟩
  ·exact wp_callv (callW way) rfl ((evt za 11).trans (optVal (zc.dep 3 11 (by kernel_rfl)) rfl rfl)) (hv2 ((evt za 14).trans (optVal (zc.dep 6 14 (by kernel_rfl)) rfl rfl)) ((evt za 17).trans (optVal (zc.dep 9 17 (by kernel_rfl)) rfl rfl))) (fits_any way _ _ _) (fun v w' h => ⟨v, rfl, h.2, optDef zβ h.1⟩)
  refine ⟨⟨_, .no (d := true) rfl (fun v w h => h), fun h w => optUndef h, fun zβ za zw zc => ?_⟩, ?_⟩
  ·exact wp_move rfl ((evt za 18).trans (optVal (zc.dep 10 18 (by kernel_rfl)) rfl rfl)) ⟨_, rfl, Below.refl _ _, optDef zβ rfl⟩
  refine ⟨⟨_, .yes (d := (true && !false)) rfl (fun v w h => h), fun h w => optUndef h, fun zβ za zw zc => ?_⟩, ?_⟩
  ·exact ld_75 rfl (zc.kn.ev rfl) (bkeeps zc.below _ _ ((hB15.cell 0).trans rfl)) ⟨_, rfl, Below.refl _ _, optDef zβ rfl⟩
  refine ⟨⟨_, .yes (d := (true && !false)) rfl (fun v w h => h), fun h w => optUndef h, fun zβ za zw zc => ?_⟩, ?_⟩
  ·exact ld_50 rfl (zc.kn.ev rfl) (bkeeps zc.below _ _ ((hB4.cell 0).trans rfl)) (bkeeps zc.below _ _ ((hB4.cell 1).trans rfl)) (bkeeps zc.below _ _ ((hB4.cell 2).trans rfl)) (bkeeps zc.below _ _ ((hB4.cell 3).trans rfl)) (bkeeps zc.below _ _ ((hB4.cell 4).trans rfl)) (bkeeps zc.below _ _ ((hB4.cell 5).trans rfl)) (bkeeps zc.below _ _ ((hB4.cell 6).trans rfl)) (bkeeps zc.below _ _ ((hB4.cell 7).trans rfl)) ⟨_, rfl, Below.refl _ _, optDef zβ rfl⟩
  refine ⟨⟨_, .yes (d := (true && !false)) rfl (fun v w h => h), fun h w => optUndef h, fun zβ za zw zc => ?_⟩, ?_⟩
  ·exact wp_move rfl (zc.kn.ev rfl) ⟨_, rfl, Below.refl _ _, optDef zβ rfl⟩
  refine ⟨⟨_, .yes (d := (true && !false)) rfl (fun v w h => h), fun h w => optUndef h, fun zβ za zw zc => ?_⟩, ?_⟩
  ·exact addb_3 rfl ((evt za 22).trans (optVal (zc.dep 14 22 (by kernel_rfl)) rfl zβ)) (zc.kn.ev rfl) (wrap_eq (by omega) (by omega) (by omega)) ⟨_, rfl, Below.refl _ _, optDef zβ rfl⟩
  refine ⟨⟨_, .yes (d := (true && !false)) rfl (fun v w h => h), fun h w => optUndef h, fun zβ za zw zc => ?_⟩, ?_⟩
  ·exact wp_callv (by kernel_rfl) rfl ((evt za 20).trans (optVal (zc.dep 12 20 (by kernel_rfl)) rfl zβ)) (hv2 ((evt za 21).trans (optVal (zc.dep 13 21 (by kernel_rfl)) rfl zβ)) ((evt za 23).trans (optVal (zc.dep 15 23 (by kernel_rfl)) rfl zβ))) (ih _ ⟨Blk.below h5 (bstep hb5 zc.below), Blk.below h7 (bstep hb5 zc.below), Blk.below h9 (bstep hb5 zc.below)⟩) (fun v w' h => ⟨v, rfl, h.2, optDef zβ h.1⟩)
  refine ⟨⟨_, .no (d := true) rfl (fun v w h => h), fun h w => optUndef h, fun zβ za zw zc => ?_⟩, ?_⟩
  ·exact wp_and rfl ((evt za 19).trans (optVal (zc.dep 11 19 (by kernel_rfl)) rfl rfl)) (fun hp => ((evt za 24).trans (optVal (zc.dep 16 24 (by kernel_rfl)) rfl (bMk zβ hp)))) ⟨_, rfl, Below.refl _ _, optDef zβ rfl⟩
  refine ⟨⟨true, .none rfl, fun h w => optUndef h, fun zβ za zw zc => ?_⟩, ?_⟩
  ·exact wp_pickF rfl ((evt za 10).trans (optVal (zc.dep 2 10 (by kernel_rfl)) rfl rfl)) ((evt za 25).trans (optVal (zc.dep 17 25 (by kernel_rfl)) rfl rfl)) ⟨_, rfl, Below.refl _ _, optDef zβ rfl⟩
  refine ⟨⟨true, .none rfl, fun h w => optUndef h, fun zβ za zw zc => ?_⟩, ?_⟩
  ·exact wp_assign rfl ((evt za 26).trans (optVal (zc.dep 18 26 (by kernel_rfl)) rfl rfl)) ⟨_, rfl, Below.refl _ _, optDef zβ rfl⟩
  exact trivial
 ·intro za w17 zh hb18 zu
  have zh := zh.cons (d := 7) (v := .bool (((ltW way (List.getD [p0, p1, p2, p3, p4, p5, p6, p7] i 0) (List.getD [q0, q1, q2, q3, q4, q5, q6, q7] i 0)) && (fitP way (List.drop (i + 1) [p0, p1, p2, p3, p4, p5, p6, p7]) (List.drop (i + 1) [q0, q1, q2, q3, q4, q5, q6, q7]))))) (optVal (zu 19 7 (by kernel_rfl)) rfl rfl)
  clear zu
  refine WE.go zh ?_
  refine WE.next (WC.ret (WE.ret1 rfl rfl ?_))
  have hb19 : Below w.heap.size w w17 := (bstep hb5 hb18)
  refine ⟨_, rfl, congrArg Value.bool ?_, hb19⟩
  rw [fitP_at (p := [p0, p1, p2, p3, p4, p5, p6, p7]) (q := [q0, q1, q2, q3, q4, q5, q6, q7]) hi8 hi8]
theorem askw_any (way g5 g7 g9 : Nat) (q0 q1 q2 q3 q4 q5 q6 q7 : Int) (p0 p1 p2 p3 p4 p5 p6 p7 : Int) : ∀ (n i : Nat) (w : World), i + n = 8 → ∀ (h5 : Blk w g5 56 #[.func (.func (fnW way)) #[] #[]]) (h7 : Blk w g7 50 #[.int .i64 q0, .int .i64 q1, .int .i64 q2, .int .i64 q3, .int .i64 q4, .int .i64 q5, .int .i64 q6, .int .i64 q7]) (h9 : Blk w g9 75 #[.func (.func 41) #[] #[.pointer (some ⟨g5, 0, none⟩), .pointer (some ⟨g7, 0, none⟩), .pointer (some ⟨g9, 0, none⟩)]]), Calls Try.prog 41 #[.agg #[.int .i64 p0, .int .i64 p1, .int .i64 p2, .int .i64 p3, .int .i64 p4, .int .i64 p5, .int .i64 p6, .int .i64 p7], .int .i64 (((i : Nat) : Int) : Int), .pointer (some ⟨g5, 0, none⟩), .pointer (some ⟨g7, 0, none⟩), .pointer (some ⟨g9, 0, none⟩)] w (Ret fun v' w' => v' = .bool (fitP way (List.drop (i) [p0, p1, p2, p3, p4, p5, p6, p7]) (List.drop (i) [q0, q1, q2, q3, q4, q5, q6, q7])) ∧ Below w.heap.size w w') := by
 intro n
 induction n with
 | zero =>
  intro i w hi h5 h7 h9
  obtain rfl : i = 8 := by omega
  exact askw_end way g5 g7 g9 q0 q1 q2 q3 q4 q5 q6 q7 p0 p1 p2 p3 p4 p5 p6 p7 w h5 h7 h9
 | succ n ih =>
  intro i w hi h5 h7 h9
  exact askw_step way g5 g7 g9 q0 q1 q2 q3 q4 q5 q6 q7 p0 p1 p2 p3 p4 p5 p6 p7 i (by omega) w h5 h7 h9 (fun w q => ih (i + 1) w (by omega) q.1 q.2.1 q.2.2)
end Go.Proofs.Ytibncmnmjhimeaa
