/- Loops over functions, and functions that hand out one thing after the other. -/
import Derived.Test.YtibncmnmjhimeaaFPEb
import Derived.Test.YtibncmnmjhimeaaFPEa

/- Letters, prints, copies: the program. -/
namespace Go.Proofs.Ytibncmnmjhimeaa
open Go.RowKit Go
set_option linter.unusedVariables false
set_option linter.unusedSimpArgs false
/-- The eight places, told. -/
structure PlIs (w : World) (B : Nat) (A : Nat → Option Addr) : Prop where
 row : ∀ i, i < 8 → InRow eltN (fun b => B ≤ b) w (pl8.getD i []) (A i)
theorem PlIs.below {w w' : World} {B : Nat} {A : Nat → Option Addr} (h : PlIs w B A) (hb : Below w.heap.size w w') : PlIs w' B A := ⟨fun i hi => (h.row i hi).below hb⟩
theorem PlIs.chg {w w' : World} {B : Nat} {A : Nat → Option Addr} {X : Nat → Prop} (h : PlIs w B A) (hc : Chg X w w') (hX : ∀ b, B ≤ b → ¬ X b) : PlIs w' B A := ⟨fun i hi => (h.row i hi).keep fun p v hp hv => by
 have hb := World.block_lt_of_cell? _ _ hv
 unfold World.cell? at hv ⊢
 rw [hc.block p.block hb (hX _ hp)]; exact hv⟩
theorem PlIs.upd {w w' : World} {B g : Nat} {A : Nat → Option Addr} (h : PlIs w B A) (hu : Upd g w w') (hg : g < B) : PlIs w' B A := h.chg (X := fun b => b = g) (.ofUpd hu rfl) (fun b q e => by have z : b = g := e; omega)
theorem inRow1 {w : World} {B b t : Nat} {x : Nat} (hg : B ≤ b) (h : Blk w b t #[.int .i64 (x : Int)]) : InRow eltN (fun k => B ≤ k) w [x] (some ⟨b, 0, none⟩) := fun i hi => by
 have hi0 : i = 0 := by simp at hi; exact hi
 subst hi0
 refine ⟨b, 0, [.int .i64 (x : Int)], rfl, hg, rfl, fun j hj => ?_⟩
 have hj0 : j = 0 := by have z : j < 1 := hj; omega
 subst hj0
 exact (h.cell 0).trans rfl
theorem inRow2 {w : World} {B b t : Nat} {x y : Nat} (hg : B ≤ b) (h : Blk w b t #[.int .i64 (x : Int), .int .i64 (y : Int)]) : InRow eltN (fun k => B ≤ k) w [x, y] (some ⟨b, 0, none⟩) := fun i hi => by
 have hi2 : i = 0 ∨ i = 1 := by simp at hi; omega
 rcases hi2 with rfl | rfl
 ·refine ⟨b, 0, [.int .i64 (x : Int)], rfl, hg, rfl, fun j hj => ?_⟩
  have hj0 : j = 0 := by have z : j < 1 := hj; omega
  subst hj0
  exact (h.cell 0).trans rfl
 ·refine ⟨b, 0, [.int .i64 (y : Int)], rfl, hg, rfl, fun j hj => ?_⟩
  have hj0 : j = 0 := by have z : j < 1 := hj; omega
  subst hj0
  exact (h.cell 1).trans rfl
set_option maxRecDepth 100000 in
theorem places_any (w : World) : Calls Try.prog 39 #[] w (Ret fun v' w' => (∃ (A : Nat → Option Addr) (C : Nat → Nat), v' = .agg #[.slice (A 0) 0 (C 0), .slice (A 1) 1 (C 1), .slice (A 2) 1 (C 2), .slice (A 3) 1 (C 3), .slice (A 4) 2 (C 4), .slice (A 5) 2 (C 5), .slice (A 6) 2 (C 6), .slice (A 7) 2 (C 7)] ∧ PlIs w' w.heap.size A) ∧ Below w.heap.size w w') := by
 skip
 refine Calls.walk (l := []) Try.func39 rfl (by kernel_rfl) ?_
 refine WC.sub (K' := []) trivial ?_
 refine WC.seq (WC.region ?_)
 refine WL.step (post := NewBlk w 72 #[.slice none 0 0, .slice none 0 0, .slice none 0 0, .slice none 0 0, .slice none 0 0, .slice none 0 0, .slice none 0 0, .slice none 0 0]) rfl rfl rfl (fun za zC zh zk => alloc_72 rfl (zk _ _ (newBlk _ _ _))) ?_
 rintro _ w1 ⟨g2, rfl, hg3, hB4, hb5, hz6⟩
 have hl7 : w.heap.size ≤ g2 := by omega
 refine WL.nil (WE.next (WC.seq (WC.region ?_)))
 refine WL.step (post := NewRow w1 3 #[] 0) rfl rfl rfl (fun za zC zh zk => row_71_0 rfl  (zk _ _ (newRow _ _ _ _))) ?_
 rintro _ w8 ⟨g9, rfl, hg10, hB11, hb12, hz13⟩
 have hl14 : g2 < g9 := by have z1 := hB4.lt; omega
 have hl15 : w.heap.size ≤ g9 := by have z2 := (hb5).size; omega
 refine WL.step (post := NewRow w8 3 #[.int .i64 0] 1) rfl rfl rfl (fun za zC zh zk => row_71_1 rfl (zh.ev rfl) (zk _ _ (newRow _ _ _ _))) ?_
 rintro _ w16 ⟨g17, rfl, hg18, hB19, hb20, hz21⟩
 have hl22 : g2 < g17 := by have z1 := hB4.lt; have z2 := (hb12).size; omega
 have hl23 : g9 < g17 := by have z1 := hB11.lt; omega
 have hb24 : Below w.heap.size w w8 := (bstep hb5 hb12)
 have hl25 : w.heap.size ≤ g17 := by have z2 := (hb24).size; omega
 refine WL.step (post := NewRow w16 3 #[.int .i64 1] 1) rfl rfl rfl (fun za zC zh zk => row_71_1 rfl (zh.ev rfl) (zk _ _ (newRow _ _ _ _))) ?_
 rintro _ w26 ⟨g27, rfl, hg28, hB29, hb30, hz31⟩
 have hb32 : Below w1.heap.size w1 w16 := (bstep hb12 hb20)
 have hl33 : g2 < g27 := by have z1 := hB4.lt; have z2 := (hb32).size; omega
 have hl34 : g9 < g27 := by have z1 := hB11.lt; have z2 := (hb20).size; omega
 have hl35 : g17 < g27 := by have z1 := hB19.lt; omega
 have hb36 : Below w.heap.size w w16 := (bstep hb5 hb32)
 have hl37 : w.heap.size ≤ g27 := by have z2 := (hb36).size; omega
 refine WL.step (post := NewRow w26 3 #[.int .i64 2] 1) rfl rfl rfl (fun za zC zh zk => row_71_1 rfl (zh.ev rfl) (zk _ _ (newRow _ _ _ _))) ?_
 rintro _ w38 ⟨g39, rfl, hg40, hB41, hb42, hz43⟩
 have hb44 : Below w1.heap.size w1 w26 := (bstep hb32 hb30)
 have hl45 : g2 < g39 := by have z1 := hB4.lt; have z2 := (hb44).size; omega
 have hb46 : Below w8.heap.size w8 w26 := (bstep hb20 hb30)
 have hl47 : g9 < g39 := by have z1 := hB11.lt; have z2 := (hb46).size; omega
 have hl48 : g17 < g39 := by have z1 := hB19.lt; have z2 := (hb30).size; omega
 have hl49 : g27 < g39 := by have z1 := hB29.lt; omega
 have hb50 : Below w.heap.size w w26 := (bstep hb5 hb44)
 have hl51 : w.heap.size ≤ g39 := by have z2 := (hb50).size; omega
 refine WL.step (post := NewRow w38 3 #[.int .i64 0, .int .i64 0] 2) rfl rfl rfl (fun za zC zh zk => row_71_2 rfl (zh.ev rfl) (zh.ev rfl) (zk _ _ (newRow _ _ _ _))) ?_
 rintro _ w52 ⟨g53, rfl, hg54, hB55, hb56, hz57⟩
 have hb58 : Below w1.heap.size w1 w38 := (bstep hb44 hb42)
 have hl59 : g2 < g53 := by have z1 := hB4.lt; have z2 := (hb58).size; omega
 have hb60 : Below w8.heap.size w8 w38 := (bstep hb46 hb42)
 have hl61 : g9 < g53 := by have z1 := hB11.lt; have z2 := (hb60).size; omega
 have hb62 : Below w16.heap.size w16 w38 := (bstep hb30 hb42)
 have hl63 : g17 < g53 := by have z1 := hB19.lt; have z2 := (hb62).size; omega
 have hl64 : g27 < g53 := by have z1 := hB29.lt; have z2 := (hb42).size; omega
 have hl65 : g39 < g53 := by have z1 := hB41.lt; omega
 have hb66 : Below w.heap.size w w38 := (bstep hb5 hb58)
 have hl67 : w.heap.size ≤ g53 := by have z2 := (hb66).size; omega
 refine WL.step (post := NewRow w52 3 #[.int .i64 0, .int .i64 1] 2) rfl rfl rfl (fun za zC zh zk => row_71_2 rfl (zh.ev rfl) (zh.ev rfl) (zk _ _ (newRow _ _ _ _))) ?_
 rintro _ w68 ⟨g69, rfl, hg70, hB71, hb72, hz73⟩
 have hb74 : Below w1.heap.size w1 w52 := (bstep hb58 hb56)
 have hl75 : g2 < g69 := by have z1 := hB4.lt; have z2 := (hb74).size; omega
 have hb76 : Below w8.heap.size w8 w52 := (bstep hb60 hb56)
 have hl77 : g9 < g69 := by have z1 := hB11.lt; have z2 := (hb76).size; omega
 have hb78 : Below w16.heap.size w16 w52 := (bstep hb62 hb56)
 have hl79 : g17 < g69 := by have z1 := hB19.lt; have z2 := (hb78).size; omega
 have hb80 : Below w26.heap.size w26 w52 := (bstep hb42 hb56)
 have hl81 : g27 < g69 := by have z1 := hB29.lt; have z2 := (hb80).size; omega
 have hl82 : g39 < g69 := by have z1 := hB41.lt; have z2 := (hb56).size; omega
 have hl83 : g53 < g69 := by have z1 := hB55.lt; omega
 have hb84 : Below w.heap.size w w52 := (bstep hb5 hb74)
 have hl85 : w.heap.size ≤ g69 := by have z2 := (hb84).size; omega
 refine WL.step (post := NewRow w68 3 #[.int .i64 1, .int .i64 0] 2) rfl rfl rfl (fun za zC zh zk => row_71_2 rfl (zh.ev rfl) (zh.ev rfl) (zk _ _ (newRow _ _ _ _))) ?_
 rintro _ w86 ⟨g87, rfl, hg88, hB89, hb90, hz91⟩
 have hb92 : Below w1.heap.size w1 w68 := (bstep hb74 hb72)
 have hl93 : g2 < g87 := by have z1 := hB4.lt; have z2 := (hb92).size; omega
 have hb94 : Below w8.heap.size w8 w68 := (bstep hb76 hb72)
 have hl95 : g9 < g87 := by have z1 := hB11.lt; have z2 := (hb94).size; omega
 have hb96 : Below w16.heap.size w16 w68 := (bstep hb78 hb72)
 have hl97 : g17 < g87 := by have z1 := hB19.lt; have z2 := (hb96).size; omega
 have hb98 : Below w26.heap.size w26 w68 := (bstep hb80 hb72)
 have hl99 : g27 < g87 := by have z1 := hB29.lt; have z2 := (hb98).size; omega
 have hb100 : Below w38.heap.size w38 w68 := (bstep hb56 hb72)
 have hl101 : g39 < g87 := by have z1 := hB41.lt; have z2 := (hb100).size; omega
 have hl102 : g53 < g87 := by have z1 := hB55.lt; have z2 := (hb72).size; omega
 have hl103 : g69 < g87 := by have z1 := hB71.lt; omega
 have hb104 : Below w.heap.size w w68 := (bstep hb5 hb92)
 have hl105 : w.heap.size ≤ g87 := by have z2 := (hb104).size; omega
 refine WL.step (post := NewRow w86 3 #[.int .i64 1, .int .i64 1] 2) rfl rfl rfl (fun za zC zh zk => row_71_2 rfl (zh.ev rfl) (zh.ev rfl) (zk _ _ (newRow _ _ _ _))) ?_
 rintro _ w106 ⟨g107, rfl, hg108, hB109, hb110, hz111⟩
 have hb112 : Below w1.heap.size w1 w86 := (bstep hb92 hb90)
 have hl113 : g2 < g107 := by have z1 := hB4.lt; have z2 := (hb112).size; omega
 have hb114 : Below w8.heap.size w8 w86 := (bstep hb94 hb90)
 have hl115 : g9 < g107 := by have z1 := hB11.lt; have z2 := (hb114).size; omega
 have hb116 : Below w16.heap.size w16 w86 := (bstep hb96 hb90)
 have hl117 : g17 < g107 := by have z1 := hB19.lt; have z2 := (hb116).size; omega
 have hb118 : Below w26.heap.size w26 w86 := (bstep hb98 hb90)
 have hl119 : g27 < g107 := by have z1 := hB29.lt; have z2 := (hb118).size; omega
 have hb120 : Below w38.heap.size w38 w86 := (bstep hb100 hb90)
 have hl121 : g39 < g107 := by have z1 := hB41.lt; have z2 := (hb120).size; omega
 have hb122 : Below w52.heap.size w52 w86 := (bstep hb72 hb90)
 have hl123 : g53 < g107 := by have z1 := hB55.lt; have z2 := (hb122).size; omega
 have hl124 : g69 < g107 := by have z1 := hB71.lt; have z2 := (hb90).size; omega
 have hl125 : g87 < g107 := by have z1 := hB89.lt; omega
 have hb126 : Below w.heap.size w w86 := (bstep hb5 hb112)
 have hl127 : w.heap.size ≤ g107 := by have z2 := (hb126).size; omega
 refine WL.val (.agg #[.slice ((some ⟨g9, 0, none⟩)) 0 0, .slice ((some ⟨g17, 0, none⟩)) 1 1, .slice ((some ⟨g27, 0, none⟩)) 1 1, .slice ((some ⟨g39, 0, none⟩)) 1 1, .slice ((some ⟨g53, 0, none⟩)) 2 2, .slice ((some ⟨g69, 0, none⟩)) 2 2, .slice ((some ⟨g87, 0, none⟩)) 2 2, .slice ((some ⟨g107, 0, none⟩)) 2 2]) rfl rfl rfl (fun za zC zh zk => build_72_0_1_2_3_4_5_6_7 rfl (zh.ev rfl) (zh.ev rfl) (zh.ev rfl) (zh.ev rfl) (zh.ev rfl) (zh.ev rfl) (zh.ev rfl) (zh.ev rfl) zk) ?_
 have hb129 : Below w1.heap.size w1 w106 := (bstep hb112 hb110)
 have hB128 := hB4.below hb129
 refine WL.step (post := fun _ w' => Upd g2 w106 w' ∧ Blk w' g2 72 #[.slice ((some ⟨g9, 0, none⟩)) 0 0, .slice ((some ⟨g17, 0, none⟩)) 1 1, .slice ((some ⟨g27, 0, none⟩)) 1 1, .slice ((some ⟨g39, 0, none⟩)) 1 1, .slice ((some ⟨g53, 0, none⟩)) 2 2, .slice ((some ⟨g69, 0, none⟩)) 2 2, .slice ((some ⟨g87, 0, none⟩)) 2 2, .slice ((some ⟨g107, 0, none⟩)) 2 2]) rfl rfl rfl (fun za zC zh zk => st_72 rfl (zh.ev rfl) (zh.ev rfl) rfl rfl rfl rfl rfl rfl rfl rfl hB128 (by first | decide | simp) (fun v => by have zb0 : Blk _ g2 72 #[.slice ((some ⟨g9, 0, none⟩)) 0 0, .slice none 0 0, .slice none 0 0, .slice none 0 0, .slice none 0 0, .slice none 0 0, .slice none 0 0, .slice none 0 0] := hB128.set_ 0 _; have zb1 : Blk _ g2 72 #[.slice ((some ⟨g9, 0, none⟩)) 0 0, .slice ((some ⟨g17, 0, none⟩)) 1 1, .slice none 0 0, .slice none 0 0, .slice none 0 0, .slice none 0 0, .slice none 0 0, .slice none 0 0] := zb0.set_ 1 _; have zb2 : Blk _ g2 72 #[.slice ((some ⟨g9, 0, none⟩)) 0 0, .slice ((some ⟨g17, 0, none⟩)) 1 1, .slice ((some ⟨g27, 0, none⟩)) 1 1, .slice none 0 0, .slice none 0 0, .slice none 0 0, .slice none 0 0, .slice none 0 0] := zb1.set_ 2 _; have zb3 : Blk _ g2 72 #[.slice ((some ⟨g9, 0, none⟩)) 0 0, .slice ((some ⟨g17, 0, none⟩)) 1 1, .slice ((some ⟨g27, 0, none⟩)) 1 1, .slice ((some ⟨g39, 0, none⟩)) 1 1, .slice none 0 0, .slice none 0 0, .slice none 0 0, .slice none 0 0] := zb2.set_ 3 _; have zb4 : Blk _ g2 72 #[.slice ((some ⟨g9, 0, none⟩)) 0 0, .slice ((some ⟨g17, 0, none⟩)) 1 1, .slice ((some ⟨g27, 0, none⟩)) 1 1, .slice ((some ⟨g39, 0, none⟩)) 1 1, .slice ((some ⟨g53, 0, none⟩)) 2 2, .slice none 0 0, .slice none 0 0, .slice none 0 0] := zb3.set_ 4 _; have zb5 : Blk _ g2 72 #[.slice ((some ⟨g9, 0, none⟩)) 0 0, .slice ((some ⟨g17, 0, none⟩)) 1 1, .slice ((some ⟨g27, 0, none⟩)) 1 1, .slice ((some ⟨g39, 0, none⟩)) 1 1, .slice ((some ⟨g53, 0, none⟩)) 2 2, .slice ((some ⟨g69, 0, none⟩)) 2 2, .slice none 0 0, .slice none 0 0] := zb4.set_ 5 _; have zb6 : Blk _ g2 72 #[.slice ((some ⟨g9, 0, none⟩)) 0 0, .slice ((some ⟨g17, 0, none⟩)) 1 1, .slice ((some ⟨g27, 0, none⟩)) 1 1, .slice ((some ⟨g39, 0, none⟩)) 1 1, .slice ((some ⟨g53, 0, none⟩)) 2 2, .slice ((some ⟨g69, 0, none⟩)) 2 2, .slice ((some ⟨g87, 0, none⟩)) 2 2, .slice none 0 0] := zb5.set_ 6 _; have zb7 : Blk _ g2 72 #[.slice ((some ⟨g9, 0, none⟩)) 0 0, .slice ((some ⟨g17, 0, none⟩)) 1 1, .slice ((some ⟨g27, 0, none⟩)) 1 1, .slice ((some ⟨g39, 0, none⟩)) 1 1, .slice ((some ⟨g53, 0, none⟩)) 2 2, .slice ((some ⟨g69, 0, none⟩)) 2 2, .slice ((some ⟨g87, 0, none⟩)) 2 2, .slice ((some ⟨g107, 0, none⟩)) 2 2] := zb6.set_ 7 _; exact zk v _ ⟨(((((((Upd.at_ _ _ _ _).trans (Upd.at_ _ _ _ _)).trans (Upd.at_ _ _ _ _)).trans (Upd.at_ _ _ _ _)).trans (Upd.at_ _ _ _ _)).trans (Upd.at_ _ _ _ _)).trans (Upd.at_ _ _ _ _)).trans (Upd.at_ _ _ _ _), zb7⟩)) ?_
 rintro v133 w130 ⟨hu131, hB132⟩
 have hb134 : Below w.heap.size w w106 := (bstep hb5 hb129)
 have hb135 := upd_below hb134 hu131 (by omega)
 have hb137 : Below w8.heap.size w8 w106 := (bstep hb114 hb110)
 have hB136 := hB11.below hb137
 have hB138 := upd_blk hB136 hu131 (by omega)
 have hb140 : Below w16.heap.size w16 w106 := (bstep hb116 hb110)
 have hB139 := hB19.below hb140
 have hB141 := upd_blk hB139 hu131 (by omega)
 have hb143 : Below w26.heap.size w26 w106 := (bstep hb118 hb110)
 have hB142 := hB29.below hb143
 have hB144 := upd_blk hB142 hu131 (by omega)
 have hb146 : Below w38.heap.size w38 w106 := (bstep hb120 hb110)
 have hB145 := hB41.below hb146
 have hB147 := upd_blk hB145 hu131 (by omega)
 have hb149 : Below w52.heap.size w52 w106 := (bstep hb122 hb110)
 have hB148 := hB55.below hb149
 have hB150 := upd_blk hB148 hu131 (by omega)
 have hb152 : Below w68.heap.size w68 w106 := (bstep hb90 hb110)
 have hB151 := hB71.below hb152
 have hB153 := upd_blk hB151 hu131 (by omega)
 have hB154 := hB89.below hb110
 have hB155 := upd_blk hB154 hu131 (by omega)
 have hB156 := upd_blk hB109 hu131 (by omega)
 refine WL.nil (WE.next (WC.ret ?_))
 refine WE.retAny (v := .agg #[.slice ((some ⟨g9, 0, none⟩)) 0 0, .slice ((some ⟨g17, 0, none⟩)) 1 1, .slice ((some ⟨g27, 0, none⟩)) 1 1, .slice ((some ⟨g39, 0, none⟩)) 1 1, .slice ((some ⟨g53, 0, none⟩)) 2 2, .slice ((some ⟨g69, 0, none⟩)) 2 2, .slice ((some ⟨g87, 0, none⟩)) 2 2, .slice ((some ⟨g107, 0, none⟩)) 2 2]) (fun za zh => ?_) ?_
 ·have z0 : za.tmps[0]?.getD undef = .pointer (some ⟨g2, 0, none⟩) := by rw [← Array.getD_eq_getD_getElem?]; exact zh.knows 0 _ rfl
  have y0 : w130.cell? ⟨g2, 0, none⟩ = some (.slice ((some ⟨g9, 0, none⟩)) 0 0) := ((hB132.cell 0).trans rfl)
  have y1 : w130.cell? ⟨g2, 1, none⟩ = some (.slice ((some ⟨g17, 0, none⟩)) 1 1) := ((hB132.cell 1).trans rfl)
  have y2 : w130.cell? ⟨g2, 2, none⟩ = some (.slice ((some ⟨g27, 0, none⟩)) 1 1) := ((hB132.cell 2).trans rfl)
  have y3 : w130.cell? ⟨g2, 3, none⟩ = some (.slice ((some ⟨g39, 0, none⟩)) 1 1) := ((hB132.cell 3).trans rfl)
  have y4 : w130.cell? ⟨g2, 4, none⟩ = some (.slice ((some ⟨g53, 0, none⟩)) 2 2) := ((hB132.cell 4).trans rfl)
  have y5 : w130.cell? ⟨g2, 5, none⟩ = some (.slice ((some ⟨g69, 0, none⟩)) 2 2) := ((hB132.cell 5).trans rfl)
  have y6 : w130.cell? ⟨g2, 6, none⟩ = some (.slice ((some ⟨g87, 0, none⟩)) 2 2) := ((hB132.cell 6).trans rfl)
  have y7 : w130.cell? ⟨g2, 7, none⟩ = some (.slice ((some ⟨g107, 0, none⟩)) 2 2) := ((hB132.cell 7).trans rfl)
  simp [results, Try.results39, z0, y0, y1, y2, y3, y4, y5, y6, y7, go_sem]
 ·refine ⟨_, rfl, ⟨fun i => match i with | 0 => (some ⟨g9, 0, none⟩) | 1 => (some ⟨g17, 0, none⟩) | 2 => (some ⟨g27, 0, none⟩) | 3 => (some ⟨g39, 0, none⟩) | 4 => (some ⟨g53, 0, none⟩) | 5 => (some ⟨g69, 0, none⟩) | 6 => (some ⟨g87, 0, none⟩) | _ => (some ⟨g107, 0, none⟩), fun i => match i with | 0 => 0 | 1 => 1 | 2 => 1 | 3 => 1 | 4 => 2 | 5 => 2 | 6 => 2 | _ => 2, rfl, ⟨fun i hi => ?_⟩⟩, hb135⟩
  match i, hi with
  | 0, _ => exact InRow.nil
  | 1, _ => exact inRow1 (x := 0) (by omega) hB141
  | 2, _ => exact inRow1 (x := 1) (by omega) hB144
  | 3, _ => exact inRow1 (x := 2) (by omega) hB147
  | 4, _ => exact inRow2 (x := 0) (y := 0) (by omega) hB150
  | 5, _ => exact inRow2 (x := 0) (y := 1) (by omega) hB153
  | 6, _ => exact inRow2 (x := 1) (y := 0) (by omega) hB155
  | 7, _ => exact inRow2 (x := 1) (y := 1) (by omega) hB156
theorem ltr_neg {s : T} {i : Nat} {p : List Nat} (h : s.f < 0) : ltr s (i :: p) = -2 := by
 cases s with
 | mk f l => have h : f < 0 := h; rw [ltr, if_pos h]
theorem ltr_none {s : T} {i : Nat} {p : List Nat} (h0 : ¬ s.f < 0) (h : s.args.length ≤ i) : ltr s (i :: p) = -3 := by
 cases s with
 | mk f l => have h0 : ¬ f < 0 := h0; have h : l.length ≤ i := h; rw [ltr, if_neg h0, if_pos h]
theorem ltr_next {s : T} {i : Nat} {p : List Nat} (h0 : ¬ s.f < 0) (h : ¬ s.args.length ≤ i) : ltr s (i :: p) = ltr (tget s.args i) p := by
 cases s with
 | mk f l => have h0 : ¬ f < 0 := h0; have h : ¬ l.length ≤ i := h; rw [ltr, if_neg h0, if_neg h]; rfl
theorem drop_ltr {p : List Nat} {k : Nat} (h : k < p.length) : p.drop k = aget p k :: p.drop (k + 1) := by rw [List.drop_eq_getElem_cons h, aget_lt h]
structure LSt where
 k : Nat
 s : T
 a : Option Addr
 c : Nat
set_option maxRecDepth 100000 in
theorem letter_any (p : List Nat) (t : T) (S : Nat → Prop) (w : World) (v : Value) (a : Option Addr) (c : Nat) (hz : p.length ≤ 4294967296) (hv : IsT w t v) (hp : InRow eltN S w p a) : Calls Try.prog 40 #[v, .slice a p.length c] w (Ret fun v' w' => v' = .int .i64 (ltr t p) ∧ Below w.heap.size w w') := by
 have hvt := hv
 obtain ⟨_, ta, tc, rfl, _, _, _⟩ := hv.form
 obtain ⟨lb, lo, hla, hlc⟩ := InRow.openN hp
 refine Calls.walk (l := [.agg #[.int .i64 t.f, .slice ta t.args.length tc], .slice a p.length c]) Try.func40 rfl (by kernel_rfl) ?_
 refine WC.sub (K' := [(0, .agg #[.int .i64 t.f, .slice ta t.args.length tc]), (1, .slice a p.length c)]) ⟨rfl, rfl, trivial⟩ ?_
 refine WC.seq (WC.region ?_)
 refine WL.step (post := NewBlk w 24 #[.int .i64 t.f, .slice ta t.args.length tc]) rfl rfl rfl (fun za zC zh zk => box_24 rfl (zh.ev rfl) (zk _ _ (newBlk _ _ _))) ?_
 rintro _ w1 ⟨g2, rfl, hg3, hB4, hb5, hz6⟩
 have hl7 : w.heap.size ≤ g2 := by omega
 refine WL.asg rfl rfl rfl rfl rfl (WL.nil (WE.next (WC.seq (WC.seq (WC.region (WL.mv rfl rfl rfl rfl rfl ?_))))))
 refine WL.val (.int .i64 (((p.length : Nat) : Int))) rfl rfl rfl (fun za zC zh zk => len_71 rfl (zh.ev rfl) zk) ?_
 refine WL.mv rfl rfl rfl rfl rfl (WL.nil (WE.next (WC.block ?_)))
 refine WC.loop (X := LSt) (fun x => p.length - x.k) (fun x => [(0, .agg #[.int .i64 t.f, .slice ta t.args.length tc]), (1, .slice a p.length c), (2, .pointer (some ⟨g2, 0, none⟩)), (7, .slice a p.length c), (8, .int .i64 (((p.length : Nat) : Int))), (9, .int .i64 (((x.k : Nat) : Int)))]) (fun x w8 => x.k ≤ p.length ∧ ltr x.s (p.drop x.k) = ltr t p ∧ IsT w x.s (.agg #[.int .i64 x.s.f, .slice x.a x.s.args.length x.c]) ∧ Below w.heap.size w w8 ∧ Blk w8 g2 24 #[.int .i64 x.s.f, .slice x.a x.s.args.length x.c]) (⟨0, t, ta, tc⟩) ⟨rfl, rfl, rfl, rfl, rfl, rfl, trivial⟩ ?_ ?_
 ·exact ⟨Nat.zero_le _, rfl, hvt, hb5, hB4⟩
 ·rintro x w8 ⟨hk, hxe, hxT, hb9, hB10⟩
  refine WC.seq (WC.region ?_)
  refine WL.val (.bool ((decide ((((x.k : Nat) : Int) : Int) < (((p.length : Nat) : Int) : Int))))) rfl rfl rfl (fun za zC zh zk => lss_3 rfl (zh.ev rfl) (zh.ev rfl) zk) ?_
  refine WL.nil (WE.next (WC.seq ?_))
  refine WC.cond rfl (fun h11 => ?_) (fun h11 => ?_)
  ·have h11 : (((x.k : Nat) : Int) : Int) < (((p.length : Nat) : Int) : Int) := by simpa using h11
   refine WC.skip (WE.next (WC.seq (WC.block (WC.seq (WC.region ?_)))))
   refine WL.val _ rfl rfl rfl (fun za zC zh zk => ix_71 (k := x.k) rfl (zh.ev rfl) (hla x.k (by first | omega | (simp; omega))) (zh.ev rfl) (by first | omega | (simp; omega)) zk) ?_
   refine WL.val _ rfl rfl rfl (fun za zC zh zk => ld_3 rfl (zh.ev rfl) (bkeeps hb9 _ _ (hlc x.k (by first | omega | (simp; omega)))) zk) ?_
   refine WL.asg rfl rfl rfl rfl rfl (WL.nil (WE.next (WC.seq (WC.block (WC.seq (WC.region ?_))))))
   refine WL.val _ rfl rfl rfl (fun za zC zh zk => fld_24_0 rfl (zh.ev rfl) zk) ?_
   refine WL.val _ rfl rfl rfl (fun za zC zh zk => ld_3 rfl (zh.ev rfl) ((hB10.cell 0).trans rfl) zk) ?_
   refine WL.val (.bool ((decide ((x.s.f : Int) < (0 : Int))))) rfl rfl rfl (fun za zC zh zk => lss_3 rfl (zh.ev rfl) (zh.ev rfl) zk) ?_
   refine WL.asg rfl rfl rfl rfl rfl (WL.nil (WE.next ?_))
   refine WC.cond rfl (fun h12 => ?_) (fun h12 => ?_)
   ·have h12 : (x.s.f : Int) < (0 : Int) := by simpa using h12
    refine WC.seq (WC.region (WL.asg rfl rfl rfl rfl rfl (WL.nil (WE.next (WC.ret (WE.blockRet (WE.thenRet (WE.blockRet (WE.thenRet (WE.thenRet (WE.blockRet (WE.thenRet (WE.ret1 rfl rfl ?_)))))))))))))
    refine ⟨_, rfl, ?_, hb9⟩
    rw [← hxe, drop_ltr (by omega), ltr_neg (by omega)]
   ·have h12 : ¬ ((x.s.f : Int) < (0 : Int)) := by simpa using h12
    refine WC.seq (WC.region (WL.mv rfl rfl rfl rfl rfl ?_))
    refine WL.val _ rfl rfl rfl (fun za zC zh zk => fld_24_1 rfl (zh.ev rfl) zk) ?_
    refine WL.val _ rfl rfl rfl (fun za zC zh zk => ld_22 rfl (zh.ev rfl) ((hB10.cell 1).trans rfl) zk) ?_
    refine WL.val (.int .i64 (((x.s.args.length : Nat) : Int))) rfl rfl rfl (fun za zC zh zk => len_22 rfl (zh.ev rfl) zk) ?_
    refine WL.val (.bool ((decide ((((x.s.args.length : Nat) : Int) : Int) ≤ ((((aget p x.k) : Nat) : Int) : Int))))) rfl rfl rfl (fun za zC zh zk => geq_3 rfl (zh.ev rfl) (zh.ev rfl) zk) ?_
    refine WL.asg rfl rfl rfl rfl rfl (WL.nil (WE.next ?_))
    refine WC.cond rfl (fun h13 => ?_) (fun h13 => ?_)
    ·have h13 : (((x.s.args.length : Nat) : Int) : Int) ≤ ((((aget p x.k) : Nat) : Int) : Int) := by simpa using h13
     refine WC.seq (WC.region (WL.asg rfl rfl rfl rfl rfl (WL.nil (WE.next (WC.ret (WE.blockRet (WE.thenRet (WE.blockRet (WE.thenRet (WE.thenRet (WE.blockRet (WE.thenRet (WE.ret1 rfl rfl ?_)))))))))))))
     refine ⟨_, rfl, ?_, hb9⟩
     rw [← hxe, drop_ltr (by omega), ltr_none (by omega) (by omega)]
    ·have h13 : ¬ ((((x.s.args.length : Nat) : Int) : Int) ≤ ((((aget p x.k) : Nat) : Int) : Int)) := by simpa using h13
     refine WC.skip (WE.blockNormal (WE.next (WC.region ?_)))
     refine WL.val _ rfl rfl rfl (fun za zC zh zk => fld_24_1 rfl (zh.ev rfl) zk) ?_
     refine WL.val _ rfl rfl rfl (fun za zC zh zk => ld_22 rfl (zh.ev rfl) ((hB10.cell 1).trans rfl) zk) ?_
     refine WL.mv rfl rfl rfl rfl rfl ?_
     have hl14 := isT_row hxT
     obtain ⟨b15, o16, A17, C18, ha19, hc20⟩ := IsTs.open hl14.2.2.2
     refine WL.val _ rfl rfl rfl (fun za zC zh zk => ix_22 (k := (aget p x.k)) rfl (zh.ev rfl) (ha19 ((aget p x.k)) (by first | omega | (simp; omega))) (zh.ev rfl) (by first | omega | (simp; omega)) zk) ?_
     refine WL.val _ rfl rfl rfl (fun za zC zh zk => ld_24 rfl (zh.ev rfl) (bkeeps hb9 _ _ (hc20 ((aget p x.k)) (by first | omega | (simp; omega))).1) (bkeeps hb9 _ _ (hc20 ((aget p x.k)) (by first | omega | (simp; omega))).2.1) zk) ?_
     refine WL.step (post := fun _ w' => Upd g2 w8 w' ∧ Blk w' g2 24 #[.int .i64 ((tget x.s.args ((aget p x.k))).f), .slice ((A17 ((aget p x.k)))) ((tget x.s.args ((aget p x.k))).args.length) ((C18 ((aget p x.k))))]) rfl rfl rfl (fun za zC zh zk => st_24 rfl (zh.ev rfl) (zh.ev rfl) rfl rfl hB10 (by first | decide | simp) (fun v => zk v _ ⟨(Upd.at_ _ _ _ _).trans (Upd.at_ _ _ _ _), (hB10.set_ 0 _).set_ 1 _⟩)) ?_
     rintro v24 w21 ⟨hu22, hB23⟩
     have hb25 := upd_below hb9 hu22 (by omega)
     refine WL.nil (WE.blockNormal (WE.next (WC.region ?_)))
     refine WL.val (.int .i64 ((((x.k + 1) : Nat) : Int))) rfl rfl rfl (fun za zC zh zk => addb_3 rfl (zh.ev rfl) (zh.ev rfl) (wrap_eq (by omega) (by omega) (by omega)) zk) ?_
     refine WL.mv rfl rfl rfl rfl rfl (WL.nil ?_)
     refine WE.round (⟨x.k + 1, tget x.s.args (aget p x.k), (A17 ((aget p x.k))), (C18 ((aget p x.k)))⟩) ⟨rfl, rfl, rfl, rfl, rfl, rfl, trivial⟩ ?_ ?_
     ·exact ⟨(by (try dsimp only); omega), (by (try dsimp only); rw [← ltr_next (by omega) (by omega), ← drop_ltr (by omega)]; exact hxe), ((hc20 ((aget p x.k)) (by first | omega | (simp; omega))).2.2), hb25, hB23⟩
     ·(try dsimp only); omega
  ·have h11 : ¬ ((((x.k : Nat) : Int) : Int) < (((p.length : Nat) : Int) : Int)) := by simpa using h11
   refine WC.exit (WE.thenExit (WE.thenExit (WE.blockIs rfl (WE.next (WC.seq (WC.region ?_))))))
   refine WL.val _ rfl rfl rfl (fun za zC zh zk => fld_24_0 rfl (zh.ev rfl) zk) ?_
   refine WL.val _ rfl rfl rfl (fun za zC zh zk => ld_3 rfl (zh.ev rfl) ((hB10.cell 0).trans rfl) zk) ?_
   refine WL.val (.int .i64 ((max x.s.f ((-1))))) rfl rfl rfl (fun za zC zh zk => max_3 rfl (zh.ev rfl) (zh.ev rfl) zk) ?_
   refine WL.asg rfl rfl rfl rfl rfl (WL.nil (WE.next (WC.ret (WE.ret1 rfl rfl ?_))))
   refine ⟨_, rfl, ?_, hb9⟩
   rw [← hxe, List.drop_of_length_le (by omega)]
   cases x.s; rfl
set_option maxRecDepth 100000 in
theorem of_any (t : T) (w : World) (v : Value) (hv : IsT w t v) : Calls Try.prog 25 #[v] w (Ret fun v' w' => v' = encP (prt t) ∧ Below w.heap.size w w') := by
 have hvt := hv
 obtain ⟨_, ta, tc, rfl, _, _, _⟩ := hv.form
 rw [encP_prt]
 refine Calls.walk (l := [.agg #[.int .i64 t.f, .slice ta t.args.length tc]]) Try.func25 rfl (by kernel_rfl) ?_
 refine WC.sub (K' := [(0, .agg #[.int .i64 t.f, .slice ta t.args.length tc])]) ⟨rfl, trivial⟩ ?_
 refine WC.seq (WC.region ?_)
 refine WL.step (post := NewBlk w 24 #[.int .i64 t.f, .slice ta t.args.length tc]) rfl rfl rfl (fun za zC zh zk => box_24 rfl (zh.ev rfl) (zk _ _ (newBlk _ _ _))) ?_
 rintro _ w1 ⟨g2, rfl, hg3, hB4, hb5, hz6⟩
 have hl7 : w.heap.size ≤ g2 := by omega
 refine WL.step (post := NewBlk w1 50 #[.int .i64 0, .int .i64 0, .int .i64 0, .int .i64 0, .int .i64 0, .int .i64 0, .int .i64 0, .int .i64 0]) rfl rfl rfl (fun za zC zh zk => alloc_50 rfl (zk _ _ (newBlk _ _ _))) ?_
 rintro _ w8 ⟨g9, rfl, hg10, hB11, hb12, hz13⟩
 have hl14 : g2 < g9 := by have z1 := hB4.lt; omega
 have hl15 : w.heap.size ≤ g9 := by have z2 := (hb5).size; omega
 refine WL.nil (WE.next (WC.seq (WC.seq (WC.region ?_))))
 have hB18 := hB4.below hb12
 have hl19 := hB18.lt
 have hl20 := hB11.lt
 refine WL.call rfl rfl rfl (fun za zh zC => wp_call (by kernel_rfl) rfl (hv0)) (places_any _) ?_
 rintro _ w21 ⟨⟨A, C, rfl, hP16⟩, hb17⟩
 refine WL.mv rfl rfl rfl rfl rfl (WL.nil (WE.next (WC.block ?_)))
 refine WC.loop (X := Nat) (fun k => 8 - k) (fun k => [(0, .agg #[.int .i64 t.f, .slice ta t.args.length tc]), (1, .pointer (some ⟨g2, 0, none⟩)), (2, .pointer (some ⟨g9, 0, none⟩)), (5, .agg #[.slice ((A 0)) 0 ((C 0)), .slice ((A 1)) 1 ((C 1)), .slice ((A 2)) 1 ((C 2)), .slice ((A 3)) 1 ((C 3)), .slice ((A 4)) 2 ((C 4)), .slice ((A 5)) 2 ((C 5)), .slice ((A 6)) 2 ((C 6)), .slice ((A 7)) 2 ((C 7))]), (6, .int .i64 (((k : Nat) : Int)))]) (fun k w22 => k ≤ 8 ∧ Below w.heap.size w w22 ∧ Blk w22 g2 24 #[.int .i64 t.f, .slice ta t.args.length tc] ∧ Blk w22 g9 50 #[.int .i64 ((if 0 < k then (ltr t []) else 0)), .int .i64 ((if 1 < k then (ltr t [0]) else 0)), .int .i64 ((if 2 < k then (ltr t [1]) else 0)), .int .i64 ((if 3 < k then (ltr t [2]) else 0)), .int .i64 ((if 4 < k then (ltr t [0, 0]) else 0)), .int .i64 ((if 5 < k then (ltr t [0, 1]) else 0)), .int .i64 ((if 6 < k then (ltr t [1, 0]) else 0)), .int .i64 ((if 7 < k then (ltr t [1, 1]) else 0))] ∧ PlIs (w22) w8.heap.size A) 0 ⟨rfl, rfl, rfl, rfl, rfl, trivial⟩ ?_ ?_
 ·have hb23 : Below w.heap.size w w21 := (bstep (bstep hb5 hb12) hb17)
  have hB24 := hB18.below hb17
  have hB25 := hB11.below hb17
  exact ⟨Nat.zero_le _, hb23, hB24, hB25, hP16⟩
 ·rintro k w22 ⟨hk, hb26, hB27, hB28, ho29⟩
  have hcase : k = 0 ∨ k = 1 ∨ k = 2 ∨ k = 3 ∨ k = 4 ∨ k = 5 ∨ k = 6 ∨ k = 7 ∨ k = 8 := by omega
  rcases hcase with rfl | rfl | rfl | rfl | rfl | rfl | rfl | rfl | rfl
  ·have hB30 : Blk w22 g9 50 #[.int .i64 0, .int .i64 0, .int .i64 0, .int .i64 0, .int .i64 0, .int .i64 0, .int .i64 0, .int .i64 0] := hB28
   refine WC.seq (WC.region ?_)
   refine WL.val (.bool true) rfl rfl rfl (fun za zC zh zk => lss_3 rfl (zh.ev rfl) (zh.ev rfl) zk) ?_
   refine WL.nil (WE.next (WC.seq ?_))
   refine WC.condT rfl rfl ?_
   refine WC.skip (WE.next (WC.seq (WC.block (WC.seq (WC.region (WL.mv rfl rfl rfl rfl rfl ?_))))))
   refine WL.val (.slice ((A 0)) 0 ((C 0))) rfl rfl rfl (fun za zC zh zk => axc_72_0 rfl (zh.ev rfl) (zh.ev rfl) zk) ?_
   refine WL.asg rfl rfl rfl rfl rfl (WL.asg rfl rfl rfl rfl rfl (WL.nil (WE.next (WC.region (WL.mv rfl rfl rfl rfl rfl ?_)))))
   refine WL.val _ rfl rfl rfl (fun za zC zh zk => ld_24 rfl (zh.ev rfl) ((hB27.cell 0).trans rfl) ((hB27.cell 1).trans rfl) zk) ?_
   refine WL.mv rfl rfl rfl rfl rfl ?_
   refine WL.call rfl rfl rfl (fun za zh zC => wp_call (by kernel_rfl) rfl (hv2 (zh.ev rfl) (zh.ev rfl))) (letter_any [] t _ _ _ _ _ (by decide) (IsT.below hb26 hvt) ((PlIs.row ho29) 0 (by decide))) ?_
   rintro _ w32 ⟨rfl, hq31⟩
   refine WL.val _ rfl rfl rfl (fun za zC zh zk => ixa_50 (k := 0) rfl (zh.ev rfl) (zh.ev rfl) (by decide) zk) ?_
   have hB33 := hB30.below hq31
   refine WL.step (post := fun _ w' => Upd g9 w32 w' ∧ Blk w' g9 50 #[.int .i64 ((ltr t [])), .int .i64 0, .int .i64 0, .int .i64 0, .int .i64 0, .int .i64 0, .int .i64 0, .int .i64 0]) rfl rfl rfl (fun za zC zh zk => st_3 rfl (zh.ev rfl) (zh.ev rfl) hB33 (by first | decide | simp) (fun v => zk v _ ⟨Upd.at_ _ _ _ _, hB33.set_ 0 _⟩)) ?_
   rintro v37 w34 ⟨hu35, hB36⟩
   have hb38 : Below w.heap.size w w32 := (bstep hb26 hq31)
   have hb39 := upd_below hb38 hu35 (by omega)
   have hB40 := hB27.below hq31
   have hB41 := upd_blk hB40 hu35 (by omega)
   have ho42 := ho29.below hq31
   have ho43 := ho42.upd hu35 (by omega)
   refine WL.nil (WE.blockNormal (WE.next (WC.region ?_)))
   refine WL.val (.int .i64 1) rfl rfl rfl (fun za zC zh zk => addb_3 rfl (zh.ev rfl) (zh.ev rfl) (wrap_eq (by omega) (by omega) (by omega)) zk) ?_
   refine WL.mv rfl rfl rfl rfl rfl (WL.nil ?_)
   refine WE.round 1 ⟨rfl, rfl, rfl, rfl, rfl, trivial⟩ ?_ ?_
   ·exact ⟨(by omega), hb39, hB41, hB36, ho43⟩
   ·omega
  ·have hB44 : Blk w22 g9 50 #[.int .i64 ((ltr t [])), .int .i64 0, .int .i64 0, .int .i64 0, .int .i64 0, .int .i64 0, .int .i64 0, .int .i64 0] := hB28
   refine WC.seq (WC.region ?_)
   refine WL.val (.bool true) rfl rfl rfl (fun za zC zh zk => lss_3 rfl (zh.ev rfl) (zh.ev rfl) zk) ?_
   refine WL.nil (WE.next (WC.seq ?_))
   refine WC.condT rfl rfl ?_
   refine WC.skip (WE.next (WC.seq (WC.block (WC.seq (WC.region (WL.mv rfl rfl rfl rfl rfl ?_))))))
   refine WL.val (.slice ((A 1)) 1 ((C 1))) rfl rfl rfl (fun za zC zh zk => axc_72_1 rfl (zh.ev rfl) (zh.ev rfl) zk) ?_
   refine WL.asg rfl rfl rfl rfl rfl (WL.asg rfl rfl rfl rfl rfl (WL.nil (WE.next (WC.region (WL.mv rfl rfl rfl rfl rfl ?_)))))
   refine WL.val _ rfl rfl rfl (fun za zC zh zk => ld_24 rfl (zh.ev rfl) ((hB27.cell 0).trans rfl) ((hB27.cell 1).trans rfl) zk) ?_
   refine WL.mv rfl rfl rfl rfl rfl ?_
   refine WL.call rfl rfl rfl (fun za zh zC => wp_call (by kernel_rfl) rfl (hv2 (zh.ev rfl) (zh.ev rfl))) (letter_any [0] t _ _ _ _ _ (by decide) (IsT.below hb26 hvt) ((PlIs.row ho29) 1 (by decide))) ?_
   rintro _ w46 ⟨rfl, hq45⟩
   refine WL.val _ rfl rfl rfl (fun za zC zh zk => ixa_50 (k := 1) rfl (zh.ev rfl) (zh.ev rfl) (by decide) zk) ?_
   have hB47 := hB44.below hq45
   refine WL.step (post := fun _ w' => Upd g9 w46 w' ∧ Blk w' g9 50 #[.int .i64 ((ltr t [])), .int .i64 ((ltr t [0])), .int .i64 0, .int .i64 0, .int .i64 0, .int .i64 0, .int .i64 0, .int .i64 0]) rfl rfl rfl (fun za zC zh zk => st_3 rfl (zh.ev rfl) (zh.ev rfl) hB47 (by first | decide | simp) (fun v => zk v _ ⟨Upd.at_ _ _ _ _, hB47.set_ 1 _⟩)) ?_
   rintro v51 w48 ⟨hu49, hB50⟩
   have hb52 : Below w.heap.size w w46 := (bstep hb26 hq45)
   have hb53 := upd_below hb52 hu49 (by omega)
   have hB54 := hB27.below hq45
   have hB55 := upd_blk hB54 hu49 (by omega)
   have ho56 := ho29.below hq45
   have ho57 := ho56.upd hu49 (by omega)
   refine WL.nil (WE.blockNormal (WE.next (WC.region ?_)))
   refine WL.val (.int .i64 2) rfl rfl rfl (fun za zC zh zk => addb_3 rfl (zh.ev rfl) (zh.ev rfl) (wrap_eq (by omega) (by omega) (by omega)) zk) ?_
   refine WL.mv rfl rfl rfl rfl rfl (WL.nil ?_)
   refine WE.round 2 ⟨rfl, rfl, rfl, rfl, rfl, trivial⟩ ?_ ?_
   ·exact ⟨(by omega), hb53, hB55, hB50, ho57⟩
   ·omega
  ·have hB58 : Blk w22 g9 50 #[.int .i64 ((ltr t [])), .int .i64 ((ltr t [0])), .int .i64 0, .int .i64 0, .int .i64 0, .int .i64 0, .int .i64 0, .int .i64 0] := hB28
   refine WC.seq (WC.region ?_)
   refine WL.val (.bool true) rfl rfl rfl (fun za zC zh zk => lss_3 rfl (zh.ev rfl) (zh.ev rfl) zk) ?_
   refine WL.nil (WE.next (WC.seq ?_))
   refine WC.condT rfl rfl ?_
   refine WC.skip (WE.next (WC.seq (WC.block (WC.seq (WC.region (WL.mv rfl rfl rfl rfl rfl ?_))))))
   refine WL.val (.slice ((A 2)) 1 ((C 2))) rfl rfl rfl (fun za zC zh zk => axc_72_2 rfl (zh.ev rfl) (zh.ev rfl) zk) ?_
   refine WL.asg rfl rfl rfl rfl rfl (WL.asg rfl rfl rfl rfl rfl (WL.nil (WE.next (WC.region (WL.mv rfl rfl rfl rfl rfl ?_)))))
   refine WL.val _ rfl rfl rfl (fun za zC zh zk => ld_24 rfl (zh.ev rfl) ((hB27.cell 0).trans rfl) ((hB27.cell 1).trans rfl) zk) ?_
   refine WL.mv rfl rfl rfl rfl rfl ?_
   refine WL.call rfl rfl rfl (fun za zh zC => wp_call (by kernel_rfl) rfl (hv2 (zh.ev rfl) (zh.ev rfl))) (letter_any [1] t _ _ _ _ _ (by decide) (IsT.below hb26 hvt) ((PlIs.row ho29) 2 (by decide))) ?_
   rintro _ w60 ⟨rfl, hq59⟩
   refine WL.val _ rfl rfl rfl (fun za zC zh zk => ixa_50 (k := 2) rfl (zh.ev rfl) (zh.ev rfl) (by decide) zk) ?_
   have hB61 := hB58.below hq59
   refine WL.step (post := fun _ w' => Upd g9 w60 w' ∧ Blk w' g9 50 #[.int .i64 ((ltr t [])), .int .i64 ((ltr t [0])), .int .i64 ((ltr t [1])), .int .i64 0, .int .i64 0, .int .i64 0, .int .i64 0, .int .i64 0]) rfl rfl rfl (fun za zC zh zk => st_3 rfl (zh.ev rfl) (zh.ev rfl) hB61 (by first | decide | simp) (fun v => zk v _ ⟨Upd.at_ _ _ _ _, hB61.set_ 2 _⟩)) ?_
   rintro v65 w62 ⟨hu63, hB64⟩
   have hb66 : Below w.heap.size w w60 := (bstep hb26 hq59)
   have hb67 := upd_below hb66 hu63 (by omega)
   have hB68 := hB27.below hq59
   have hB69 := upd_blk hB68 hu63 (by omega)
   have ho70 := ho29.below hq59
   have ho71 := ho70.upd hu63 (by omega)
   refine WL.nil (WE.blockNormal (WE.next (WC.region ?_)))
   refine WL.val (.int .i64 3) rfl rfl rfl (fun za zC zh zk => addb_3 rfl (zh.ev rfl) (zh.ev rfl) (wrap_eq (by omega) (by omega) (by omega)) zk) ?_
   refine WL.mv rfl rfl rfl rfl rfl (WL.nil ?_)
   refine WE.round 3 ⟨rfl, rfl, rfl, rfl, rfl, trivial⟩ ?_ ?_
   ·exact ⟨(by omega), hb67, hB69, hB64, ho71⟩
   ·omega
  ·have hB72 : Blk w22 g9 50 #[.int .i64 ((ltr t [])), .int .i64 ((ltr t [0])), .int .i64 ((ltr t [1])), .int .i64 0, .int .i64 0, .int .i64 0, .int .i64 0, .int .i64 0] := hB28
   refine WC.seq (WC.region ?_)
   refine WL.val (.bool true) rfl rfl rfl (fun za zC zh zk => lss_3 rfl (zh.ev rfl) (zh.ev rfl) zk) ?_
   refine WL.nil (WE.next (WC.seq ?_))
   refine WC.condT rfl rfl ?_
   refine WC.skip (WE.next (WC.seq (WC.block (WC.seq (WC.region (WL.mv rfl rfl rfl rfl rfl ?_))))))
   refine WL.val (.slice ((A 3)) 1 ((C 3))) rfl rfl rfl (fun za zC zh zk => axc_72_3 rfl (zh.ev rfl) (zh.ev rfl) zk) ?_
   refine WL.asg rfl rfl rfl rfl rfl (WL.asg rfl rfl rfl rfl rfl (WL.nil (WE.next (WC.region (WL.mv rfl rfl rfl rfl rfl ?_)))))
   refine WL.val _ rfl rfl rfl (fun za zC zh zk => ld_24 rfl (zh.ev rfl) ((hB27.cell 0).trans rfl) ((hB27.cell 1).trans rfl) zk) ?_
   refine WL.mv rfl rfl rfl rfl rfl ?_
   refine WL.call rfl rfl rfl (fun za zh zC => wp_call (by kernel_rfl) rfl (hv2 (zh.ev rfl) (zh.ev rfl))) (letter_any [2] t _ _ _ _ _ (by decide) (IsT.below hb26 hvt) ((PlIs.row ho29) 3 (by decide))) ?_
   rintro _ w74 ⟨rfl, hq73⟩
   refine WL.val _ rfl rfl rfl (fun za zC zh zk => ixa_50 (k := 3) rfl (zh.ev rfl) (zh.ev rfl) (by decide) zk) ?_
   have hB75 := hB72.below hq73
   refine WL.step (post := fun _ w' => Upd g9 w74 w' ∧ Blk w' g9 50 #[.int .i64 ((ltr t [])), .int .i64 ((ltr t [0])), .int .i64 ((ltr t [1])), .int .i64 ((ltr t [2])), .int .i64 0, .int .i64 0, .int .i64 0, .int .i64 0]) rfl rfl rfl (fun za zC zh zk => st_3 rfl (zh.ev rfl) (zh.ev rfl) hB75 (by first | decide | simp) (fun v => zk v _ ⟨Upd.at_ _ _ _ _, hB75.set_ 3 _⟩)) ?_
   rintro v79 w76 ⟨hu77, hB78⟩
   have hb80 : Below w.heap.size w w74 := (bstep hb26 hq73)
   have hb81 := upd_below hb80 hu77 (by omega)
   have hB82 := hB27.below hq73
   have hB83 := upd_blk hB82 hu77 (by omega)
   have ho84 := ho29.below hq73
   have ho85 := ho84.upd hu77 (by omega)
   refine WL.nil (WE.blockNormal (WE.next (WC.region ?_)))
   refine WL.val (.int .i64 4) rfl rfl rfl (fun za zC zh zk => addb_3 rfl (zh.ev rfl) (zh.ev rfl) (wrap_eq (by omega) (by omega) (by omega)) zk) ?_
   refine WL.mv rfl rfl rfl rfl rfl (WL.nil ?_)
   refine WE.round 4 ⟨rfl, rfl, rfl, rfl, rfl, trivial⟩ ?_ ?_
   ·exact ⟨(by omega), hb81, hB83, hB78, ho85⟩
   ·omega
  ·have hB86 : Blk w22 g9 50 #[.int .i64 ((ltr t [])), .int .i64 ((ltr t [0])), .int .i64 ((ltr t [1])), .int .i64 ((ltr t [2])), .int .i64 0, .int .i64 0, .int .i64 0, .int .i64 0] := hB28
   refine WC.seq (WC.region ?_)
   refine WL.val (.bool true) rfl rfl rfl (fun za zC zh zk => lss_3 rfl (zh.ev rfl) (zh.ev rfl) zk) ?_
   refine WL.nil (WE.next (WC.seq ?_))
   refine WC.condT rfl rfl ?_
   refine WC.skip (WE.next (WC.seq (WC.block (WC.seq (WC.region (WL.mv rfl rfl rfl rfl rfl ?_))))))
   refine WL.val (.slice ((A 4)) 2 ((C 4))) rfl rfl rfl (fun za zC zh zk => axc_72_4 rfl (zh.ev rfl) (zh.ev rfl) zk) ?_
   refine WL.asg rfl rfl rfl rfl rfl (WL.asg rfl rfl rfl rfl rfl (WL.nil (WE.next (WC.region (WL.mv rfl rfl rfl rfl rfl ?_)))))
   refine WL.val _ rfl rfl rfl (fun za zC zh zk => ld_24 rfl (zh.ev rfl) ((hB27.cell 0).trans rfl) ((hB27.cell 1).trans rfl) zk) ?_
   refine WL.mv rfl rfl rfl rfl rfl ?_
   refine WL.call rfl rfl rfl (fun za zh zC => wp_call (by kernel_rfl) rfl (hv2 (zh.ev rfl) (zh.ev rfl))) (letter_any [0, 0] t _ _ _ _ _ (by decide) (IsT.below hb26 hvt) ((PlIs.row ho29) 4 (by decide))) ?_
   rintro _ w88 ⟨rfl, hq87⟩
   refine WL.val _ rfl rfl rfl (fun za zC zh zk => ixa_50 (k := 4) rfl (zh.ev rfl) (zh.ev rfl) (by decide) zk) ?_
   have hB89 := hB86.below hq87
   refine WL.step (post := fun _ w' => Upd g9 w88 w' ∧ Blk w' g9 50 #[.int .i64 ((ltr t [])), .int .i64 ((ltr t [0])), .int .i64 ((ltr t [1])), .int .i64 ((ltr t [2])), .int .i64 ((ltr t [0, 0])), .int .i64 0, .int .i64 0, .int .i64 0]) rfl rfl rfl (fun za zC zh zk => st_3 rfl (zh.ev rfl) (zh.ev rfl) hB89 (by first | decide | simp) (fun v => zk v _ ⟨Upd.at_ _ _ _ _, hB89.set_ 4 _⟩)) ?_
   rintro v93 w90 ⟨hu91, hB92⟩
   have hb94 : Below w.heap.size w w88 := (bstep hb26 hq87)
   have hb95 := upd_below hb94 hu91 (by omega)
   have hB96 := hB27.below hq87
   have hB97 := upd_blk hB96 hu91 (by omega)
   have ho98 := ho29.below hq87
   have ho99 := ho98.upd hu91 (by omega)
   refine WL.nil (WE.blockNormal (WE.next (WC.region ?_)))
   refine WL.val (.int .i64 5) rfl rfl rfl (fun za zC zh zk => addb_3 rfl (zh.ev rfl) (zh.ev rfl) (wrap_eq (by omega) (by omega) (by omega)) zk) ?_
   refine WL.mv rfl rfl rfl rfl rfl (WL.nil ?_)
   refine WE.round 5 ⟨rfl, rfl, rfl, rfl, rfl, trivial⟩ ?_ ?_
   ·exact ⟨(by omega), hb95, hB97, hB92, ho99⟩
   ·omega
  ·have hB100 : Blk w22 g9 50 #[.int .i64 ((ltr t [])), .int .i64 ((ltr t [0])), .int .i64 ((ltr t [1])), .int .i64 ((ltr t [2])), .int .i64 ((ltr t [0, 0])), .int .i64 0, .int .i64 0, .int .i64 0] := hB28
   refine WC.seq (WC.region ?_)
   refine WL.val (.bool true) rfl rfl rfl (fun za zC zh zk => lss_3 rfl (zh.ev rfl) (zh.ev rfl) zk) ?_
   refine WL.nil (WE.next (WC.seq ?_))
   refine WC.condT rfl rfl ?_
   refine WC.skip (WE.next (WC.seq (WC.block (WC.seq (WC.region (WL.mv rfl rfl rfl rfl rfl ?_))))))
   refine WL.val (.slice ((A 5)) 2 ((C 5))) rfl rfl rfl (fun za zC zh zk => axc_72_5 rfl (zh.ev rfl) (zh.ev rfl) zk) ?_
   refine WL.asg rfl rfl rfl rfl rfl (WL.asg rfl rfl rfl rfl rfl (WL.nil (WE.next (WC.region (WL.mv rfl rfl rfl rfl rfl ?_)))))
   refine WL.val _ rfl rfl rfl (fun za zC zh zk => ld_24 rfl (zh.ev rfl) ((hB27.cell 0).trans rfl) ((hB27.cell 1).trans rfl) zk) ?_
   refine WL.mv rfl rfl rfl rfl rfl ?_
   refine WL.call rfl rfl rfl (fun za zh zC => wp_call (by kernel_rfl) rfl (hv2 (zh.ev rfl) (zh.ev rfl))) (letter_any [0, 1] t _ _ _ _ _ (by decide) (IsT.below hb26 hvt) ((PlIs.row ho29) 5 (by decide))) ?_
   rintro _ w102 ⟨rfl, hq101⟩
   refine WL.val _ rfl rfl rfl (fun za zC zh zk => ixa_50 (k := 5) rfl (zh.ev rfl) (zh.ev rfl) (by decide) zk) ?_
   have hB103 := hB100.below hq101
   refine WL.step (post := fun _ w' => Upd g9 w102 w' ∧ Blk w' g9 50 #[.int .i64 ((ltr t [])), .int .i64 ((ltr t [0])), .int .i64 ((ltr t [1])), .int .i64 ((ltr t [2])), .int .i64 ((ltr t [0, 0])), .int .i64 ((ltr t [0, 1])), .int .i64 0, .int .i64 0]) rfl rfl rfl (fun za zC zh zk => st_3 rfl (zh.ev rfl) (zh.ev rfl) hB103 (by first | decide | simp) (fun v => zk v _ ⟨Upd.at_ _ _ _ _, hB103.set_ 5 _⟩)) ?_
   rintro v107 w104 ⟨hu105, hB106⟩
   have hb108 : Below w.heap.size w w102 := (bstep hb26 hq101)
   have hb109 := upd_below hb108 hu105 (by omega)
   have hB110 := hB27.below hq101
   have hB111 := upd_blk hB110 hu105 (by omega)
   have ho112 := ho29.below hq101
   have ho113 := ho112.upd hu105 (by omega)
   refine WL.nil (WE.blockNormal (WE.next (WC.region ?_)))
   refine WL.val (.int .i64 6) rfl rfl rfl (fun za zC zh zk => addb_3 rfl (zh.ev rfl) (zh.ev rfl) (wrap_eq (by omega) (by omega) (by omega)) zk) ?_
   refine WL.mv rfl rfl rfl rfl rfl (WL.nil ?_)
   refine WE.round 6 ⟨rfl, rfl, rfl, rfl, rfl, trivial⟩ ?_ ?_
   ·exact ⟨(by omega), hb109, hB111, hB106, ho113⟩
   ·omega
  ·have hB114 : Blk w22 g9 50 #[.int .i64 ((ltr t [])), .int .i64 ((ltr t [0])), .int .i64 ((ltr t [1])), .int .i64 ((ltr t [2])), .int .i64 ((ltr t [0, 0])), .int .i64 ((ltr t [0, 1])), .int .i64 0, .int .i64 0] := hB28
   refine WC.seq (WC.region ?_)
   refine WL.val (.bool true) rfl rfl rfl (fun za zC zh zk => lss_3 rfl (zh.ev rfl) (zh.ev rfl) zk) ?_
   refine WL.nil (WE.next (WC.seq ?_))
   refine WC.condT rfl rfl ?_
   refine WC.skip (WE.next (WC.seq (WC.block (WC.seq (WC.region (WL.mv rfl rfl rfl rfl rfl ?_))))))
   refine WL.val (.slice ((A 6)) 2 ((C 6))) rfl rfl rfl (fun za zC zh zk => axc_72_6 rfl (zh.ev rfl) (zh.ev rfl) zk) ?_
   refine WL.asg rfl rfl rfl rfl rfl (WL.asg rfl rfl rfl rfl rfl (WL.nil (WE.next (WC.region (WL.mv rfl rfl rfl rfl rfl ?_)))))
   refine WL.val _ rfl rfl rfl (fun za zC zh zk => ld_24 rfl (zh.ev rfl) ((hB27.cell 0).trans rfl) ((hB27.cell 1).trans rfl) zk) ?_
   refine WL.mv rfl rfl rfl rfl rfl ?_
   refine WL.call rfl rfl rfl (fun za zh zC => wp_call (by kernel_rfl) rfl (hv2 (zh.ev rfl) (zh.ev rfl))) (letter_any [1, 0] t _ _ _ _ _ (by decide) (IsT.below hb26 hvt) ((PlIs.row ho29) 6 (by decide))) ?_
   rintro _ w116 ⟨rfl, hq115⟩
   refine WL.val _ rfl rfl rfl (fun za zC zh zk => ixa_50 (k := 6) rfl (zh.ev rfl) (zh.ev rfl) (by decide) zk) ?_
   have hB117 := hB114.below hq115
   refine WL.step (post := fun _ w' => Upd g9 w116 w' ∧ Blk w' g9 50 #[.int .i64 ((ltr t [])), .int .i64 ((ltr t [0])), .int .i64 ((ltr t [1])), .int .i64 ((ltr t [2])), .int .i64 ((ltr t [0, 0])), .int .i64 ((ltr t [0, 1])), .int .i64 ((ltr t [1, 0])), .int .i64 0]) rfl rfl rfl (fun za zC zh zk => st_3 rfl (zh.ev rfl) (zh.ev rfl) hB117 (by first | decide | simp) (fun v => zk v _ ⟨Upd.at_ _ _ _ _, hB117.set_ 6 _⟩)) ?_
   rintro v121 w118 ⟨hu119, hB120⟩
   have hb122 : Below w.heap.size w w116 := (bstep hb26 hq115)
   have hb123 := upd_below hb122 hu119 (by omega)
   have hB124 := hB27.below hq115
   have hB125 := upd_blk hB124 hu119 (by omega)
   have ho126 := ho29.below hq115
   have ho127 := ho126.upd hu119 (by omega)
   refine WL.nil (WE.blockNormal (WE.next (WC.region ?_)))
   refine WL.val (.int .i64 7) rfl rfl rfl (fun za zC zh zk => addb_3 rfl (zh.ev rfl) (zh.ev rfl) (wrap_eq (by omega) (by omega) (by omega)) zk) ?_
   refine WL.mv rfl rfl rfl rfl rfl (WL.nil ?_)
   refine WE.round 7 ⟨rfl, rfl, rfl, rfl, rfl, trivial⟩ ?_ ?_
   ·exact ⟨(by omega), hb123, hB125, hB120, ho127⟩
   ·omega
  ·have hB128 : Blk w22 g9 50 #[.int .i64 ((ltr t [])), .int .i64 ((ltr t [0])), .int .i64 ((ltr t [1])), .int .i64 ((ltr t [2])), .int .i64 ((ltr t [0, 0])), .int .i64 ((ltr t [0, 1])), .int .i64 ((ltr t [1, 0])), .int .i64 0] := hB28
   refine WC.seq (WC.region ?_)
   refine WL.val (.bool true) rfl rfl rfl (fun za zC zh zk => lss_3 rfl (zh.ev rfl) (zh.ev rfl) zk) ?_
   refine WL.nil (WE.next (WC.seq ?_))
   refine WC.condT rfl rfl ?_
   refine WC.skip (WE.next (WC.seq (WC.block (WC.seq (WC.region (WL.mv rfl rfl rfl rfl rfl ?_))))))
   refine WL.val (.slice ((A 7)) 2 ((C 7))) rfl rfl rfl (fun za zC zh zk => axc_72_7 rfl (zh.ev rfl) (zh.ev rfl) zk) ?_
   refine WL.asg rfl rfl rfl rfl rfl (WL.asg rfl rfl rfl rfl rfl (WL.nil (WE.next (WC.region (WL.mv rfl rfl rfl rfl rfl ?_)))))
   refine WL.val _ rfl rfl rfl (fun za zC zh zk => ld_24 rfl (zh.ev rfl) ((hB27.cell 0).trans rfl) ((hB27.cell 1).trans rfl) zk) ?_
   refine WL.mv rfl rfl rfl rfl rfl ?_
   refine WL.call rfl rfl rfl (fun za zh zC => wp_call (by kernel_rfl) rfl (hv2 (zh.ev rfl) (zh.ev rfl))) (letter_any [1, 1] t _ _ _ _ _ (by decide) (IsT.below hb26 hvt) ((PlIs.row ho29) 7 (by decide))) ?_
   rintro _ w130 ⟨rfl, hq129⟩
   refine WL.val _ rfl rfl rfl (fun za zC zh zk => ixa_50 (k := 7) rfl (zh.ev rfl) (zh.ev rfl) (by decide) zk) ?_
   have hB131 := hB128.below hq129
   refine WL.step (post := fun _ w' => Upd g9 w130 w' ∧ Blk w' g9 50 #[.int .i64 ((ltr t [])), .int .i64 ((ltr t [0])), .int .i64 ((ltr t [1])), .int .i64 ((ltr t [2])), .int .i64 ((ltr t [0, 0])), .int .i64 ((ltr t [0, 1])), .int .i64 ((ltr t [1, 0])), .int .i64 ((ltr t [1, 1]))]) rfl rfl rfl (fun za zC zh zk => st_3 rfl (zh.ev rfl) (zh.ev rfl) hB131 (by first | decide | simp) (fun v => zk v _ ⟨Upd.at_ _ _ _ _, hB131.set_ 7 _⟩)) ?_
   rintro v135 w132 ⟨hu133, hB134⟩
   have hb136 : Below w.heap.size w w130 := (bstep hb26 hq129)
   have hb137 := upd_below hb136 hu133 (by omega)
   have hB138 := hB27.below hq129
   have hB139 := upd_blk hB138 hu133 (by omega)
   have ho140 := ho29.below hq129
   have ho141 := ho140.upd hu133 (by omega)
   refine WL.nil (WE.blockNormal (WE.next (WC.region ?_)))
   refine WL.val (.int .i64 8) rfl rfl rfl (fun za zC zh zk => addb_3 rfl (zh.ev rfl) (zh.ev rfl) (wrap_eq (by omega) (by omega) (by omega)) zk) ?_
   refine WL.mv rfl rfl rfl rfl rfl (WL.nil ?_)
   refine WE.round 8 ⟨rfl, rfl, rfl, rfl, rfl, trivial⟩ ?_ ?_
   ·exact ⟨(by omega), hb137, hB139, hB134, ho141⟩
   ·omega
  ·have hB142 : Blk w22 g9 50 #[.int .i64 ((ltr t [])), .int .i64 ((ltr t [0])), .int .i64 ((ltr t [1])), .int .i64 ((ltr t [2])), .int .i64 ((ltr t [0, 0])), .int .i64 ((ltr t [0, 1])), .int .i64 ((ltr t [1, 0])), .int .i64 ((ltr t [1, 1]))] := hB28
   refine WC.seq (WC.region ?_)
   refine WL.val (.bool false) rfl rfl rfl (fun za zC zh zk => lss_3 rfl (zh.ev rfl) (zh.ev rfl) zk) ?_
   refine WL.nil (WE.next (WC.seq ?_))
   refine WC.condF rfl rfl ?_
   refine WC.exit (WE.thenExit (WE.thenExit (WE.blockIs rfl (WE.next (WC.seq (WC.region ?_))))))
   refine WL.val _ rfl rfl rfl (fun za zC zh zk => ld_50 rfl (zh.ev rfl) ((hB142.cell 0).trans rfl) ((hB142.cell 1).trans rfl) ((hB142.cell 2).trans rfl) ((hB142.cell 3).trans rfl) ((hB142.cell 4).trans rfl) ((hB142.cell 5).trans rfl) ((hB142.cell 6).trans rfl) ((hB142.cell 7).trans rfl) zk) ?_
   refine WL.step (post := fun _ w' => Upd g9 w22 w' ∧ Blk w' g9 50 #[.int .i64 ((ltr t [])), .int .i64 ((ltr t [0])), .int .i64 ((ltr t [1])), .int .i64 ((ltr t [2])), .int .i64 ((ltr t [0, 0])), .int .i64 ((ltr t [0, 1])), .int .i64 ((ltr t [1, 0])), .int .i64 ((ltr t [1, 1]))]) rfl rfl rfl (fun za zC zh zk => st_50 rfl (zh.ev rfl) (zh.ev rfl) rfl rfl rfl rfl rfl rfl rfl rfl hB142 (by first | decide | simp) (fun v => by have zb0 : Blk _ g9 50 #[.int .i64 ((ltr t [])), .int .i64 ((ltr t [0])), .int .i64 ((ltr t [1])), .int .i64 ((ltr t [2])), .int .i64 ((ltr t [0, 0])), .int .i64 ((ltr t [0, 1])), .int .i64 ((ltr t [1, 0])), .int .i64 ((ltr t [1, 1]))] := hB142.set_ 0 _; have zb1 : Blk _ g9 50 #[.int .i64 ((ltr t [])), .int .i64 ((ltr t [0])), .int .i64 ((ltr t [1])), .int .i64 ((ltr t [2])), .int .i64 ((ltr t [0, 0])), .int .i64 ((ltr t [0, 1])), .int .i64 ((ltr t [1, 0])), .int .i64 ((ltr t [1, 1]))] := zb0.set_ 1 _; have zb2 : Blk _ g9 50 #[.int .i64 ((ltr t [])), .int .i64 ((ltr t [0])), .int .i64 ((ltr t [1])), .int .i64 ((ltr t [2])), .int .i64 ((ltr t [0, 0])), .int .i64 ((ltr t [0, 1])), .int .i64 ((ltr t [1, 0])), .int .i64 ((ltr t [1, 1]))] := zb1.set_ 2 _; have zb3 : Blk _ g9 50 #[.int .i64 ((ltr t [])), .int .i64 ((ltr t [0])), .int .i64 ((ltr t [1])), .int .i64 ((ltr t [2])), .int .i64 ((ltr t [0, 0])), .int .i64 ((ltr t [0, 1])), .int .i64 ((ltr t [1, 0])), .int .i64 ((ltr t [1, 1]))] := zb2.set_ 3 _; have zb4 : Blk _ g9 50 #[.int .i64 ((ltr t [])), .int .i64 ((ltr t [0])), .int .i64 ((ltr t [1])), .int .i64 ((ltr t [2])), .int .i64 ((ltr t [0, 0])), .int .i64 ((ltr t [0, 1])), .int .i64 ((ltr t [1, 0])), .int .i64 ((ltr t [1, 1]))] := zb3.set_ 4 _; have zb5 : Blk _ g9 50 #[.int .i64 ((ltr t [])), .int .i64 ((ltr t [0])), .int .i64 ((ltr t [1])), .int .i64 ((ltr t [2])), .int .i64 ((ltr t [0, 0])), .int .i64 ((ltr t [0, 1])), .int .i64 ((ltr t [1, 0])), .int .i64 ((ltr t [1, 1]))] := zb4.set_ 5 _; have zb6 : Blk _ g9 50 #[.int .i64 ((ltr t [])), .int .i64 ((ltr t [0])), .int .i64 ((ltr t [1])), .int .i64 ((ltr t [2])), .int .i64 ((ltr t [0, 0])), .int .i64 ((ltr t [0, 1])), .int .i64 ((ltr t [1, 0])), .int .i64 ((ltr t [1, 1]))] := zb5.set_ 6 _; have zb7 : Blk _ g9 50 #[.int .i64 ((ltr t [])), .int .i64 ((ltr t [0])), .int .i64 ((ltr t [1])), .int .i64 ((ltr t [2])), .int .i64 ((ltr t [0, 0])), .int .i64 ((ltr t [0, 1])), .int .i64 ((ltr t [1, 0])), .int .i64 ((ltr t [1, 1]))] := zb6.set_ 7 _; exact zk v _ ⟨(((((((Upd.at_ _ _ _ _).trans (Upd.at_ _ _ _ _)).trans (Upd.at_ _ _ _ _)).trans (Upd.at_ _ _ _ _)).trans (Upd.at_ _ _ _ _)).trans (Upd.at_ _ _ _ _)).trans (Upd.at_ _ _ _ _)).trans (Upd.at_ _ _ _ _), zb7⟩)) ?_
   rintro v146 w143 ⟨hu144, hB145⟩
   have hb147 := upd_below hb26 hu144 (by omega)
   have hB148 := upd_blk hB27 hu144 (by omega)
   have ho149 := ho29.upd hu144 (by omega)
   refine WL.nil (WE.next (WC.ret ?_))
   refine WE.retAny (v := .agg #[.int .i64 ((ltr t [])), .int .i64 ((ltr t [0])), .int .i64 ((ltr t [1])), .int .i64 ((ltr t [2])), .int .i64 ((ltr t [0, 0])), .int .i64 ((ltr t [0, 1])), .int .i64 ((ltr t [1, 0])), .int .i64 ((ltr t [1, 1]))]) (fun za zh => ?_) ?_
   ·have z0 : za.tmps[2]?.getD undef = .pointer (some ⟨g9, 0, none⟩) := by rw [← Array.getD_eq_getD_getElem?]; exact zh.knows 2 _ rfl
    have y0 : w143.cell? ⟨g9, 0, none⟩ = some (.int .i64 ((ltr t []))) := ((hB145.cell 0).trans rfl)
    have y1 : w143.cell? ⟨g9, 1, none⟩ = some (.int .i64 ((ltr t [0]))) := ((hB145.cell 1).trans rfl)
    have y2 : w143.cell? ⟨g9, 2, none⟩ = some (.int .i64 ((ltr t [1]))) := ((hB145.cell 2).trans rfl)
    have y3 : w143.cell? ⟨g9, 3, none⟩ = some (.int .i64 ((ltr t [2]))) := ((hB145.cell 3).trans rfl)
    have y4 : w143.cell? ⟨g9, 4, none⟩ = some (.int .i64 ((ltr t [0, 0]))) := ((hB145.cell 4).trans rfl)
    have y5 : w143.cell? ⟨g9, 5, none⟩ = some (.int .i64 ((ltr t [0, 1]))) := ((hB145.cell 5).trans rfl)
    have y6 : w143.cell? ⟨g9, 6, none⟩ = some (.int .i64 ((ltr t [1, 0]))) := ((hB145.cell 6).trans rfl)
    have y7 : w143.cell? ⟨g9, 7, none⟩ = some (.int .i64 ((ltr t [1, 1]))) := ((hB145.cell 7).trans rfl)
    simp [results, Try.results25, z0, y0, y1, y2, y3, y4, y5, y6, y7, go_sem]
   ·exact ⟨_, rfl, rfl, hb147⟩
set_option maxRecDepth 100000 in
theorem fU_any (x y : Int) (w : World) : Calls Try.prog 28 #[.int .i64 x, .int .i64 y] w (Ret fun v' w' => v' = .bool (ltU x y) ∧ Below w.heap.size w w') := by
 skip
 refine Calls.walk (l := [.int .i64 x, .int .i64 y]) Try.func28 rfl (by kernel_rfl) ?_
 refine WC.sub (K' := [(0, .int .i64 x), (1, .int .i64 y)]) ⟨rfl, rfl, trivial⟩ ?_
 refine WC.seq (WC.region (WL.asg rfl rfl rfl rfl rfl (WL.nil (WE.next (WC.seq (WC.block (WC.seq ?_)))))))
 refine WC.opt [(true, .val (.int .i64 x)), (true, .val (.bool (((x : Int) == ((-2) : Int))))), (true, .val (.bool (((x : Int) == ((-2) : Int))))), ((true && !((x : Int) == ((-2) : Int))), .val (.int .i64 y)), ((true && !((x : Int) == ((-2) : Int))), .val (.bool (((y : Int) == ((-2) : Int))))), (true, .val (.bool ((((x : Int) == ((-2) : Int)) || ((y : Int) == ((-2) : Int)))))), (true, .val (.bool ((((x : Int) == ((-2) : Int)) || ((y : Int) == ((-2) : Int))))))] [(0, .int .i64 x), (1, .int .i64 y), (4, .bool false)] ⟨rfl, rfl, rfl, trivial⟩ (by kernel_rfl) (by kernel_rfl) (by kernel_rfl) ?_ ?_
 ·refine ⟨⟨true, .none rfl, fun h w => optUndef h, fun zβ za zw zc => ?_⟩, ?_⟩
  ·exact wp_move rfl (zc.kn.ev rfl) ⟨_, rfl, Below.refl _ _, optDef zβ rfl⟩
  refine ⟨⟨true, .none rfl, fun h w => optUndef h, fun zβ za zw zc => ?_⟩, ?_⟩
  ·exact eql_3 rfl ((evt za 6).trans (optVal (zc.dep 0 6 (by kernel_rfl)) rfl rfl)) (zc.kn.ev rfl) ⟨_, rfl, Below.refl _ _, optDef zβ rfl⟩
  refine ⟨⟨true, .none rfl, fun h w => optUndef h, fun zβ za zw zc => ?_⟩, ?_⟩
  ·exact wp_move rfl ((evt za 7).trans (optVal (zc.dep 1 7 (by kernel_rfl)) rfl rfl)) ⟨_, rfl, Below.refl _ _, optDef zβ rfl⟩
  refine ⟨⟨_, .no (d := true) rfl (fun v w h => h), fun h w => optUndef h, fun zβ za zw zc => ?_⟩, ?_⟩
  ·exact wp_move rfl (zc.kn.ev rfl) ⟨_, rfl, Below.refl _ _, optDef zβ rfl⟩
  refine ⟨⟨_, .no (d := true) rfl (fun v w h => h), fun h w => optUndef h, fun zβ za zw zc => ?_⟩, ?_⟩
  ·exact eql_3 rfl ((evt za 9).trans (optVal (zc.dep 3 9 (by kernel_rfl)) rfl zβ)) (zc.kn.ev rfl) ⟨_, rfl, Below.refl _ _, optDef zβ rfl⟩
  refine ⟨⟨true, .none rfl, fun h w => optUndef h, fun zβ za zw zc => ?_⟩, ?_⟩
  ·exact wp_or rfl ((evt za 8).trans (optVal (zc.dep 2 8 (by kernel_rfl)) rfl rfl)) (fun hp => ((evt za 10).trans (optVal (zc.dep 4 10 (by kernel_rfl)) rfl (bMkN zβ hp)))) ⟨_, rfl, Below.refl _ _, optDef zβ rfl⟩
  refine ⟨⟨true, .none rfl, fun h w => optUndef h, fun zβ za zw zc => ?_⟩, ?_⟩
  ·exact wp_assign rfl ((evt za 11).trans (optVal (zc.dep 5 11 (by kernel_rfl)) rfl rfl)) ⟨_, rfl, Below.refl _ _, optDef zβ rfl⟩
  exact trivial
 ·intro za w1 zh hb2 zu
  have zh := zh.cons (d := 5) (v := .bool ((((x : Int) == ((-2) : Int)) || ((y : Int) == ((-2) : Int))))) (optVal (zu 6 5 (by kernel_rfl)) rfl rfl)
  clear zu
  refine WE.go zh ?_
  refine WE.next ?_
  refine WC.cond rfl (fun h3 => ?_) (fun h3 => ?_)
  ·have h3 : ((x : Int) = ((-2) : Int)) ∨ ((y : Int) = ((-2) : Int)) := by simpa using h3
   refine WC.seq (WC.region (WL.asg rfl rfl rfl rfl rfl (WL.nil (WE.next (WC.ret (WE.blockRet (WE.thenRet (WE.ret1 rfl rfl ?_))))))))
   refine ⟨_, rfl, congrArg Value.bool ?_, hb2⟩
   unfold ltU
   rw [Bool.eq_iff_iff]
   by_cases q1 : x = -2 <;> by_cases q2 : y = -2 <;> by_cases q3 : x = -3 <;> by_cases q4 : y = -3 <;> by_cases q5 : x = -1 <;> by_cases q6 : y = -1 <;> simp_all <;> omega
  ·have h3 : ¬ (((x : Int) = ((-2) : Int)) ∨ ((y : Int) = ((-2) : Int))) := by simpa using h3
   refine WC.seq ?_
   refine WC.opt [(true, .val (.int .i64 x)), (true, .val (.bool (((x : Int) == ((-3) : Int))))), (true, .val (.bool (((x : Int) == ((-3) : Int))))), ((true && !((x : Int) == ((-3) : Int))), .val (.int .i64 y)), ((true && !((x : Int) == ((-3) : Int))), .val (.bool (((y : Int) == ((-3) : Int))))), (true, .val (.bool ((((x : Int) == ((-3) : Int)) || ((y : Int) == ((-3) : Int)))))), (true, .val (.bool ((((x : Int) == ((-3) : Int)) || ((y : Int) == ((-3) : Int))))))] [(0, .int .i64 x), (1, .int .i64 y), (4, .bool false), (5, .bool ((((x : Int) == ((-2) : Int)) || ((y : Int) == ((-2) : Int)))))] ⟨rfl, rfl, rfl, rfl, trivial⟩ (by kernel_rfl) (by kernel_rfl) (by kernel_rfl) ?_ ?_
   ·refine ⟨⟨true, .none rfl, fun h w => optUndef h, fun zβ za zw zc => ?_⟩, ?_⟩
    ·exact wp_move rfl (zc.kn.ev rfl) ⟨_, rfl, Below.refl _ _, optDef zβ rfl⟩
    refine ⟨⟨true, .none rfl, fun h w => optUndef h, fun zβ za zw zc => ?_⟩, ?_⟩
    ·exact eql_3 rfl ((evt za 13).trans (optVal (zc.dep 0 13 (by kernel_rfl)) rfl rfl)) (zc.kn.ev rfl) ⟨_, rfl, Below.refl _ _, optDef zβ rfl⟩
    refine ⟨⟨true, .none rfl, fun h w => optUndef h, fun zβ za zw zc => ?_⟩, ?_⟩
    ·exact wp_move rfl ((evt za 14).trans (optVal (zc.dep 1 14 (by kernel_rfl)) rfl rfl)) ⟨_, rfl, Below.refl _ _, optDef zβ rfl⟩
    refine ⟨⟨_, .no (d := true) rfl (fun v w h => h), fun h w => optUndef h, fun zβ za zw zc => ?_⟩, ?_⟩
    ·exact wp_move rfl (zc.kn.ev rfl) ⟨_, rfl, Below.refl _ _, optDef zβ rfl⟩
    refine ⟨⟨_, .no (d := true) rfl (fun v w h => h), fun h w => optUndef h, fun zβ za zw zc => ?_⟩, ?_⟩
    ·exact eql_3 rfl ((evt za 16).trans (optVal (zc.dep 3 16 (by kernel_rfl)) rfl zβ)) (zc.kn.ev rfl) ⟨_, rfl, Below.refl _ _, optDef zβ rfl⟩
    refine ⟨⟨true, .none rfl, fun h w => optUndef h, fun zβ za zw zc => ?_⟩, ?_⟩
    ·exact wp_or rfl ((evt za 15).trans (optVal (zc.dep 2 15 (by kernel_rfl)) rfl rfl)) (fun hp => ((evt za 17).trans (optVal (zc.dep 4 17 (by kernel_rfl)) rfl (bMkN zβ hp)))) ⟨_, rfl, Below.refl _ _, optDef zβ rfl⟩
    refine ⟨⟨true, .none rfl, fun h w => optUndef h, fun zβ za zw zc => ?_⟩, ?_⟩
    ·exact wp_assign rfl ((evt za 18).trans (optVal (zc.dep 5 18 (by kernel_rfl)) rfl rfl)) ⟨_, rfl, Below.refl _ _, optDef zβ rfl⟩
    exact trivial
   ·intro za w4 zh hb5 zu
    have zh := zh.cons (d := 12) (v := .bool ((((x : Int) == ((-3) : Int)) || ((y : Int) == ((-3) : Int))))) (optVal (zu 6 12 (by kernel_rfl)) rfl rfl)
    clear zu
    refine WE.go zh ?_
    refine WE.next ?_
    refine WC.cond rfl (fun h6 => ?_) (fun h6 => ?_)
    ·have h6 : ((x : Int) = ((-3) : Int)) ∨ ((y : Int) = ((-3) : Int)) := by simpa using h6
     refine WC.seq (WC.region (WL.mv rfl rfl rfl rfl rfl (WL.mv rfl rfl rfl rfl rfl ?_)))
     refine WL.val (.bool (((x : Int) == (y : Int)))) rfl rfl rfl (fun za zC zh zk => eql_3 rfl (zh.ev rfl) (zh.ev rfl) zk) ?_
     refine WL.asg rfl rfl rfl rfl rfl (WL.nil (WE.next (WC.ret (WE.blockRet (WE.thenRet (WE.ret1 rfl rfl ?_))))))
     have hb7 : Below w.heap.size w w4 := (bstep hb2 hb5)
     refine ⟨_, rfl, congrArg Value.bool ?_, hb7⟩
     unfold ltU
     rw [Bool.eq_iff_iff]
     by_cases q1 : x = -2 <;> by_cases q2 : y = -2 <;> by_cases q3 : x = -3 <;> by_cases q4 : y = -3 <;> by_cases q5 : x = -1 <;> by_cases q6 : y = -1 <;> simp_all <;> omega
    ·have h6 : ¬ (((x : Int) = ((-3) : Int)) ∨ ((y : Int) = ((-3) : Int))) := by simpa using h6
     refine WC.skip (WE.blockNormal (WE.next (WC.seq ?_)))
     refine WC.opt [(true, .val (.int .i64 x)), (true, .val (.int .i64 y)), (true, .val (.bool (((x : Int) == (y : Int))))), (true, .val (.bool (((x : Int) == (y : Int))))), ((true && !((x : Int) == (y : Int))), .val (.int .i64 x)), ((true && !((x : Int) == (y : Int))), .val (.bool (((x : Int) == ((-1) : Int))))), (true, .val (.bool ((((x : Int) == (y : Int)) || ((x : Int) == ((-1) : Int)))))), (true, .val (.bool ((((x : Int) == (y : Int)) || ((x : Int) == ((-1) : Int)))))), ((true && !(((x : Int) == (y : Int)) || ((x : Int) == ((-1) : Int)))), .val (.int .i64 y)), ((true && !(((x : Int) == (y : Int)) || ((x : Int) == ((-1) : Int)))), .val (.bool (((y : Int) == ((-1) : Int))))), (true, .val (.bool (((((x : Int) == (y : Int)) || ((x : Int) == ((-1) : Int))) || ((y : Int) == ((-1) : Int)))))), (true, .val (.bool (((((x : Int) == (y : Int)) || ((x : Int) == ((-1) : Int))) || ((y : Int) == ((-1) : Int))))))] [(0, .int .i64 x), (1, .int .i64 y), (5, .bool ((((x : Int) == ((-2) : Int)) || ((y : Int) == ((-2) : Int))))), (12, .bool ((((x : Int) == ((-3) : Int)) || ((y : Int) == ((-3) : Int)))))] ⟨rfl, rfl, rfl, rfl, trivial⟩ (by kernel_rfl) (by kernel_rfl) (by kernel_rfl) ?_ ?_
     ·refine ⟨⟨true, .none rfl, fun h w => optUndef h, fun zβ za zw zc => ?_⟩, ?_⟩
      ·exact wp_move rfl (zc.kn.ev rfl) ⟨_, rfl, Below.refl _ _, optDef zβ rfl⟩
      refine ⟨⟨true, .none rfl, fun h w => optUndef h, fun zβ za zw zc => ?_⟩, ?_⟩
      ·exact wp_move rfl (zc.kn.ev rfl) ⟨_, rfl, Below.refl _ _, optDef zβ rfl⟩
      refine ⟨⟨true, .none rfl, fun h w => optUndef h, fun zβ za zw zc => ?_⟩, ?_⟩
      ·exact eql_3 rfl ((evt za 22).trans (optVal (zc.dep 0 22 (by kernel_rfl)) rfl rfl)) ((evt za 23).trans (optVal (zc.dep 1 23 (by kernel_rfl)) rfl rfl)) ⟨_, rfl, Below.refl _ _, optDef zβ rfl⟩
      refine ⟨⟨true, .none rfl, fun h w => optUndef h, fun zβ za zw zc => ?_⟩, ?_⟩
      ·exact wp_move rfl ((evt za 24).trans (optVal (zc.dep 2 24 (by kernel_rfl)) rfl rfl)) ⟨_, rfl, Below.refl _ _, optDef zβ rfl⟩
      refine ⟨⟨_, .no (d := true) rfl (fun v w h => h), fun h w => optUndef h, fun zβ za zw zc => ?_⟩, ?_⟩
      ·exact wp_move rfl (zc.kn.ev rfl) ⟨_, rfl, Below.refl _ _, optDef zβ rfl⟩
      refine ⟨⟨_, .no (d := true) rfl (fun v w h => h), fun h w => optUndef h, fun zβ za zw zc => ?_⟩, ?_⟩
      ·exact eql_3 rfl ((evt za 26).trans (optVal (zc.dep 4 26 (by kernel_rfl)) rfl zβ)) (zc.kn.ev rfl) ⟨_, rfl, Below.refl _ _, optDef zβ rfl⟩
      refine ⟨⟨true, .none rfl, fun h w => optUndef h, fun zβ za zw zc => ?_⟩, ?_⟩
      ·exact wp_or rfl ((evt za 25).trans (optVal (zc.dep 3 25 (by kernel_rfl)) rfl rfl)) (fun hp => ((evt za 27).trans (optVal (zc.dep 5 27 (by kernel_rfl)) rfl (bMkN zβ hp)))) ⟨_, rfl, Below.refl _ _, optDef zβ rfl⟩
      refine ⟨⟨true, .none rfl, fun h w => optUndef h, fun zβ za zw zc => ?_⟩, ?_⟩
      ·exact wp_move rfl ((evt za 28).trans (optVal (zc.dep 6 28 (by kernel_rfl)) rfl rfl)) ⟨_, rfl, Below.refl _ _, optDef zβ rfl⟩
      refine ⟨⟨_, .no (d := true) rfl (fun v w h => h), fun h w => optUndef h, fun zβ za zw zc => ?_⟩, ?_⟩
      ·exact wp_move rfl (zc.kn.ev rfl) ⟨_, rfl, Below.refl _ _, optDef zβ rfl⟩
      refine ⟨⟨_, .no (d := true) rfl (fun v w h => h), fun h w => optUndef h, fun zβ za zw zc => ?_⟩, ?_⟩
      ·exact eql_3 rfl ((evt za 30).trans (optVal (zc.dep 8 30 (by kernel_rfl)) rfl zβ)) (zc.kn.ev rfl) ⟨_, rfl, Below.refl _ _, optDef zβ rfl⟩
      refine ⟨⟨true, .none rfl, fun h w => optUndef h, fun zβ za zw zc => ?_⟩, ?_⟩
      ·exact wp_or rfl ((evt za 29).trans (optVal (zc.dep 7 29 (by kernel_rfl)) rfl rfl)) (fun hp => ((evt za 31).trans (optVal (zc.dep 9 31 (by kernel_rfl)) rfl (bMkN zβ hp)))) ⟨_, rfl, Below.refl _ _, optDef zβ rfl⟩
      refine ⟨⟨true, .none rfl, fun h w => optUndef h, fun zβ za zw zc => ?_⟩, ?_⟩
      ·exact wp_assign rfl ((evt za 32).trans (optVal (zc.dep 10 32 (by kernel_rfl)) rfl rfl)) ⟨_, rfl, Below.refl _ _, optDef zβ rfl⟩
      exact trivial
     ·intro za w8 zh hb9 zu
      have zh := zh.cons (d := 4) (v := .bool (((((x : Int) == (y : Int)) || ((x : Int) == ((-1) : Int))) || ((y : Int) == ((-1) : Int))))) (optVal (zu 11 4 (by kernel_rfl)) rfl rfl)
      clear zu
      refine WE.go zh ?_
      refine WE.next (WC.ret (WE.ret1 rfl rfl ?_))
      have hb10 : Below w.heap.size w w8 := (bstep (bstep hb2 hb5) hb9)
      refine ⟨_, rfl, congrArg Value.bool ?_, hb10⟩
      unfold ltU
      rw [Bool.eq_iff_iff]
      by_cases q1 : x = -2 <;> by_cases q2 : y = -2 <;> by_cases q3 : x = -3 <;> by_cases q4 : y = -3 <;> by_cases q5 : x = -1 <;> by_cases q6 : y = -1 <;> simp_all <;> omega
set_option maxRecDepth 100000 in
theorem fI_any (x y : Int) (w : World) : Calls Try.prog 30 #[.int .i64 x, .int .i64 y] w (Ret fun v' w' => v' = .bool (ltI x y) ∧ Below w.heap.size w w') := by
 skip
 refine Calls.walk (l := [.int .i64 x, .int .i64 y]) Try.func30 rfl (by kernel_rfl) ?_
 refine WC.sub (K' := [(0, .int .i64 x), (1, .int .i64 y)]) ⟨rfl, rfl, trivial⟩ ?_
 refine WC.seq (WC.region (WL.asg rfl rfl rfl rfl rfl (WL.nil (WE.next (WC.seq (WC.seq (WC.region (WL.mv rfl rfl rfl rfl rfl (WL.nil (WE.next (WC.block (WC.seq (WC.region ?_)))))))))))))
 refine WL.val (.bool (((y : Int) == ((-2) : Int)))) rfl rfl rfl (fun za zC zh zk => eql_3 rfl (zh.ev rfl) (zh.ev rfl) zk) ?_
 refine WL.asg rfl rfl rfl rfl rfl (WL.nil (WE.next ?_))
 refine WC.cond rfl (fun h1 => ?_) (fun h1 => ?_)
 ·have h1 : (y : Int) = ((-2) : Int) := by simpa using h1
  refine WC.seq (WC.region (WL.asg rfl rfl rfl rfl rfl (WL.nil (WE.next (WC.ret (WE.blockRet (WE.thenRet (WE.ret1 rfl rfl ?_))))))))
  refine ⟨_, rfl, congrArg Value.bool ?_, (Below.refl _ _)⟩
  unfold ltI
  by_cases q2 : y = -2 <;> by_cases q6 : y = -1 <;> simp_all <;> (rw [Bool.eq_iff_iff]; simp)
 ·have h1 : ¬ ((y : Int) = ((-2) : Int)) := by simpa using h1
  refine WC.seq (WC.region ?_)
  refine WL.val (.bool (((y : Int) == ((-1) : Int)))) rfl rfl rfl (fun za zC zh zk => eql_3 rfl (zh.ev rfl) (zh.ev rfl) zk) ?_
  refine WL.asg rfl rfl rfl rfl rfl (WL.nil (WE.next ?_))
  refine WC.cond rfl (fun h2 => ?_) (fun h2 => ?_)
  ·have h2 : (y : Int) = ((-1) : Int) := by simpa using h2
   refine WC.seq (WC.region (WL.mv rfl rfl rfl rfl rfl ?_))
   refine WL.val (.bool ((decide (((-1) : Int) ≤ (x : Int))))) rfl rfl rfl (fun za zC zh zk => geq_3 rfl (zh.ev rfl) (zh.ev rfl) zk) ?_
   refine WL.asg rfl rfl rfl rfl rfl (WL.nil (WE.next (WC.ret (WE.blockRet (WE.thenRet (WE.ret1 rfl rfl ?_))))))
   refine ⟨_, rfl, congrArg Value.bool ?_, (Below.refl _ _)⟩
   unfold ltI
   by_cases q2 : y = -2 <;> by_cases q6 : y = -1 <;> simp_all <;> (rw [Bool.eq_iff_iff]; simp)
  ·have h2 : ¬ ((y : Int) = ((-1) : Int)) := by simpa using h2
   refine WC.skip (WE.blockNormal (WE.next (WC.seq (WC.region (WL.mv rfl rfl rfl rfl rfl (WL.mv rfl rfl rfl rfl rfl ?_))))))
   refine WL.val (.bool (((x : Int) == (y : Int)))) rfl rfl rfl (fun za zC zh zk => eql_3 rfl (zh.ev rfl) (zh.ev rfl) zk) ?_
   refine WL.asg rfl rfl rfl rfl rfl (WL.nil (WE.next (WC.ret (WE.ret1 rfl rfl ?_))))
   refine ⟨_, rfl, congrArg Value.bool ?_, (Below.refl _ _)⟩
   unfold ltI
   by_cases q2 : y = -2 <;> by_cases q6 : y = -1 <;> simp_all <;> (rw [Bool.eq_iff_iff]; simp)
set_option maxRecDepth 100000 in
theorem fG_any (x y : Int) (w : World) : Calls Try.prog 29 #[.int .i64 x, .int .i64 y] w (Ret fun v' w' => v' = .bool (ltI y x) ∧ Below w.heap.size w w') := by
 skip
 refine Calls.walk (l := [.int .i64 x, .int .i64 y]) Try.func29 rfl (by kernel_rfl) ?_
 refine WC.sub (K' := [(0, .int .i64 x), (1, .int .i64 y)]) ⟨rfl, rfl, trivial⟩ ?_
 refine WC.seq (WC.region (WL.asg rfl rfl rfl rfl rfl (WL.nil (WE.next (WC.seq (WC.region (WL.mv rfl rfl rfl rfl rfl (WL.mv rfl rfl rfl rfl rfl ?_))))))))
 refine WL.call rfl rfl rfl (fun za zh zC => wp_call (by kernel_rfl) rfl (hv2 (zh.ev rfl) (zh.ev rfl))) (fI_any y x _) ?_
 rintro _ w2 ⟨rfl, hq1⟩
 refine WL.asg rfl rfl rfl rfl rfl (WL.nil (WE.next (WC.ret (WE.ret1 rfl rfl ?_))))
 exact ⟨_, rfl, rfl, hq1⟩
set_option maxRecDepth 100000 in
theorem cop_any : ∀ (t : T) (w : World) (v : Value), t.size ≤ 4294967296 → IsT w t v → Calls Try.prog 26 #[v] w (Ret fun v' w' => NewT w w' t v' ∧ Below w.heap.size w w') := by
 refine T.ind (fun f l ih => ?_)
 intro w v hz hv
 have hlen := len_le_sizeL l
 have hz' := hz
 simp only [T.size] at hz'
 obtain ⟨hf, a, c, rfl, hc, hm, hl⟩ := hv
 refine Calls.walk (l := [.agg #[.int .i64 f, .slice a l.length c]]) Try.func26 rfl (by kernel_rfl) ?_
 refine WC.sub (K' := [(0, .agg #[.int .i64 f, .slice a l.length c])]) ⟨rfl, trivial⟩ ?_
 refine WC.seq (WC.region ?_)
 refine WL.step (post := NewBlk w 24 #[.int .i64 f, .slice a l.length c]) rfl rfl rfl (fun za zC zh zk => box_24 rfl (zh.ev rfl) (zk _ _ (newBlk _ _ _))) ?_
 rintro _ w1 ⟨g2, rfl, hg3, hB4, hb5, hz6⟩
 have hl7 : w.heap.size ≤ g2 := by omega
 refine WL.step (post := NewBlk w1 24 #[.int .i64 0, .slice none 0 0]) rfl rfl rfl (fun za zC zh zk => alloc_24 rfl (zk _ _ (newBlk _ _ _))) ?_
 rintro _ w8 ⟨g9, rfl, hg10, hB11, hb12, hz13⟩
 have hl14 : g2 < g9 := by have z1 := hB4.lt; omega
 have hl15 : w.heap.size ≤ g9 := by have z2 := (hb5).size; omega
 refine WL.nil (WE.next (WC.seq (WC.region ?_)))
 refine WL.val _ rfl rfl rfl (fun za zC zh zk => fld_24_0 rfl (zh.ev rfl) zk) ?_
 have hB16 := hB4.below hb12
 refine WL.val _ rfl rfl rfl (fun za zC zh zk => ld_3 rfl (zh.ev rfl) ((hB16.cell 0).trans rfl) zk) ?_
 refine WL.val (.agg #[.int .i64 f, .slice none 0 0]) rfl rfl rfl (fun za zC zh zk => build_24_0 rfl (zh.ev rfl) zk) ?_
 refine WL.step (post := NewBlk w8 24 #[.int .i64 0, .slice none 0 0]) rfl rfl rfl (fun za zC zh zk => alloc_24 rfl (zk _ _ (newBlk _ _ _))) ?_
 rintro _ w17 ⟨g18, rfl, hg19, hB20, hb21, hz22⟩
 have hl23 : g2 < g18 := by have z1 := hB16.lt; omega
 have hl24 : g9 < g18 := by have z1 := hB11.lt; omega
 have hb25 : Below w.heap.size w w8 := (bstep hb5 hb12)
 have hl26 : w.heap.size ≤ g18 := by have z2 := (hb25).size; omega
 refine WL.step (post := fun _ w' => Upd g18 w17 w' ∧ Blk w' g18 24 #[.int .i64 f, .slice none 0 0]) rfl rfl rfl (fun za zC zh zk => st_24 rfl (zh.ev rfl) (zh.ev rfl) rfl rfl hB20 (by first | decide | simp) (fun v => zk v _ ⟨(Upd.at_ _ _ _ _).trans (Upd.at_ _ _ _ _), (hB20.set_ 0 _).set_ 1 _⟩)) ?_
 rintro v30 w27 ⟨hu28, hB29⟩
 have hb31 : Below w.heap.size w w17 := (bstep hb25 hb21)
 have hb32 := upd_below hb31 hu28 (by omega)
 have hB33 := hB16.below hb21
 have hB34 := upd_blk hB33 hu28 (by omega)
 have hB35 := hB11.below hb21
 have hB36 := upd_blk hB35 hu28 (by omega)
 refine WL.nil (WE.next (WC.seq (WC.seq (WC.region ?_))))
 refine WL.val _ rfl rfl rfl (fun za zC zh zk => fld_24_1 rfl (zh.ev rfl) zk) ?_
 refine WL.val _ rfl rfl rfl (fun za zC zh zk => ld_22 rfl (zh.ev rfl) ((hB34.cell 1).trans rfl) zk) ?_
 refine WL.val (.int .i64 (((l.length : Nat) : Int))) rfl rfl rfl (fun za zC zh zk => len_22 rfl (zh.ev rfl) zk) ?_
 refine WL.mv rfl rfl rfl rfl rfl (WL.nil (WE.next (WC.block ?_)))
 have hl37 : g2 < w27.heap.size := by have z1 := hB34.lt; omega
 have hl38 : g9 < w27.heap.size := by have z1 := hB36.lt; omega
 have hl39 : g18 < w27.heap.size := by have z1 := hB29.lt; omega
 have hl40 : w.heap.size ≤ w27.heap.size := (hb32).size
 have hR41 : RowE eltT w27 w27.heap.size 24 none 0 0 [] := RowE.nil
 refine WC.loop (X := Option Addr × Nat × Nat) (fun x => l.length - x.2.2) (fun x => [(0, .agg #[.int .i64 f, .slice a l.length c]), (1, .pointer (some ⟨g2, 0, none⟩)), (2, .pointer (some ⟨g9, 0, none⟩)), (3, .pointer (some ⟨g18, 0, none⟩)), (10, .slice a l.length c), (11, .int .i64 (((l.length : Nat) : Int))), (12, .int .i64 (((x.2.2 : Nat) : Int)))]) (fun x w42 => x.2.2 ≤ l.length ∧ w27.heap.size ≤ (w42).heap.size ∧ Below w.heap.size w w42 ∧ Blk w42 g2 24 #[.int .i64 f, .slice a l.length c] ∧ Blk w42 g9 24 #[.int .i64 0, .slice none 0 0] ∧ Blk w42 g18 24 #[.int .i64 f, .slice x.1 x.2.2 x.2.1] ∧ RowE eltT (w42) w27.heap.size 24 x.1 x.2.1 x.2.2 (l.take x.2.2)) ((none, 0, 0)) ⟨rfl, rfl, rfl, rfl, rfl, rfl, rfl, trivial⟩ ?_ ?_
 ·exact ⟨Nat.zero_le _, Nat.le_refl _, hb32, hB34, hB36, hB29, (by simpa using hR41)⟩
 ·rintro x w42 ⟨hk, hBw, hb43, hB44, hB45, hB46, ho47⟩
  refine WC.seq (WC.region ?_)
  refine WL.val (.bool ((decide ((((x.2.2 : Nat) : Int) : Int) < (((l.length : Nat) : Int) : Int))))) rfl rfl rfl (fun za zC zh zk => lss_3 rfl (zh.ev rfl) (zh.ev rfl) zk) ?_
  refine WL.nil (WE.next (WC.seq ?_))
  refine WC.cond rfl (fun h48 => ?_) (fun h48 => ?_)
  ·have h48 : (((x.2.2 : Nat) : Int) : Int) < (((l.length : Nat) : Int) : Int) := by simpa using h48
   refine WC.skip (WE.next (WC.seq (WC.block (WC.seq (WC.region ?_)))))
   obtain ⟨b49, o50, A51, C52, ha53, hc54⟩ := IsTs.open hl
   refine WL.val _ rfl rfl rfl (fun za zC zh zk => ix_22 (k := x.2.2) rfl (zh.ev rfl) (ha53 x.2.2 (by first | omega | (simp; omega))) (zh.ev rfl) (by first | omega | (simp; omega)) zk) ?_
   refine WL.val _ rfl rfl rfl (fun za zC zh zk => ld_24 rfl (zh.ev rfl) (bkeeps hb43 _ _ (hc54 x.2.2 (by first | omega | (simp; omega))).1) (bkeeps hb43 _ _ (hc54 x.2.2 (by first | omega | (simp; omega))).2.1) zk) ?_
   refine WL.step (post := NewBlk w42 24 #[.int .i64 0, .slice none 0 0]) rfl rfl rfl (fun za zC zh zk => alloc_24 rfl (zk _ _ (newBlk _ _ _))) ?_
   rintro _ w55 ⟨g56, rfl, hg57, hB58, hb59, hz60⟩
   have hl61 : g2 < g56 := by have z1 := hB44.lt; omega
   have hl62 : g9 < g56 := by have z1 := hB45.lt; omega
   have hl63 : g18 < g56 := by have z1 := hB46.lt; omega
   have hl64 : w.heap.size ≤ g56 := by have z2 := (hb43).size; omega
   have hl65 : w42.heap.size ≤ g56 := by omega
   refine WL.step (post := fun _ w' => Upd g56 w55 w' ∧ Blk w' g56 24 #[.int .i64 ((tget l x.2.2).f), .slice ((A51 x.2.2)) ((tget l x.2.2).args.length) ((C52 x.2.2))]) rfl rfl rfl (fun za zC zh zk => st_24 rfl (zh.ev rfl) (zh.ev rfl) rfl rfl hB58 (by first | decide | simp) (fun v => zk v _ ⟨(Upd.at_ _ _ _ _).trans (Upd.at_ _ _ _ _), (hB58.set_ 0 _).set_ 1 _⟩)) ?_
   rintro v69 w66 ⟨hu67, hB68⟩
   have hb70 : Below w.heap.size w w55 := (bstep hb43 hb59)
   have hb71 := upd_below hb70 hu67 (by omega)
   have hb72 := upd_below hb59 hu67 (by omega)
   have hB73 := hB44.below hb59
   have hB74 := upd_blk hB73 hu67 (by omega)
   have hB75 := hB45.below hb59
   have hB76 := upd_blk hB75 hu67 (by omega)
   have hB77 := hB46.below hb59
   have hB78 := upd_blk hB77 hu67 (by omega)
   refine WL.nil (WE.next ?_)
   have ho79 := ho47.below hb72
   have hSlt : ∀ b, (fun b => b = g18 ∨ (Value.slice x.1 x.2.2 x.2.1).ownBlock = some b) b → b < w66.heap.size := fun b h => h.elim (fun e => e ▸ hB78.lt) (fun h => (ho79.lt b h).2)
   have hSlo : ∀ b, (fun b => b = g18 ∨ (Value.slice x.1 x.2.2 x.2.1).ownBlock = some b) b → b = g18 ∨ (w27.heap.size ≤ b ∧ b < w42.heap.size) := fun b h => h.imp id (fun h => ho47.lt b h)
   have hBW : w27.heap.size ≤ w66.heap.size := by have z1 := (Nat.le_trans hBw hb72.size); omega
   have hlL : x.2.2 = ((l.take x.2.2)).length := ho79.len
   refine WC.tail2 (S := ((fun b => b = g18 ∨ (Value.slice x.1 x.2.2 x.2.1).ownBlock = some b))) [(true, .val (.pointer (some ⟨g18, 1, none⟩))), (true, .val (.slice x.1 x.2.2 x.2.1)), (true, .val (.agg #[.int .i64 ((tget l x.2.2).f), .slice ((A51 x.2.2)) ((tget l x.2.2).args.length) ((C52 x.2.2))])), (true, .mem (fun v w' => NewT w66 w' ((tget l x.2.2)) v) (fun v w w' hc h => InT.chg h hc (fun b hb hs => by have z := hSlt b hs; omega))), (true, .mem (fun v w' => OneRow eltT w66 24 ((tget l x.2.2)) v w') (fun v w w' hc h => h.chg hc hSlt)), (true, .val undef), (true, .val (.pointer (some ⟨g18, 1, none⟩))), (true, .val undef)] [(0, .agg #[.int .i64 f, .slice a l.length c]), (1, .pointer (some ⟨g2, 0, none⟩)), (2, .pointer (some ⟨g9, 0, none⟩)), (3, .pointer (some ⟨g18, 0, none⟩)), (5, .pointer (some ⟨g56, 0, none⟩)), (10, .slice a l.length c), (11, .int .i64 (((l.length : Nat) : Int))), (12, .int .i64 (((x.2.2 : Nat) : Int))), (13, .bool ((decide ((((x.2.2 : Nat) : Int) : Int) < (((l.length : Nat) : Int) : Int)))))] 5 7 ((x.2.2 + 1)) 21 (fun ra rc wz => RowE eltT wz w27.heap.size 24 ra rc (x.2.2 + 1) ((l.take x.2.2 ++ [(tget l x.2.2)])) ∧ Blk wz g18 24 #[.int .i64 f, .slice x.1 x.2.2 x.2.1]) (fun ra rc wz => RowE eltT wz w27.heap.size 24 ra rc (x.2.2 + 1) ((l.take x.2.2 ++ [(tget l x.2.2)])) ∧ Blk wz g18 24 #[.int .i64 f, .slice ra ((x.2.2 + 1)) rc]) (by decide) (fun ra rc w w' hb h => ⟨h.1.below hb, h.2.below hb⟩) (fun ra rc w w' hb h => ⟨h.1.below hb, h.2.below hb⟩) ⟨rfl, rfl, rfl, rfl, rfl, rfl, rfl, rfl, rfl, trivial⟩ (by kernel_rfl) (by kernel_rfl) (by kernel_rfl) (by kernel_rfl) (by kernel_rfl) ?_ ?_
   ·refine ⟨.inl ⟨rfl, true, .none rfl, (fun gg b h => by cases h), fun h w => optUndef h, fun zβ za zw zc => ?_⟩, ?_⟩
    ·exact fld_24_1 rfl (zc.kn.ev rfl) ⟨_, rfl, Below.refl _ _, optDef zβ rfl⟩
    refine ⟨.inl ⟨rfl, true, .none rfl, (fun gg b h => by cases h), fun h w => optUndef h, fun zβ za zw zc => ?_⟩, ?_⟩
    ·exact ld_22 rfl ((evt za 16).trans (optSVal (zc.dep 0 16 (by kernel_rfl) (by decide)) rfl rfl)) (bkeeps (zc.early (by kernel_rfl)) _ _ ((hB78.cell 1).trans rfl)) ⟨_, rfl, Below.refl _ _, optDef zβ rfl⟩
    refine ⟨.inl ⟨rfl, true, .none rfl, (fun gg b h => by cases h), fun h w => optUndef h, fun zβ za zw zc => ?_⟩, ?_⟩
    ·exact ld_24 rfl (zc.kn.ev rfl) (bkeeps (zc.early (by kernel_rfl)) _ _ ((hB68.cell 0).trans rfl)) (bkeeps (zc.early (by kernel_rfl)) _ _ ((hB68.cell 1).trans rfl)) ⟨_, rfl, Below.refl _ _, optDef zβ rfl⟩
    refine ⟨.inl ⟨rfl, true, .none rfl, (fun gg b h => by cases h), fun h w => optUndef h, fun zβ za zw zc => ?_⟩, ?_⟩
    ·exact wp_call (by kernel_rfl) rfl (hv1 ((evt za 18).trans (optSVal (zc.dep 2 18 (by kernel_rfl) (by decide)) rfl rfl))) (ih (tget l x.2.2) (tget_mem (by omega)) _ _ (size_at (by omega) hz) (IsT.below (bstep hb71 (zc.early (by kernel_rfl))) (hc54 x.2.2 (by first | omega | (simp; omega))).2.2)) (fun v w' h => ⟨v, rfl, h.2, optDef zβ (InT.mono (fun b hb _ => Nat.le_trans (zc.early (by kernel_rfl)).size hb) h.1)⟩)
    refine ⟨.inl ⟨rfl, true, .none rfl, (fun gg b h => by cases h), fun h w => optUndef h, fun zβ za zw zc => ?_⟩, ?_⟩
    ·have zv := (optSMem (zc.dep 3 19 (by kernel_rfl) (by decide)) rfl rfl)
     obtain ⟨_, a1, c1, e1, _⟩ := zv.form
     rw [e1] at zv
     exact row_22_1 rfl ((evt za 19).trans e1) ⟨_, rfl, balloc _ _, optDef zβ ⟨_, _, rfl, zc.chg.size, Blk.new' rfl, _, _, rfl, zv.below (balloc _ _)⟩⟩
    refine ⟨.inr (.inl ⟨rfl, rfl, fun za zw zc => ?_⟩), ?_⟩
    ·obtain ⟨g1, cs, e1, hg1, hB1, hin⟩ := (optSMem (zc.dep 4 20 (by kernel_rfl) (by decide)) rfl rfl)
     exact wp_appE (E := eltT) (size := 2) (bytes := 32) (z := .agg #[.int .i64 0, .slice none 0 0]) rfl Try.underlying22 (by kernel_rfl) rfl (by decide) rfl ((evt za 17).trans (optSVal (zc.dep 1 17 (by kernel_rfl) (by decide)) rfl rfl)) ((evt za 20).trans e1) (ho79.below zc.below) hB1 (eltT.mono (fun b hb _ => ⟨by omega, fun e => by have z := (ho79.lt b e).2; omega⟩) hin) (by omega) (by omega) (by have z := zc.below.size; omega) (fun ra rc w' h1 h2 _ => ⟨ra, rc, rfl, ⟨h1, chg_blk (hB78.below zc.below) h2 (fun e => by have z := (ho79.lt _ e).1; omega)⟩, h2.mono (fun b hb => .inr hb)⟩)
    refine ⟨.inl ⟨rfl, true, .none rfl, (fun gg b h => by cases h), fun h w => optUndef h, fun zβ za zw zc => ?_⟩, ?_⟩
    ·exact fld_24_1 rfl (zc.kn.ev rfl) ⟨_, rfl, Below.refl _ _, optDef zβ rfl⟩
    refine ⟨.inr (.inr ⟨rfl, rfl, 21, by kernel_rfl, fun za zw ra rc zk zd zv zg => ?_⟩), ?_⟩
    ·exact st_22 rfl ((evt za 22).trans (optSVal (zd 6 22 (by kernel_rfl) (by decide)) rfl rfl)) ((evt za 21).trans zv) zg.2 (by first | decide | simp) (fun v => ⟨v, rfl, ⟨zg.1.upd (Upd.at_ _ _ _ _) (by omega), zg.2.set_ 1 _⟩, .ofUpd (Upd.at_ _ _ _ _) (.inl rfl)⟩)
    exact trivial
   ·intro za w80 ra83 rc84 zh zv hG81 hc82 zu
    have hb85 := chg_below hb71 hc82 (fun b hb => (fun h => by rcases hSlo _ h with h | h <;> omega))
    have hB86 := chg_blk hB74 hc82 (fun h => by rcases hSlo _ h with h | h <;> omega)
    have hB87 := chg_blk hB76 hc82 (fun h => by rcases hSlo _ h with h | h <;> omega)
    have hB88 := chg_blk hB68 hc82 (fun h => by rcases hSlo _ h with h | h <;> omega)
    clear zu
    refine WE.go zh ?_
    refine WE.blockNormal (WE.next (WC.region ?_))
    refine WL.val (.int .i64 ((((x.2.2 + 1) : Nat) : Int))) rfl rfl rfl (fun za zC zh zk => addb_3 rfl (zh.ev rfl) (zh.ev rfl) (wrap_eq (by omega) (by omega) (by omega)) zk) ?_
    refine WL.mv rfl rfl rfl rfl rfl (WL.nil ?_)
    refine WE.round ((ra83, rc84, x.2.2 + 1)) ⟨rfl, rfl, rfl, rfl, rfl, rfl, rfl, trivial⟩ ?_ ?_
    ·exact ⟨by (try dsimp only at *); omega, (Nat.le_trans (Nat.le_trans hBw hb72.size) hc82.size), hb85, hB86, hB87, hG81.2, (by rw [← take_snocT (by (try dsimp only at *); omega)]; exact hG81.1)⟩
    ·dsimp only; omega
  ·have h48 : ¬ ((((x.2.2 : Nat) : Int) : Int) < (((l.length : Nat) : Int) : Int)) := by simpa using h48
   refine WC.exit (WE.thenExit (WE.thenExit (WE.blockIs rfl (WE.next (WC.seq (WC.region ?_))))))
   refine WL.val _ rfl rfl rfl (fun za zC zh zk => ld_24 rfl (zh.ev rfl) ((hB46.cell 0).trans rfl) ((hB46.cell 1).trans rfl) zk) ?_
   refine WL.step (post := fun _ w' => Upd g9 w42 w' ∧ Blk w' g9 24 #[.int .i64 f, .slice x.1 x.2.2 x.2.1]) rfl rfl rfl (fun za zC zh zk => st_24 rfl (zh.ev rfl) (zh.ev rfl) rfl rfl hB45 (by first | decide | simp) (fun v => zk v _ ⟨(Upd.at_ _ _ _ _).trans (Upd.at_ _ _ _ _), (hB45.set_ 0 _).set_ 1 _⟩)) ?_
   rintro v92 w89 ⟨hu90, hB91⟩
   have hb93 := upd_below hb43 hu90 (by omega)
   have hB94 := upd_blk hB44 hu90 (by omega)
   have hB95 := upd_blk hB46 hu90 (by omega)
   have ho96 := ho47.upd hu90 (by omega)
   refine WL.nil (WE.next (WC.ret ?_))
   refine WE.retAny (v := .agg #[.int .i64 f, .slice x.1 x.2.2 x.2.1]) (fun za zh => ?_) ?_
   ·have z0 : za.tmps[2]?.getD undef = .pointer (some ⟨g9, 0, none⟩) := by rw [← Array.getD_eq_getD_getElem?]; exact zh.knows 2 _ rfl
    have y0 : w89.cell? ⟨g9, 0, none⟩ = some (.int .i64 f) := ((hB91.cell 0).trans rfl)
    have y1 : w89.cell? ⟨g9, 1, none⟩ = some (.slice x.1 x.2.2 x.2.1) := ((hB91.cell 1).trans rfl)
    simp [results, Try.results26, z0, y0, y1, go_sem]
   ·have z := ho96
    rw [List.take_of_length_le (by omega)] at z
    exact ⟨_, rfl, newT_row hf z (by omega), hb93⟩
end Go.Proofs.Ytibncmnmjhimeaa

/- Regions in whatever order in which a row grows by append and is then given to a variable ('l = append(l, f(..))'). -/
namespace Go.Proofs.Ytibncmnmjhimeaa
open Go.RowKit Go
set_option linter.unusedVariables false
set_option linter.unusedSimpArgs false
section
variable {P : Program} {ops : Array Oper}
structure CtxH (ops : Array Oper) (chain : List Nat) (R : Nat → Value → World → Prop) (G : List (Option Value) → World → Prop) (n : Fr) (K Ke : Known) (i : Nat) (o : Oper) (a : Act) (w : World) (vs : List (Option Value)) : Prop where
 now : G vs w
 kn : Kn n K a
 dep : ∀ j d, depB ops o j d = true → chain.contains j = false → R j (a.tmps.getD d undef) w
 len : vs.length = chain.length
 link : ∀ (p c d : Nat), chain[p]? = some c → depB ops o c d = true → vs[p]? = some (some (a.tmps.getD d undef))
 done : ∀ (p c : Nat), chain[p]? = some c → o.after.any (fun e => e.on == c && Region.binds .any e) = true → ∃ v, vs[p]? = some (some v)
 most : ∀ (p c : Nat), chain[p]? = some c → afterB ops c i = true → vs[p]? = some none
 mostT : ∀ (p c : Nat), chain[p]? = some c → (ancL ops c).contains i = true → vs[p]? = some none
 old : ∀ d v, look Ke d = some v → (∀ c, (ops[c]?).bind (·.dst) = some d → (ancL ops c).contains i = true) → a.tmps.getD d undef = v
def SoundH (P : Program) (ops : Array Oper) (Q : Exit → Act → World → Prop) (chain : List Nat) (R : Nat → Value → World → Prop) (Le : World → World → Prop) (G : List (Option Value) → World → Prop) (n : Fr) (K Ke : Known) (i : Nat) (o : Oper) : Prop :=
 (chain.contains i = false ∧ ∃ β, GuardIs R o β ∧ (∀ g b, o.guard = some (g, b) → chain.contains g = false) ∧ (β = false → ∀ w, R i undef w) ∧
  (β = true → ∀ (a : Act) (w : World) (vs : List (Option Value)), CtxH ops chain R G n K Ke i o a w vs →
   o.wpIn (fen n.r) 0 P a w (fun a' w' => ∃ v, a' = Act.put a o.dst v ∧ Le w w' ∧ G vs w' ∧ R i v w') Q)) ∨
 (∃ p, chain[p]? = some i ∧ o.guard = none ∧ ∀ (a : Act) (w : World) (vs : List (Option Value)), CtxH ops chain R G n K Ke i o a w vs → vs[p]? = some none →
   o.wpIn (fen n.r) 0 P a w (fun a' w' => ∃ v, a' = Act.put a o.dst v ∧ Le w w' ∧ G (vs.set p (some v)) w') Q)
def SoundFromH (P : Program) (ops : Array Oper) (Q : Exit → Act → World → Prop) (chain : List Nat) (R : Nat → Value → World → Prop) (Le : World → World → Prop) (G : List (Option Value) → World → Prop) (n : Fr) (K Ke : Known) : Nat → List Oper → Prop
 | _, [] => True
 | k, o :: r => SoundH P ops Q chain R Le G n K Ke k o ∧ SoundFromH P ops Q chain R Le G n K Ke (k + 1) r
theorem SoundFromH.at_ {Q : Exit → Act → World → Prop} {chain : List Nat} {R : Nat → Value → World → Prop} {Le : World → World → Prop} {G : List (Option Value) → World → Prop} {n : Fr} {K Ke : Known} : ∀ {l : List Oper} {k : Nat}, SoundFromH P ops Q chain R Le G n K Ke k l → ∀ i o, l[i]? = some o → SoundH P ops Q chain R Le G n K Ke (k + i) o
 | [], _, _, i, o, h => by simp at h
 | x :: r, k, h, 0, o, ho => by simp at ho; subst ho; exact h.1
 | x :: r, k, h, i + 1, o, ho => by
  have := h.2.at_ i o (by simpa using ho)
  rwa [show k + 1 + i = k + (i + 1) by omega] at this
structure AtH (ops : Array Oper) (chain : List Nat) (R : Nat → Value → World → Prop) (G : List (Option Value) → World → Prop) (n : Fr) (K Ke : Known) (listed : Array Bool) (a : Act) (vs : List (Option Value)) (w : World) : Prop where
 size : listed.size = ops.size
 kn : Kn n K a
 plain : ∀ i d, chain.contains i = false → listed.getD i false = true → (ops[i]?).bind (·.dst) = some d → R i (a.tmps.getD d undef) w
 link : ∀ p c : Nat, chain[p]? = some c → (listed.getD c false = true ↔ ∃ v, vs[p]? = some (some v))
 vals : ∀ (p c d : Nat), chain[p]? = some c → listed.getD c false = true → (ops[c]?).bind (·.dst) = some d → vs[p]? = some (some (a.tmps.getD d undef))
 len : vs.length = chain.length
 closed : ∀ i o, ops[i]? = some o → listed.getD i false = true → ∀ e ∈ o.after, Region.binds .any e = true → listed.getD e.on false = true
 now : G vs w
 old : ∀ d v, look Ke d = some v → (∀ c, (ops[c]?).bind (·.dst) = some d → listed.getD c false = false) → a.tmps.getD d undef = v
theorem wp_any_genH {Q : Exit → Act → World → Prop} {n : Fr} {K Ke : Known} (chain : List Nat) (R : Nat → Value → World → Prop) (Le : World → World → Prop) (G : List (Option Value) → World → Prop)
  (hB : opsB ops n.n = true) (hnd : chain.Nodup) (hin : (chain.all fun c => Nat.blt c ops.size) = true) (hclear : clearB ops K = true)
  (hR : ∀ i v w w', R i v w → Le w w' → R i v w')
  (h : SoundFromH P ops Q chain R Le G n K Ke 0 ops.toList)
  (hQ : ∀ (a : Act) (w : World) (vs : List (Option Value)), Kn n K a → vs.length = chain.length → (∀ p, p < chain.length → ∃ v, vs[p]? = some (some v)) → G vs w → (∀ i d, (ops[i]?).bind (·.dst) = some d → chain.contains i = false → R i (a.tmps.getD d undef) w) → (∀ (p c d : Nat), chain[p]? = some c → (ops[c]?).bind (·.dst) = some d → vs[p]? = some (some (a.tmps.getD d undef))) → Q .normal a w) :
  ∀ (a0 : Act) (w0 : World), Kn n K a0 → Kn n Ke a0 → G (List.replicate chain.length none) w0 → wpAnyIn (fen n.r) 0 P .any ops Q ops.size (Array.replicate ops.size false) a0 w0 := by
 have main : ∀ (fuel : Nat) (listed : Array Bool) (a : Act) (vs : List (Option Value)) (w : World), listed.toList.count false ≤ fuel → AtH ops chain R G n K Ke listed a vs w →
   wpAnyIn (fen n.r) 0 P .any ops Q fuel listed a w := by
  intro fuel
  have done : ∀ (listed : Array Bool) (a : Act) (vs : List (Option Value)) (w : World), Region.ready .any ops listed = [] → AtH ops chain R G n K Ke listed a vs w → Q .normal a w := by
   intro listed a vs w hr H
   have all : ∀ i, i < ops.size → listed.getD i false = true := fun i hi => by
    have := ready_nil hB H.size hr i hi
    have hs := H.size
    simpa [Array.getD, show i < listed.size by omega] using this
   have hin' : ∀ p c, chain[p]? = some c → c < ops.size := fun p c hc => by
    have := List.all_eq_true.1 hin _ (List.mem_of_getElem? hc)
    simpa [Nat.blt_eq] using this
   have lt_of : ∀ i d, (ops[i]?).bind (·.dst) = some d → i < ops.size := fun i d hd => by
    rcases Nat.lt_or_ge i ops.size with h | h
    ·exact h
    ·simp [Array.getElem?_eq_none h] at hd
   exact hQ a w vs H.kn H.len (fun p hp => (H.link p chain[p] (by simp [hp])).1 (all _ (hin' p _ (by simp [hp])))) H.now (fun i d hd hc => H.plain i d hc (all i (lt_of i d hd)) hd) (fun p c d hc hd => H.vals p c d hc (all c (hin' p c hc)) hd)
  induction fuel with
  | zero =>
   intro listed a vs w hc H
   have hr : Region.ready .any ops listed = [] := by
    cases hr : Region.ready .any ops listed with
    | nil => rfl
    | cons i r =>
     have := (mem_ready (md := .any) (ops := ops) (j := i) (listed := listed)).1 (by rw [hr]; simp)
     rw [count_zero hc i] at this
     simp at this
   exact ⟨hr, done listed a vs w hr H⟩
  | succ fuel ih =>
   intro listed a vs w hc H
   refine ⟨fun hr => done listed a vs w hr H, fun i hi => ?_⟩
   obtain ⟨hun, o, ho, haf⟩ := mem_ready.1 hi
   have hilt : i < ops.size := by
    rcases Nat.lt_or_ge i ops.size with h | h
    ·exact h
    ·simp [Array.getElem?_eq_none h] at ho
   have hils : i < listed.size := by have := H.size; omega
   have hun' := getD_false_of hun
   have ok := opsB_spec hB ho
   have hs2 := h.at_ i o (by simpa using ho)
   rw [Nat.zero_add] at hs2
   have after_of : ∀ j d, depB ops o j d = true → listed.getD j false = true ∧ (ops[j]?).bind (·.dst) = some d := by
    intro j d hj
    simp only [depB, Bool.and_eq_true, Array.any_eq_true, beq_iff_eq] at hj
    obtain ⟨⟨k, hk, h1, h2⟩, h3⟩ := hj
    exact ⟨h1 ▸ haf _ (Array.getElem_mem hk) h2, h3⟩
   have ctx : CtxH ops chain R G n K Ke i o a w vs := by
    have opt : ∀ p c, chain[p]? = some c → listed.getD c false = false → vs[p]? = some none := fun p c hc hl => by
     have hp : p < vs.length := by rw [H.len]; exact (List.getElem?_eq_some_iff.1 hc).1
     rw [List.getElem?_eq_getElem hp]
     cases hx : vs[p] with
     | none => rfl
     | some v =>
      have := (H.link p c hc).2 ⟨v, by rw [List.getElem?_eq_getElem hp, hx]⟩
      rw [hl] at this; cases this
    refine ⟨H.now, H.kn, fun j d hj hc => H.plain j d hc (after_of j d hj).1 (after_of j d hj).2, H.len, fun p c d hc hj => H.vals p c d hc (after_of c d hj).1 (after_of c d hj).2, fun p c hc ha => ?_, fun p c hc ha => opt p c hc ?_, fun p c hc ha => opt p c hc ?_, fun d v hd hc => H.old d v hd fun c hcd => ?_⟩
    ·simp only [Array.any_eq_true, Bool.and_eq_true, beq_iff_eq] at ha
     obtain ⟨k, hk, h1, h2⟩ := ha
     exact (H.link p c hc).1 (h1 ▸ haf _ (Array.getElem_mem hk) h2)
    ·cases hl : listed.getD c false with
     | false => rfl
     | true =>
      exfalso
      unfold afterB at ha
      split at ha
      ·rename_i oc hoc
       simp only [Array.any_eq_true, Bool.and_eq_true, beq_iff_eq] at ha
       obtain ⟨k, hk, h1, h2⟩ := ha
       have := H.closed c oc hoc hl _ (Array.getElem_mem hk) h2
       rw [h1, hun'] at this
       cases this
      ·cases ha
    ·cases hl : listed.getD c false with
     | false => rfl
     | true =>
      exfalso
      have := anc_listed H.closed hl i (by simpa using ha)
      rw [hun'] at this
      cases this
    ·cases hl : listed.getD c false with
     | false => rfl
     | true =>
      exfalso
      have := anc_listed H.closed hl i (by simpa using hc c hcd)
      rw [hun'] at this
      cases this
   unfold wpOpIn
   simp only [ho]
   -- what is behind a step
   have step : ∀ (v : Value) (vs' : List (Option Value)) (w' : World), (∀ j u, R j u w → R j u w') → G vs' w' → (∀ d, o.dst = some d → chain.contains i = false → R i v w') →
     ((chain.contains i = false ∧ vs' = vs) ∨ (∃ p, chain[p]? = some i ∧ vs' = vs.set p (some v))) →
     wpAnyIn (fen n.r) 0 P .any ops Q fuel (listed.setIfInBounds i true) (Act.put a o.dst v) w' := by
    intro v vs' w' hle hG hRi hvs
    have hc' := count_set (l := listed) hils hun hc
    have hset : ∀ j, (listed.setIfInBounds i true).getD j false = true ↔ j = i ∨ listed.getD j false = true := by
     intro j
     by_cases hj : j = i
     ·subst hj; simp [getD_set_eq hils]
     ·rw [getD_set_ne false (Ne.symm hj)]; simp [hj]
    have hother : ∀ j k, j ≠ i → (ops[j]?).bind (·.dst) = some k → (Act.put a o.dst v).tmps.getD k undef = a.tmps.getD k undef := by
     intro j k hji hjk
     refine act_put_other (fun hd => ?_)
     have hjlt : j < ops.size := by
      rcases Nat.lt_or_ge j ops.size with h | h
      ·exact h
      ·simp [Array.getElem?_eq_none h] at hjk
     exact hji (ok.own k j hd hjlt hjk).symm
    have hself : ∀ d, (ops[i]?).bind (·.dst) = some d → (Act.put a o.dst v).tmps.getD d undef = v := by
     intro d hd
     rw [ho] at hd
     simp only [Option.bind_some] at hd
     rw [hd]
     exact act_put_self (by rw [H.kn.size]; exact ok.lt d hd)
    refine ih _ _ vs' w' hc' ⟨by simpa using H.size, H.kn.put_clear (fun k hk => clearB_look hclear (mem_dsts ho hk)) v, fun j d hjc hj hjd => ?_, fun p c hpc => ?_, fun p c d hpc hp hcd => ?_, ?_, fun j oj hoj hj e he hb => ?_, hG, fun d u hd hc => ?_⟩
    ·by_cases hji : j = i
     ·subst hji
      rw [hself d hjd]
      rw [ho] at hjd
      exact hRi d hjd hjc
     ·rw [hother j d hji hjd]
      exact hle _ _ (H.plain j d hjc (((hset j).1 hj).resolve_left hji) hjd)
    ·rw [hset]
     rcases hvs with ⟨hci, rfl⟩ | ⟨q, hq, rfl⟩
     ·have : c ≠ i := by
       rintro rfl
       have := List.mem_of_getElem? hpc
       simp [this] at hci
      exact ⟨fun h => (H.link p c hpc).1 (h.resolve_left this), fun h => .inr ((H.link p c hpc).2 h)⟩
     ·have hpl : q < vs.length := by rw [H.len]; exact (List.getElem?_eq_some_iff.1 hq).1
      by_cases hpq : p = q
      ·subst hpq
       rw [hq] at hpc
       simp only [Option.some.injEq] at hpc
       subst hpc
       exact ⟨fun _ => ⟨v, by rw [List.getElem?_set_self hpl]⟩, fun _ => .inl rfl⟩
      ·have hci : c ≠ i := by
        rintro rfl
        exact hpq ((List.getElem?_inj (List.getElem?_eq_some_iff.1 hpc).1 hnd).1 (hpc.trans hq.symm))
       rw [List.getElem?_set_ne (Ne.symm hpq)]
       exact ⟨fun h => (H.link p c hpc).1 (h.resolve_left hci), fun h => .inr ((H.link p c hpc).2 h)⟩
    ·rcases hvs with ⟨hci, rfl⟩ | ⟨q, hq, rfl⟩
     ·have hne : c ≠ i := by
       rintro rfl
       have := List.mem_of_getElem? hpc
       simp [this] at hci
      rw [hother c d hne hcd]
      exact H.vals p c d hpc (((hset c).1 hp).resolve_left hne) hcd
     ·have hpl : q < vs.length := by rw [H.len]; exact (List.getElem?_eq_some_iff.1 hq).1
      by_cases hpq : p = q
      ·subst hpq
       rw [hq] at hpc
       simp only [Option.some.injEq] at hpc
       subst hpc
       rw [hself d hcd, List.getElem?_set_self hpl]
      ·have hne : c ≠ i := by
        rintro rfl
        exact hpq ((List.getElem?_inj (List.getElem?_eq_some_iff.1 hpc).1 hnd).1 (hpc.trans hq.symm))
       rw [hother c d hne hcd, List.getElem?_set_ne (Ne.symm hpq)]
       exact H.vals p c d hpc (((hset c).1 hp).resolve_left hne) hcd
    ·rcases hvs with ⟨hci, rfl⟩ | ⟨q, hq, rfl⟩
     ·exact H.len
     ·rw [List.length_set]; exact H.len
    ·rw [hset]
     by_cases hji : j = i
     ·subst hji
      rw [ho] at hoj
      simp only [Option.some.injEq] at hoj
      subst hoj
      exact .inr (haf e he hb)
     ·exact .inr (H.closed j oj hoj (((hset j).1 hj).resolve_left hji) e he hb)
    ·have hne : o.dst ≠ some d := fun e => by
      have := hc i (by rw [ho]; exact e)
      rw [(hset i).2 (.inl rfl)] at this
      cases this
     rw [act_put_other hne]
     refine H.old d u hd fun c hcd => ?_
     cases hl : listed.getD c false with
     | false => rfl
     | true => have := hc c hcd; rw [(hset c).2 (.inr hl)] at this; cases this
   rcases hs2 with ⟨hci, β, hg, hgc, hs1, hs2⟩ | ⟨p, hp, hgn, hs2⟩
   ·have hwant : Region.wanted o (yielded ops a.tmps) = β := by
     have known : ∀ g c d b, o.guard = some (g, b) → (∀ v w, R g v w → (d = true → v = .bool c) ∧ (d = false → v = undef)) → yielded ops a.tmps g = if d then some c else none := by
      intro g c dd b hgb hv
      obtain ⟨⟨e, he, h1, h2⟩, d, hd⟩ := ok.guard g b hgb
      have hv := hv (a.tmps.getD d undef) w (H.plain g d (hgc g b hgb) (h1 ▸ haf e he h2) hd)
      have hdlt : d < a.tmps.size := by
       obtain ⟨og, hog, hgd⟩ := Option.bind_eq_some_iff.1 hd
       rw [H.kn.size]
       exact (opsB_spec hB hog).lt d hgd
      unfold yielded
      rw [hd]
      simp only [Array.getD_eq_getD_getElem?, Array.getElem?_eq_getElem hdlt, Option.getD_some] at hv
      cases dd with
      | true => simp [hdlt, hv.1 rfl]
      | false => simp [hdlt, hv.2 rfl, undef]
     cases hg with
     | none h => unfold Region.wanted; rw [h]
     | @yes g c d h hv => have := known _ _ _ _ h hv; unfold Region.wanted; rw [h]; simp only [this]; cases d <;> simp
     | @no g c d h hv => have := known _ _ _ _ h hv; unfold Region.wanted; rw [h]; simp only [this]; cases d <;> cases c <;> simp
    cases hβ : β with
    | false =>
     rw [hβ] at hwant
     simp only [hwant, Bool.false_eq_true, if_false]
     refine ⟨fun f _ => fen_fn _ f, ?_⟩
     exact step undef vs w (fun _ _ h => h) H.now (fun _ _ _ => hs1 hβ w) (.inl ⟨hci, rfl⟩)
    | true =>
     rw [hβ] at hwant
     simp only [hwant, if_true]
     refine Oper.wpIn_mono ?_ (hs2 hβ a w vs ctx)
     rintro a' w' ⟨v, rfl, hle, hG, hRi⟩
     exact step v vs w' (fun j u hj => hR j u _ _ hj hle) hG (fun _ _ _ => hRi) (.inl ⟨hci, rfl⟩)
   ·have hwant : Region.wanted o (yielded ops a.tmps) = true := by unfold Region.wanted; rw [hgn]
    have hnone : vs[p]? = some none := by
     have hp' : p < vs.length := by rw [H.len]; exact (List.getElem?_eq_some_iff.1 hp).1
     rw [List.getElem?_eq_getElem hp']
     cases hx : vs[p] with
     | none => rfl
     | some v =>
      have := (H.link p i hp).2 ⟨v, by rw [List.getElem?_eq_getElem hp', hx]⟩
      rw [hun'] at this; cases this
    simp only [hwant, if_true]
    refine Oper.wpIn_mono ?_ (hs2 a w vs ctx hnone)
    rintro a' w' ⟨v, rfl, hle, hG⟩
    have hcc : chain.contains i = true := by
     have := List.mem_of_getElem? hp
     simpa using this
    exact step v (vs.set p (some v)) w' (fun j u hj => hR j u _ _ hj hle) hG (fun _ _ h => by rw [hcc] at h; cases h) (.inr ⟨p, hp, rfl⟩)
 intro a0 w0 hk0 hke h0
 have nothing' : ∀ i, (Array.replicate ops.size false).getD i false = false := fun i => by
  by_cases h : i < ops.size <;> simp [Array.getD, h]
 refine main _ _ _ (List.replicate chain.length none) _ (by simp) ⟨by simp, hk0, fun i d _ hi => ?_, fun p c hpc => ?_, fun p c d _ hp => ?_, by simp, fun i o _ hi => ?_, h0, fun d v hd _ => hke.knows d v hd⟩
 ·rw [nothing'] at hi; cases hi
 ·rw [nothing']
  refine ⟨fun h => (by cases h), fun ⟨v, hv⟩ => ?_⟩
  have hp := (List.getElem?_eq_some_iff.1 hpc).1
  simp [hp] at hv
 ·rw [nothing'] at hp; cases hp
 ·rw [nothing'] at hi; cases hi
/-- The law: of what is known of the frame 'K0' is what the region does not write. -/
theorem WC.genH {id : Nat} {dr : Bool} {Q : Exit → Act → World → Prop} {n : Fr} {K : Known} {w : World} (chain : List Nat) (R : Nat → Value → World → Prop) (Le : World → World → Prop) (G : List (Option Value) → World → Prop) (K0 : Known)
  (hs : subK K0 K) (hclear : clearB ops K0 = true) (hm : P.follows .mixedOrders = true) (hB : opsB ops n.n = true) (hnd : chain.Nodup) (hin : (chain.all fun c => Nat.blt c ops.size) = true)
  (hR : ∀ i v w w', R i v w → Le w w' → R i v w') (h0 : G (List.replicate chain.length none) (bif dr then w.drew else w))
  (h : SoundFromH P ops Q chain R Le G n K0 K 0 ops.toList)
  (hQ : ∀ (a : Act) (w : World) (vs : List (Option Value)), Kn n K0 a → vs.length = chain.length → (∀ p, p < chain.length → ∃ v, vs[p]? = some (some v)) → G vs w → (∀ i d, (ops[i]?).bind (·.dst) = some d → chain.contains i = false → R i (a.tmps.getD d undef) w) → (∀ (p c d : Nat), chain[p]? = some c → (ops[c]?).bind (·.dst) = some d → vs[p]? = some (some (a.tmps.getD d undef))) → Q .normal a w) :
  WC P n K w (.region id ops dr) Q := by
 intro a ha
 have main := wp_any_genH (Ke := K) chain R Le G hB hnd hin hclear hR h hQ a
 cases dr with
 | true => exact wpIn_region_any hm (main _ (ha.sub hs) ha h0)
 | false => exact any_start hB (main _ (ha.sub hs) ha h0)
end
section
variable {P : Program} {ops : Array Oper} {S : Nat → Prop}
/-- That slot 'd' is not written yet. -/
def earlyB (ops : Array Oper) (i d : Nat) : Bool := (List.range ops.size).all fun c => !((ops[c]?).bind (·.dst) == some d) || (ancL ops c).contains i
theorem earlyB_of {ops : Array Oper} {i d : Nat} (h : earlyB ops i d = true) : ∀ c, (ops[c]?).bind (·.dst) = some d → (ancL ops c).contains i = true := fun c hc => by
 have hlt : c < ops.size := by
  rcases Nat.lt_or_ge c ops.size with h | h
  ·exact h
  ·simp [Array.getElem?_eq_none h] at hc
 have := List.all_eq_true.1 h c (List.mem_range.2 hlt)
 simpa [hc] using this
structure CtxA3 (ops : Array Oper) (l : List (Bool × SpS S)) (chain : List Nat) (first : Nat) (n : Fr) (K Ke : Known) (w0 : World) (i : Nat) (o : Oper) (a : Act) (w : World) : Prop extends CtxA ops l chain first n K w0 i o a w where
 old : ∀ d v, look Ke d = some v → earlyB ops i d = true → a.tmps.getD d undef = v
def Tail3 (P : Program) (ops : Array Oper) (Q : Exit → Act → World → Prop) (l : List (Bool × SpS S)) (n : Fr) (K Ke : Known) (w0 : World) (p q N : Nat) (GA : Option Addr → Nat → World → Prop) : Nat → List Oper → Prop
 | _, [] => True
 | i, o :: r => (([p, q].contains i = false ∧ ∃ β, GuardIs (optS l) o β ∧ (∀ g b, o.guard = some (g, b) → [p, q].contains g = false) ∧ (β = false → ∀ w, optS l i undef w) ∧
   (β = true → ∀ a w, CtxA3 ops l [p, q] p n K Ke w0 i o a w → o.wp P a w (fun a' w' => ∃ v, a' = Act.put a o.dst v ∧ Below w.heap.size w w' ∧ optS l i v w') Q)) ∨
  (i = p ∧ o.guard = none ∧ ∀ a w, CtxB ops l [p, q] n K w0 o a w → o.wp P a w (fun a' w' => ∃ ra rc, a' = Act.put a o.dst (.slice ra N rc) ∧ GA ra rc w' ∧ Chg S w w') Q) ∨
  (i = q ∧ o.guard = none ∧ ∃ d, depB ops o p d = true ∧ o.op = .assign (.tmp d))) ∧ Tail3 P ops Q l n K Ke w0 p q N GA (i + 1) r
def G3 (S : Nat → Prop) (w0 : World) (N : Nat) (GA : Option Addr → Nat → World → Prop) : List (Option Value) → World → Prop
 | [none, none], w => Below w0.heap.size w0 w
 | [some v, none], w => ∃ ra rc, v = .slice ra N rc ∧ GA ra rc w ∧ Chg S w0 w
 | [some v, some u], w => ∃ ra rc, v = .slice ra N rc ∧ u = .slice ra N rc ∧ GA ra rc w ∧ Chg S w0 w
 | _, _ => False
theorem G3.chg {w0 w : World} {N : Nat} {GA : Option Addr → Nat → World → Prop} : ∀ {vs : List (Option Value)}, G3 S w0 N GA vs w → Chg S w0 w
 | [none, none], h => .ofBelow h
 | [some _, none], h => by obtain ⟨_, _, _, _, h⟩ := h; exact h
 | [some _, some _], h => by obtain ⟨_, _, _, _, _, h⟩ := h; exact h
 | [none, some _], h => h.elim
 | [], h => h.elim
 | [x], h => by cases x <;> exact h.elim
 | _ :: _ :: _ :: _, h => by simp [G3] at h
theorem Tail3.gen {Q : Exit → Act → World → Prop} {l : List (Bool × SpS S)} {n : Fr} {K Ke : Known} {w0 : World} {p q N : Nat} {GA : Option Addr → Nat → World → Prop} (hpq : p ≠ q) (hGA : ∀ ra rc w w', Below w.heap.size w w' → GA ra rc w → GA ra rc w') : ∀ {lo : List Oper} {i : Nat}, Tail3 P ops Q l n K Ke w0 p q N GA i lo →
  SoundFromH P ops Q [p, q] (optS l) (Chg S) (G3 S w0 N GA) n K Ke i lo
 | [], _, _ => trivial
 | o :: r, i, ⟨h, hr⟩ => by
  refine ⟨?_, hr.gen hpq hGA⟩
  rcases h with ⟨hi, β, h1, h2, h3, h4⟩ | ⟨rfl, hg, h4⟩ | ⟨rfl, hg, d, hd, ho⟩
  ·refine .inl ⟨hi, β, h1, h2, h3, fun hβ a w vs C => ?_⟩
   refine Oper.wpIn_mono ?_ (wpIn_of (h4 hβ a w ⟨⟨C.now.chg, C.kn, C.dep, fun he => ?_⟩, fun d v hd hb => C.old d v hd (earlyB_of hb)⟩) (by rintro a' w' ⟨v, rfl, _⟩; exact put_defers _ _ _))
   ·rintro a' w' ⟨v, rfl, hb, hR⟩
    refine ⟨v, rfl, .ofBelow hb, ?_, hR⟩
    match vs, C.len, C.now with
    | [none, none], _, h => exact bstep h hb
    | [some _, none], _, ⟨ra, rc, e, h, hc⟩ => exact ⟨ra, rc, e, hGA _ _ _ _ hb h, hc.trans (.ofBelow hb)⟩
    | [some _, some _], _, ⟨ra, rc, e, e2, h, hc⟩ => exact ⟨ra, rc, e, e2, hGA _ _ _ _ hb h, hc.trans (.ofBelow hb)⟩
    | [none, some _], _, h => exact h.elim
   ·have := C.mostT 0 p rfl he
    match vs, C.len, C.now, this with
    | [none, none], _, h, _ => exact h
    | [none, some _], _, h, _ => exact h.elim
  ·refine .inr ⟨0, rfl, hg, fun a w vs C hn => ?_⟩
   match vs, C.len, C.now, hn, C with
   | [none, none], _, h, _, C =>
    refine Oper.wpIn_mono ?_ (wpIn_of (h4 a w ⟨h, C.kn, C.dep⟩) (by rintro a' w' ⟨_, _, rfl, _⟩; exact put_defers _ _ _))
    rintro a' w' ⟨ra, rc, rfl, hG, hc⟩
    exact ⟨_, rfl, hc, ra, rc, rfl, hG, (Chg.ofBelow h).trans hc⟩
   | [none, some _], _, h, _, _ => exact h.elim
  ·refine .inr ⟨1, rfl, hg, fun a w vs C hn => ?_⟩
   have hl := C.link 0 p d rfl hd
   match vs, C.len, C.now, hn, hl, C with
   | [some v, none], _, ⟨ra, rc, e, h, hc⟩, _, hl, C =>
    have hv : v = a.tmps.getD d undef := by simpa using hl
    refine Oper.wpIn_mono ?_ (wpIn_of (K := fun a' w' => a' = Act.put a o.dst (.slice ra N rc) ∧ w' = w) (wp_assign ho (show a.tmps.getD d undef = .slice ra N rc from (hv ▸ e)) ⟨rfl, rfl⟩) (by rintro a' w' ⟨rfl, _⟩; exact put_defers _ _ _))
    rintro a' w' ⟨rfl, rfl⟩
    exact ⟨_, rfl, .refl _ _, ra, rc, e, rfl, h, hc⟩
theorem WC.tail3 {id : Nat} {dr : Bool} {Q : Exit → Act → World → Prop} {n : Fr} {K : Known} {w : World} (l : List (Bool × SpS S)) (K0 : Known) (p q N dp dq : Nat) (GA : Option Addr → Nat → World → Prop) (hpq : p ≠ q) (hGA : ∀ ra rc w w', Below w.heap.size w w' → GA ra rc w → GA ra rc w')
  (hs : subK K0 K) (hclear : clearB ops K0 = true) (hm : P.follows .mixedOrders = true) (hB : opsB ops n.n = true) (hin : ([p, q].all fun c => Nat.blt c ops.size) = true) (hdp : (ops[p]?).bind (·.dst) = some dp) (hdq : (ops[q]?).bind (·.dst) = some dq)
  (h : Tail3 P ops Q l n K0 K w p q N GA 0 ops.toList)
  (hQ : ∀ (a : Act) (w' : World) (ra : Option Addr) (rc : Nat), Kn n K0 a → a.tmps.getD dp undef = .slice ra N rc → a.tmps.getD dq undef = .slice ra N rc → GA ra rc w' → Chg S w w' → (∀ i d, (ops[i]?).bind (·.dst) = some d → [p, q].contains i = false → optS l i (a.tmps.getD d undef) w') → Q .normal a w') :
  WC P n K w (.region id ops dr) Q := by
 refine WC.genH [p, q] (optS l) (Chg S) (G3 S w N GA) K0 hs hclear hm hB (by simpa using hpq) hin (optSKeep l) ?_ (h.gen hpq hGA) (fun a w' vs hk hlen hall hG hu hl => ?_)
 ·cases dr with
  | true => exact (Below.refl _ _).drew
  | false => exact Below.refl _ _
 ·obtain ⟨v, hv⟩ := hall 0 (by simp)
  obtain ⟨u, hu1⟩ := hall 1 (by simp)
  have hx := hl 0 p dp rfl hdp
  have hx2 := hl 1 q dq rfl hdq
  match vs, hlen, hv, hu1, hx, hx2, hG with
  | [some y, some z], _, _, _, hx, hx2, ⟨ra, rc, e, e2, hG, hc⟩ =>
   have hy : y = a.tmps.getD dp undef := by simpa using hx
   have hz : z = a.tmps.getD dq undef := by simpa using hx2
   exact hQ a w' ra rc hk (hy ▸ e) (hz ▸ e2) hG hc hu
end
end Go.Proofs.Ytibncmnmjhimeaa

/- Regions in whatever order, in which operations that change the memory may be guarded: one behind the other, each with what it yields. -/
namespace Go.Proofs.Ytibncmnmjhimeaa
open Go.RowKit Go
set_option linter.unusedVariables false
set_option linter.unusedSimpArgs false
section
variable {P : Program} {ops : Array Oper}
structure CtxQ (ops : Array Oper) (chain : List Nat) (R : Nat → Value → World → Prop) (G : List (Option Value) → World → Prop) (n : Fr) (K Ke : Known) (i : Nat) (o : Oper) (a : Act) (w : World) (vs : List (Option Value)) : Prop extends CtxH ops chain R G n K Ke i o a w vs where
 anc : ∀ (p c : Nat), chain[p]? = some c → o.after.any (fun e => Region.binds .any e && (ancL ops e.on).contains c) = true → ∃ v, vs[p]? = some (some v)
def SoundQ (P : Program) (ops : Array Oper) (Q : Exit → Act → World → Prop) (chain : List Nat) (R : Nat → Value → World → Prop) (Le : World → World → Prop) (G : List (Option Value) → World → Prop) (n : Fr) (K Ke : Known) (i : Nat) (o : Oper) : Prop :=
 (chain.contains i = false ∧ ∃ β, GuardIs R o β ∧ (∀ g b, o.guard = some (g, b) → chain.contains g = false) ∧ (β = false → ∀ w, R i undef w) ∧
  (β = true → ∀ (a : Act) (w : World) (vs : List (Option Value)), CtxQ ops chain R G n K Ke i o a w vs →
   o.wpIn (fen n.r) 0 P a w (fun a' w' => ∃ v, a' = Act.put a o.dst v ∧ Le w w' ∧ G vs w' ∧ R i v w') Q)) ∨
 (∃ p, chain[p]? = some i ∧ ∃ β, GuardIs R o β ∧ (∀ g b, o.guard = some (g, b) → chain.contains g = false) ∧
  (β = false → ∀ (a : Act) (w : World) (vs : List (Option Value)), CtxQ ops chain R G n K Ke i o a w vs → vs[p]? = some none → G (vs.set p (some undef)) w) ∧
  (β = true → ∀ (a : Act) (w : World) (vs : List (Option Value)), CtxQ ops chain R G n K Ke i o a w vs → vs[p]? = some none →
   o.wpIn (fen n.r) 0 P a w (fun a' w' => ∃ v, a' = Act.put a o.dst v ∧ Le w w' ∧ G (vs.set p (some v)) w') Q))
def SoundFromQ (P : Program) (ops : Array Oper) (Q : Exit → Act → World → Prop) (chain : List Nat) (R : Nat → Value → World → Prop) (Le : World → World → Prop) (G : List (Option Value) → World → Prop) (n : Fr) (K Ke : Known) : Nat → List Oper → Prop
 | _, [] => True
 | k, o :: r => SoundQ P ops Q chain R Le G n K Ke k o ∧ SoundFromQ P ops Q chain R Le G n K Ke (k + 1) r
theorem SoundFromQ.at_ {Q : Exit → Act → World → Prop} {chain : List Nat} {R : Nat → Value → World → Prop} {Le : World → World → Prop} {G : List (Option Value) → World → Prop} {n : Fr} {K Ke : Known} : ∀ {l : List Oper} {k : Nat}, SoundFromQ P ops Q chain R Le G n K Ke k l → ∀ i o, l[i]? = some o → SoundQ P ops Q chain R Le G n K Ke (k + i) o
 | [], _, _, i, o, h => by simp at h
 | x :: r, k, h, 0, o, ho => by simp at ho; subst ho; exact h.1
 | x :: r, k, h, i + 1, o, ho => by
  have := h.2.at_ i o (by simpa using ho)
  rwa [show k + 1 + i = k + (i + 1) by omega] at this
theorem wp_any_genQ {Q : Exit → Act → World → Prop} {n : Fr} {K Ke : Known} (chain : List Nat) (R : Nat → Value → World → Prop) (Le : World → World → Prop) (G : List (Option Value) → World → Prop)
  (hB : opsB ops n.n = true) (hnd : chain.Nodup) (hin : (chain.all fun c => Nat.blt c ops.size) = true) (hclear : clearB ops K = true)
  (hR : ∀ i v w w', R i v w → Le w w' → R i v w')
  (h : SoundFromQ P ops Q chain R Le G n K Ke 0 ops.toList)
  (hQ : ∀ (a : Act) (w : World) (vs : List (Option Value)), Kn n K a → vs.length = chain.length → (∀ p, p < chain.length → ∃ v, vs[p]? = some (some v)) → G vs w → (∀ i d, (ops[i]?).bind (·.dst) = some d → chain.contains i = false → R i (a.tmps.getD d undef) w) → (∀ (p c d : Nat), chain[p]? = some c → (ops[c]?).bind (·.dst) = some d → vs[p]? = some (some (a.tmps.getD d undef))) → Q .normal a w) :
  ∀ (a0 : Act) (w0 : World), Kn n K a0 → Kn n Ke a0 → G (List.replicate chain.length none) w0 → wpAnyIn (fen n.r) 0 P .any ops Q ops.size (Array.replicate ops.size false) a0 w0 := by
 have main : ∀ (fuel : Nat) (listed : Array Bool) (a : Act) (vs : List (Option Value)) (w : World), listed.toList.count false ≤ fuel → AtH ops chain R G n K Ke listed a vs w →
   wpAnyIn (fen n.r) 0 P .any ops Q fuel listed a w := by
  intro fuel
  have done : ∀ (listed : Array Bool) (a : Act) (vs : List (Option Value)) (w : World), Region.ready .any ops listed = [] → AtH ops chain R G n K Ke listed a vs w → Q .normal a w := by
   intro listed a vs w hr H
   have all : ∀ i, i < ops.size → listed.getD i false = true := fun i hi => by
    have := ready_nil hB H.size hr i hi
    have hs := H.size
    simpa [Array.getD, show i < listed.size by omega] using this
   have hin' : ∀ p c, chain[p]? = some c → c < ops.size := fun p c hc => by
    have := List.all_eq_true.1 hin _ (List.mem_of_getElem? hc)
    simpa [Nat.blt_eq] using this
   have lt_of : ∀ i d, (ops[i]?).bind (·.dst) = some d → i < ops.size := fun i d hd => by
    rcases Nat.lt_or_ge i ops.size with h | h
    ·exact h
    ·simp [Array.getElem?_eq_none h] at hd
   exact hQ a w vs H.kn H.len (fun p hp => (H.link p chain[p] (by simp [hp])).1 (all _ (hin' p _ (by simp [hp])))) H.now (fun i d hd hc => H.plain i d hc (all i (lt_of i d hd)) hd) (fun p c d hc hd => H.vals p c d hc (all c (hin' p c hc)) hd)
  induction fuel with
  | zero =>
   intro listed a vs w hc H
   have hr : Region.ready .any ops listed = [] := by
    cases hr : Region.ready .any ops listed with
    | nil => rfl
    | cons i r =>
     have := (mem_ready (md := .any) (ops := ops) (j := i) (listed := listed)).1 (by rw [hr]; simp)
     rw [count_zero hc i] at this
     simp at this
   exact ⟨hr, done listed a vs w hr H⟩
  | succ fuel ih =>
   intro listed a vs w hc H
   refine ⟨fun hr => done listed a vs w hr H, fun i hi => ?_⟩
   obtain ⟨hun, o, ho, haf⟩ := mem_ready.1 hi
   have hilt : i < ops.size := by
    rcases Nat.lt_or_ge i ops.size with h | h
    ·exact h
    ·simp [Array.getElem?_eq_none h] at ho
   have hils : i < listed.size := by have := H.size; omega
   have hun' := getD_false_of hun
   have ok := opsB_spec hB ho
   have hs2 := h.at_ i o (by simpa using ho)
   rw [Nat.zero_add] at hs2
   have after_of : ∀ j d, depB ops o j d = true → listed.getD j false = true ∧ (ops[j]?).bind (·.dst) = some d := by
    intro j d hj
    simp only [depB, Bool.and_eq_true, Array.any_eq_true, beq_iff_eq] at hj
    obtain ⟨⟨k, hk, h1, h2⟩, h3⟩ := hj
    exact ⟨h1 ▸ haf _ (Array.getElem_mem hk) h2, h3⟩
   have ctx : CtxH ops chain R G n K Ke i o a w vs := by
    have opt : ∀ p c, chain[p]? = some c → listed.getD c false = false → vs[p]? = some none := fun p c hc hl => by
     have hp : p < vs.length := by rw [H.len]; exact (List.getElem?_eq_some_iff.1 hc).1
     rw [List.getElem?_eq_getElem hp]
     cases hx : vs[p] with
     | none => rfl
     | some v =>
      have := (H.link p c hc).2 ⟨v, by rw [List.getElem?_eq_getElem hp, hx]⟩
      rw [hl] at this; cases this
    refine ⟨H.now, H.kn, fun j d hj hc => H.plain j d hc (after_of j d hj).1 (after_of j d hj).2, H.len, fun p c d hc hj => H.vals p c d hc (after_of c d hj).1 (after_of c d hj).2, fun p c hc ha => ?_, fun p c hc ha => opt p c hc ?_, fun p c hc ha => opt p c hc ?_, fun d v hd hc => H.old d v hd fun c hcd => ?_⟩
    ·simp only [Array.any_eq_true, Bool.and_eq_true, beq_iff_eq] at ha
     obtain ⟨k, hk, h1, h2⟩ := ha
     exact (H.link p c hc).1 (h1 ▸ haf _ (Array.getElem_mem hk) h2)
    ·cases hl : listed.getD c false with
     | false => rfl
     | true =>
      exfalso
      unfold afterB at ha
      split at ha
      ·rename_i oc hoc
       simp only [Array.any_eq_true, Bool.and_eq_true, beq_iff_eq] at ha
       obtain ⟨k, hk, h1, h2⟩ := ha
       have := H.closed c oc hoc hl _ (Array.getElem_mem hk) h2
       rw [h1, hun'] at this
       cases this
      ·cases ha
    ·cases hl : listed.getD c false with
     | false => rfl
     | true =>
      exfalso
      have := anc_listed H.closed hl i (by simpa using ha)
      rw [hun'] at this
      cases this
    ·cases hl : listed.getD c false with
     | false => rfl
     | true =>
      exfalso
      have := anc_listed H.closed hl i (by simpa using hc c hcd)
      rw [hun'] at this
      cases this
   have ctxQ : CtxQ ops chain R G n K Ke i o a w vs := ⟨ctx, fun p c hc ha => by
    simp only [Array.any_eq_true, Bool.and_eq_true] at ha
    obtain ⟨k, hk, h1, h2⟩ := ha
    exact (H.link p c hc).1 (anc_listed H.closed (haf _ (Array.getElem_mem hk) h1) c (by simpa using h2))⟩
   unfold wpOpIn
   simp only [ho]
   -- what is behind a step
   have step : ∀ (v : Value) (vs' : List (Option Value)) (w' : World), (∀ j u, R j u w → R j u w') → G vs' w' → (∀ d, o.dst = some d → chain.contains i = false → R i v w') →
     ((chain.contains i = false ∧ vs' = vs) ∨ (∃ p, chain[p]? = some i ∧ vs' = vs.set p (some v))) →
     wpAnyIn (fen n.r) 0 P .any ops Q fuel (listed.setIfInBounds i true) (Act.put a o.dst v) w' := by
    intro v vs' w' hle hG hRi hvs
    have hc' := count_set (l := listed) hils hun hc
    have hset : ∀ j, (listed.setIfInBounds i true).getD j false = true ↔ j = i ∨ listed.getD j false = true := by
     intro j
     by_cases hj : j = i
     ·subst hj; simp [getD_set_eq hils]
     ·rw [getD_set_ne false (Ne.symm hj)]; simp [hj]
    have hother : ∀ j k, j ≠ i → (ops[j]?).bind (·.dst) = some k → (Act.put a o.dst v).tmps.getD k undef = a.tmps.getD k undef := by
     intro j k hji hjk
     refine act_put_other (fun hd => ?_)
     have hjlt : j < ops.size := by
      rcases Nat.lt_or_ge j ops.size with h | h
      ·exact h
      ·simp [Array.getElem?_eq_none h] at hjk
     exact hji (ok.own k j hd hjlt hjk).symm
    have hself : ∀ d, (ops[i]?).bind (·.dst) = some d → (Act.put a o.dst v).tmps.getD d undef = v := by
     intro d hd
     rw [ho] at hd
     simp only [Option.bind_some] at hd
     rw [hd]
     exact act_put_self (by rw [H.kn.size]; exact ok.lt d hd)
    refine ih _ _ vs' w' hc' ⟨by simpa using H.size, H.kn.put_clear (fun k hk => clearB_look hclear (mem_dsts ho hk)) v, fun j d hjc hj hjd => ?_, fun p c hpc => ?_, fun p c d hpc hp hcd => ?_, ?_, fun j oj hoj hj e he hb => ?_, hG, fun d u hd hc => ?_⟩
    ·by_cases hji : j = i
     ·subst hji
      rw [hself d hjd]
      rw [ho] at hjd
      exact hRi d hjd hjc
     ·rw [hother j d hji hjd]
      exact hle _ _ (H.plain j d hjc (((hset j).1 hj).resolve_left hji) hjd)
    ·rw [hset]
     rcases hvs with ⟨hci, rfl⟩ | ⟨q, hq, rfl⟩
     ·have : c ≠ i := by
       rintro rfl
       have := List.mem_of_getElem? hpc
       simp [this] at hci
      exact ⟨fun h => (H.link p c hpc).1 (h.resolve_left this), fun h => .inr ((H.link p c hpc).2 h)⟩
     ·have hpl : q < vs.length := by rw [H.len]; exact (List.getElem?_eq_some_iff.1 hq).1
      by_cases hpq : p = q
      ·subst hpq
       rw [hq] at hpc
       simp only [Option.some.injEq] at hpc
       subst hpc
       exact ⟨fun _ => ⟨v, by rw [List.getElem?_set_self hpl]⟩, fun _ => .inl rfl⟩
      ·have hci : c ≠ i := by
        rintro rfl
        exact hpq ((List.getElem?_inj (List.getElem?_eq_some_iff.1 hpc).1 hnd).1 (hpc.trans hq.symm))
       rw [List.getElem?_set_ne (Ne.symm hpq)]
       exact ⟨fun h => (H.link p c hpc).1 (h.resolve_left hci), fun h => .inr ((H.link p c hpc).2 h)⟩
    ·rcases hvs with ⟨hci, rfl⟩ | ⟨q, hq, rfl⟩
     ·have hne : c ≠ i := by
       rintro rfl
       have := List.mem_of_getElem? hpc
       simp [this] at hci
      rw [hother c d hne hcd]
      exact H.vals p c d hpc (((hset c).1 hp).resolve_left hne) hcd
     ·have hpl : q < vs.length := by rw [H.len]; exact (List.getElem?_eq_some_iff.1 hq).1
      by_cases hpq : p = q
      ·subst hpq
       rw [hq] at hpc
       simp only [Option.some.injEq] at hpc
       subst hpc
       rw [hself d hcd, List.getElem?_set_self hpl]
      ·have hne : c ≠ i := by
        rintro rfl
        exact hpq ((List.getElem?_inj (List.getElem?_eq_some_iff.1 hpc).1 hnd).1 (hpc.trans hq.symm))
       rw [hother c d hne hcd, List.getElem?_set_ne (Ne.symm hpq)]
       exact H.vals p c d hpc (((hset c).1 hp).resolve_left hne) hcd
    ·rcases hvs with ⟨hci, rfl⟩ | ⟨q, hq, rfl⟩
     ·exact H.len
     ·rw [List.length_set]; exact H.len
    ·rw [hset]
     by_cases hji : j = i
     ·subst hji
      rw [ho] at hoj
      simp only [Option.some.injEq] at hoj
      subst hoj
      exact .inr (haf e he hb)
     ·exact .inr (H.closed j oj hoj (((hset j).1 hj).resolve_left hji) e he hb)
    ·have hne : o.dst ≠ some d := fun e => by
      have := hc i (by rw [ho]; exact e)
      rw [(hset i).2 (.inl rfl)] at this
      cases this
     rw [act_put_other hne]
     refine H.old d u hd fun c hcd => ?_
     cases hl : listed.getD c false with
     | false => rfl
     | true => have := hc c hcd; rw [(hset c).2 (.inr hl)] at this; cases this
   have known : ∀ {β : Bool}, GuardIs R o β → (∀ g b, o.guard = some (g, b) → chain.contains g = false) → Region.wanted o (yielded ops a.tmps) = β := by
    intro β hg hgc
    have known : ∀ g c d b, o.guard = some (g, b) → (∀ v w, R g v w → (d = true → v = .bool c) ∧ (d = false → v = undef)) → yielded ops a.tmps g = if d then some c else none := by
     intro g c dd b hgb hv
     obtain ⟨⟨e, he, h1, h2⟩, d, hd⟩ := ok.guard g b hgb
     have hv := hv (a.tmps.getD d undef) w (H.plain g d (hgc g b hgb) (h1 ▸ haf e he h2) hd)
     have hdlt : d < a.tmps.size := by
      obtain ⟨og, hog, hgd⟩ := Option.bind_eq_some_iff.1 hd
      rw [H.kn.size]
      exact (opsB_spec hB hog).lt d hgd
     unfold yielded
     rw [hd]
     simp only [Array.getD_eq_getD_getElem?, Array.getElem?_eq_getElem hdlt, Option.getD_some] at hv
     cases dd with
     | true => simp [hdlt, hv.1 rfl]
     | false => simp [hdlt, hv.2 rfl, undef]
    cases hg with
    | none h => unfold Region.wanted; rw [h]
    | @yes g c d h hv => have := known _ _ _ _ h hv; unfold Region.wanted; rw [h]; simp only [this]; cases d <;> simp
    | @no g c d h hv => have := known _ _ _ _ h hv; unfold Region.wanted; rw [h]; simp only [this]; cases d <;> cases c <;> simp
   rcases hs2 with ⟨hci, β, hg, hgc, hs1, hs2⟩ | ⟨p, hp, β, hg, hgc, hs1, hs2⟩
   ·have hwant := known hg hgc
    cases hβ : β with
    | false =>
     rw [hβ] at hwant
     simp only [hwant, Bool.false_eq_true, if_false]
     refine ⟨fun f _ => fen_fn _ f, ?_⟩
     exact step undef vs w (fun _ _ h => h) H.now (fun _ _ _ => hs1 hβ w) (.inl ⟨hci, rfl⟩)
    | true =>
     rw [hβ] at hwant
     simp only [hwant, if_true]
     refine Oper.wpIn_mono ?_ (hs2 hβ a w vs ctxQ)
     rintro a' w' ⟨v, rfl, hle, hG, hRi⟩
     exact step v vs w' (fun j u hj => hR j u _ _ hj hle) hG (fun _ _ _ => hRi) (.inl ⟨hci, rfl⟩)
   ·have hwant := known hg hgc
    have hnone : vs[p]? = some none := by
     have hp' : p < vs.length := by rw [H.len]; exact (List.getElem?_eq_some_iff.1 hp).1
     rw [List.getElem?_eq_getElem hp']
     cases hx : vs[p] with
     | none => rfl
     | some v =>
      have := (H.link p i hp).2 ⟨v, by rw [List.getElem?_eq_getElem hp', hx]⟩
      rw [hun'] at this; cases this
    have hcc : chain.contains i = true := by
     have := List.mem_of_getElem? hp
     simpa using this
    cases hβ : β with
    | false =>
     rw [hβ] at hwant
     simp only [hwant, Bool.false_eq_true, if_false]
     refine ⟨fun f _ => fen_fn _ f, ?_⟩
     exact step undef (vs.set p (some undef)) w (fun _ _ h => h) (hs1 hβ a w vs ctxQ hnone) (fun _ _ h => by rw [hcc] at h; cases h) (.inr ⟨p, hp, rfl⟩)
    | true =>
     rw [hβ] at hwant
     simp only [hwant, if_true]
     refine Oper.wpIn_mono ?_ (hs2 hβ a w vs ctxQ hnone)
     rintro a' w' ⟨v, rfl, hle, hG⟩
     exact step v (vs.set p (some v)) w' (fun j u hj => hR j u _ _ hj hle) hG (fun _ _ h => by rw [hcc] at h; cases h) (.inr ⟨p, hp, rfl⟩)
 intro a0 w0 hk0 hke h0
 have nothing' : ∀ i, (Array.replicate ops.size false).getD i false = false := fun i => by
  by_cases h : i < ops.size <;> simp [Array.getD, h]
 refine main _ _ _ (List.replicate chain.length none) _ (by simp) ⟨by simp, hk0, fun i d _ hi => ?_, fun p c hpc => ?_, fun p c d _ hp => ?_, by simp, fun i o _ hi => ?_, h0, fun d v hd _ => hke.knows d v hd⟩
 ·rw [nothing'] at hi; cases hi
 ·rw [nothing']
  refine ⟨fun h => (by cases h), fun ⟨v, hv⟩ => ?_⟩
  have hp := (List.getElem?_eq_some_iff.1 hpc).1
  simp [hp] at hv
 ·rw [nothing'] at hp; cases hp
 ·rw [nothing'] at hi; cases hi
theorem WC.genQ {id : Nat} {dr : Bool} {Q : Exit → Act → World → Prop} {n : Fr} {K : Known} {w : World} (chain : List Nat) (R : Nat → Value → World → Prop) (Le : World → World → Prop) (G : List (Option Value) → World → Prop) (K0 : Known)
  (hs : subK K0 K) (hclear : clearB ops K0 = true) (hm : P.follows .mixedOrders = true) (hB : opsB ops n.n = true) (hnd : chain.Nodup) (hin : (chain.all fun c => Nat.blt c ops.size) = true)
  (hR : ∀ i v w w', R i v w → Le w w' → R i v w') (h0 : G (List.replicate chain.length none) (bif dr then w.drew else w))
  (h : SoundFromQ P ops Q chain R Le G n K0 K 0 ops.toList)
  (hQ : ∀ (a : Act) (w : World) (vs : List (Option Value)), Kn n K0 a → vs.length = chain.length → (∀ p, p < chain.length → ∃ v, vs[p]? = some (some v)) → G vs w → (∀ i d, (ops[i]?).bind (·.dst) = some d → chain.contains i = false → R i (a.tmps.getD d undef) w) → (∀ (p c d : Nat), chain[p]? = some c → (ops[c]?).bind (·.dst) = some d → vs[p]? = some (some (a.tmps.getD d undef))) → Q .normal a w) :
  WC P n K w (.region id ops dr) Q := by
 intro a ha
 have main := wp_any_genQ (Ke := K) chain R Le G hB hnd hin hclear hR h hQ a
 cases dr with
 | true => exact wpIn_region_any hm (main _ (ha.sub hs) ha h0)
 | false => exact any_start hB (main _ (ha.sub hs) ha h0)
/-! ### Values that are told -/
/-- Which of the operations of the chain are done, and what they have yielded. -/
def Vals (vals : List Value) (m : Nat) : List (Option Value) := vals.map some ++ List.replicate (m - vals.length) none
variable {S : Nat → Prop}
def GH (S : Nat → Prop) (w0 : World) (m : Nat) (cv : List (Option (Bool × Value))) (GV : List Value → World → Prop) (vs : List (Option Value)) (w : World) : Prop :=
 ∃ vals, vals.length ≤ m ∧ vs = Vals vals m ∧ GV vals w ∧ Chg S w0 w ∧ ∀ (q : Nat) b x, cv[q]? = some (some (b, x)) → b = true → ∀ v, vals[q]? = some v → v = x
theorem vals_some {vals : List Value} {m q : Nat} {v : Value} (h : (Vals vals m)[q]? = some (some v)) : vals[q]? = some v := by
 unfold Vals at h
 rcases Nat.lt_or_ge q vals.length with hq | hq
 ·rw [List.getElem?_append_left (by simpa using hq), List.getElem?_map, List.getElem?_eq_getElem hq] at h
  rw [List.getElem?_eq_getElem hq]; simpa using h
 ·rw [List.getElem?_append_right (by simpa using hq), List.getElem?_replicate] at h
  split at h
  ·cases h
  ·cases h
theorem vals_none {vals : List Value} {m q : Nat} (h : (Vals vals m)[q]? = some none) : vals.length ≤ q := by
 unfold Vals at h
 rcases Nat.lt_or_ge q vals.length with hq | hq
 ·rw [List.getElem?_append_left (by simpa using hq), List.getElem?_map, List.getElem?_eq_getElem hq] at h
  cases h
 ·exact hq
theorem vals_set {vals : List Value} {m : Nat} {v : Value} (h : vals.length < m) : (Vals vals m).set vals.length (some v) = Vals (vals ++ [v]) m := by
 unfold Vals
 rw [List.set_append_right _ _ (by simp), List.map_append, List.length_append, List.append_assoc]
 congr 1
 obtain ⟨k, hk⟩ : ∃ k, m - vals.length = k + 1 := ⟨m - vals.length - 1, by omega⟩
 rw [hk, List.replicate_succ, List.length_map, Nat.sub_self, List.set_cons_zero, show m - (vals.length + [v].length) = k by simp; omega]
 rfl
/-- What an operation finds: 'l' says what the others yield, 'cv' what those of the chain do; 'early': where it must come ahead of an operation of the chain. -/
structure CtxV (ops : Array Oper) (S : Nat → Prop) (l : List (Bool × SpS S)) (chain : List Nat) (cv : List (Option (Bool × Value))) (GV : List Value → World → Prop) (n : Fr) (K Ke : Known) (w0 : World) (i : Nat) (o : Oper) (a : Act) (w : World) : Prop where
 chg : Chg S w0 w
 kn : Kn n K a
 dep : ∀ j d, depB ops o j d = true → chain.contains j = false → optS l j (a.tmps.getD d undef) w
 link : ∀ (q c d : Nat) (b : Bool) (x : Value), chain[q]? = some c → depB ops o c d = true → cv[q]? = some (some (b, x)) → b = true → a.tmps.getD d undef = x
 old : ∀ d v, look Ke d = some v → earlyB ops i d = true → a.tmps.getD d undef = v
 early : ∀ (q c : Nat), chain[q]? = some c → (ancL ops c).contains i = true → ∃ vals, vals.length ≤ q ∧ GV vals w ∧ ∀ (q' c' d : Nat), chain[q']? = some c' → depB ops o c' d = true → vals[q']? = some (a.tmps.getD d undef)
/-- .. and an operation of the chain: what was yielded before it. -/
structure CtxW (ops : Array Oper) (S : Nat → Prop) (l : List (Bool × SpS S)) (chain : List Nat) (cv : List (Option (Bool × Value))) (GV : List Value → World → Prop) (n : Fr) (K Ke : Known) (w0 : World) (i p : Nat) (o : Oper) (a : Act) (w : World) (vals : List Value) : Prop extends CtxV ops S l chain cv GV n K Ke w0 i o a w where
 len : vals.length = p
 now : GV vals w
 val : ∀ (q c d : Nat), chain[q]? = some c → depB ops o c d = true → vals[q]? = some (a.tmps.getD d undef)
/-- That the operation 'o' comes behind the one ahead of it in the chain. -/
def behind (ops : Array Oper) (chain : List Nat) (p : Nat) (o : Oper) : Bool := match p with | 0 => true | p + 1 => match chain[p]? with | some c => o.after.any (fun e => Region.binds .any e && (ancL ops e.on).contains c) | none => false
def SeqV (P : Program) (ops : Array Oper) (Q : Exit → Act → World → Prop) (l : List (Bool × SpS S)) (chain : List Nat) (cv : List (Option (Bool × Value))) (GV : List Value → World → Prop) (n : Fr) (K Ke : Known) (w0 : World) : Nat → List Oper → Prop
 | _, [] => True
 | i, o :: r => ((chain.contains i = false ∧ ∃ β, GuardIs (optS l) o β ∧ (∀ g b, o.guard = some (g, b) → chain.contains g = false) ∧ (β = false → ∀ w, optS l i undef w) ∧
   (β = true → ∀ a w, CtxV ops S l chain cv GV n K Ke w0 i o a w → o.wp P a w (fun a' w' => ∃ v, a' = Act.put a o.dst v ∧ Below w.heap.size w w' ∧ optS l i v w') Q)) ∨
  (∃ p, chain[p]? = some i ∧ behind ops chain p o = true ∧ ∃ β, GuardIs (optS l) o β ∧ (∀ g b, o.guard = some (g, b) → chain.contains g = false) ∧
   (β = false → ∀ w vals, vals.length = p → GV vals w → GV (vals ++ [undef]) w ∧ ∀ b x, cv[p]? = some (some (b, x)) → b = true → undef = x) ∧
   (β = true → ∀ a w vals, CtxW ops S l chain cv GV n K Ke w0 i p o a w vals → o.wp P a w (fun a' w' => ∃ v, a' = Act.put a o.dst v ∧ Chg S w w' ∧ GV (vals ++ [v]) w' ∧ ∀ b x, cv[p]? = some (some (b, x)) → b = true → v = x) Q))) ∧ SeqV P ops Q l chain cv GV n K Ke w0 (i + 1) r
theorem cv_snoc {cv : List (Option (Bool × Value))} {vals : List Value} {v : Value} (h : ∀ (q : Nat) b x, cv[q]? = some (some (b, x)) → b = true → ∀ v, vals[q]? = some v → v = x) (hv : ∀ b x, cv[vals.length]? = some (some (b, x)) → b = true → v = x) : ∀ (q : Nat) b x, cv[q]? = some (some (b, x)) → b = true → ∀ u, (vals ++ [v])[q]? = some u → u = x := by
 intro q b x hq hb u hu
 rcases Nat.lt_trichotomy q vals.length with c | c | c
 ·rw [List.getElem?_append_left c] at hu; exact h q b x hq hb u hu
 ·subst c
  rw [List.getElem?_append_right (Nat.le_refl _), Nat.sub_self] at hu
  have : v = u := by simpa using hu
  rw [← this]; exact hv b x hq hb
 ·rw [List.getElem?_append_right (by omega)] at hu
  obtain ⟨k, hk⟩ : ∃ k, q - vals.length = k + 1 := ⟨q - vals.length - 1, by omega⟩
  rw [hk] at hu; cases hu
theorem SeqV.gen {Q : Exit → Act → World → Prop} {l : List (Bool × SpS S)} {chain : List Nat} {cv : List (Option (Bool × Value))} {GV : List Value → World → Prop} {n : Fr} {K Ke : Known} {w0 : World} (hGV : ∀ vals w w', Below w.heap.size w w' → GV vals w → GV vals w') : ∀ {lo : List Oper} {i : Nat}, SeqV P ops Q l chain cv GV n K Ke w0 i lo →
  SoundFromQ P ops Q chain (optS l) (Chg S) (GH S w0 chain.length cv GV) n K Ke i lo
 | [], _, _ => trivial
 | o :: r, i, ⟨h, hr⟩ => by
  refine ⟨?_, hr.gen hGV⟩
  have ctx : ∀ {a w vs vals}, CtxQ ops chain (optS l) (GH S w0 chain.length cv GV) n K Ke i o a w vs → vs = Vals vals chain.length → Chg S w0 w → (∀ (q : Nat) b x, cv[q]? = some (some (b, x)) → b = true → ∀ v, vals[q]? = some v → v = x) → GV vals w → CtxV ops S l chain cv GV n K Ke w0 i o a w := fun {a w vs vals} C e hc hv hg =>
   ⟨hc, C.kn, C.dep, fun q c d b x h1 h2 h3 h4 => hv q b x h3 h4 _ (vals_some (e ▸ C.link q c d h1 h2)), fun d v hd hb => C.old d v hd (earlyB_of hb), fun q c h1 h2 => ⟨vals, vals_none (e ▸ C.mostT q c h1 h2), hg, fun q' c' d h3 h4 => vals_some (e ▸ C.link q' c' d h3 h4)⟩⟩
  rcases h with ⟨hi, β, h1, h2, h3, h4⟩ | ⟨p, hp, hbh, β, h1, h2, h3, h4⟩
  ·refine .inl ⟨hi, β, h1, h2, h3, fun hβ a w vs C => ?_⟩
   obtain ⟨vals, k1, k2, k3, k4, k5⟩ := C.now
   refine Oper.wpIn_mono ?_ (wpIn_of (h4 hβ a w (ctx C k2 k4 k5 k3)) (by rintro a' w' ⟨v, rfl, _⟩; exact put_defers _ _ _))
   rintro a' w' ⟨v, rfl, hb, hR⟩
   exact ⟨v, rfl, .ofBelow hb, ⟨vals, k1, k2, hGV _ _ _ hb k3, k4.trans (.ofBelow hb), k5⟩, hR⟩
  ·have hpl : p < chain.length := (List.getElem?_eq_some_iff.1 hp).1
   have len : ∀ {a w vs vals}, CtxQ ops chain (optS l) (GH S w0 chain.length cv GV) n K Ke i o a w vs → vs = Vals vals chain.length → vs[p]? = some none → vals.length = p := fun {a w vs vals} C e hn => by
    have h5 := vals_none (e ▸ hn)
    cases p with
    | zero => omega
    | succ p =>
     unfold behind at hbh
     obtain ⟨c, hc⟩ : ∃ c, chain[p]? = some c := ⟨chain[p], List.getElem?_eq_getElem (by omega)⟩
     simp only [hc] at hbh
     obtain ⟨v, hv⟩ := C.anc p c hc hbh
     have h6 := vals_some (e ▸ hv)
     have := (List.getElem?_eq_some_iff.1 h6).1
     omega
   refine .inr ⟨p, hp, β, h1, h2, fun hβ a w vs C hn => ?_, fun hβ a w vs C hn => ?_⟩
   ·obtain ⟨vals, k1, k2, k3, k4, k5⟩ := C.now
    have hl := len C k2 hn
    obtain ⟨z1, z2⟩ := h3 hβ w vals hl k3
    refine ⟨vals ++ [undef], by simp; omega, ?_, z1, k4, cv_snoc k5 (hl ▸ z2)⟩
    rw [k2, ← hl, vals_set (by omega)]
   ·obtain ⟨vals, k1, k2, k3, k4, k5⟩ := C.now
    have hl := len C k2 hn
    refine Oper.wpIn_mono ?_ (wpIn_of (h4 hβ a w vals ⟨ctx C k2 k4 k5 k3, hl, k3, fun q c d z1 z2 => vals_some (k2 ▸ C.link q c d z1 z2)⟩) (by rintro a' w' ⟨v, rfl, _⟩; exact put_defers _ _ _))
    rintro a' w' ⟨v, rfl, hc, z1, z2⟩
    refine ⟨v, rfl, hc, vals ++ [v], by simp; omega, ?_, z1, k4.trans hc, cv_snoc k5 (hl ▸ z2)⟩
    rw [k2, ← hl, vals_set (by omega)]
theorem cvIs {v X : Value} {β : Bool} (h : v = X) : ∀ b x, (some (some (β, X)) : Option (Option (Bool × Value))) = some (some (b, x)) → b = true → v = x := fun b x e _ => by cases e; exact h
theorem cvNo {v : Value} : ∀ b x, (some none : Option (Option (Bool × Value))) = some (some (b, x)) → b = true → v = x := fun b x e => by cases e
theorem vlen0 {l : List Value} (h : l.length = 0) : l = [] := List.length_eq_zero_iff.1 h
theorem vlen1 {l : List Value} (h : l.length = 1) : ∃ a, l = [a] := by
 match l, h with
 | [a], _ => exact ⟨a, rfl⟩
theorem vlen2 {l : List Value} (h : l.length = 2) : ∃ a b, l = [a, b] := by
 match l, h with
 | [a, b], _ => exact ⟨a, b, rfl⟩
theorem vlen3 {l : List Value} (h : l.length = 3) : ∃ a b c, l = [a, b, c] := by
 match l, h with
 | [a, b, c], _ => exact ⟨a, b, c, rfl⟩
theorem vlen4 {l : List Value} (h : l.length = 4) : ∃ a b c d, l = [a, b, c, d] := by
 match l, h with
 | [a, b, c, d], _ => exact ⟨a, b, c, d, rfl⟩
theorem vlen5 {l : List Value} (h : l.length = 5) : ∃ a b c d e, l = [a, b, c, d, e] := by
 match l, h with
 | [a, b, c, d, e], _ => exact ⟨a, b, c, d, e, rfl⟩
theorem WC.seqV {id : Nat} {dr : Bool} {Q : Exit → Act → World → Prop} {n : Fr} {K : Known} {w : World} (l : List (Bool × SpS S)) (K0 : Known) (chain : List Nat) (cv : List (Option (Bool × Value))) (GV : List Value → World → Prop) (hGV : ∀ vals w w', Below w.heap.size w w' → GV vals w → GV vals w') (hnd : chain.Nodup)
  (hs : subK K0 K) (hclear : clearB ops K0 = true) (hm : P.follows .mixedOrders = true) (hB : opsB ops n.n = true) (hin : (chain.all fun c => Nat.blt c ops.size) = true) (h0 : GV [] w)
  (h : SeqV P ops Q l chain cv GV n K0 K w 0 ops.toList)
  (hQ : ∀ (a : Act) (w' : World) (vals : List Value), Kn n K0 a → vals.length = chain.length → GV vals w' → Chg S w w' → (∀ i d, (ops[i]?).bind (·.dst) = some d → chain.contains i = false → optS l i (a.tmps.getD d undef) w') → (∀ (p c d : Nat), chain[p]? = some c → (ops[c]?).bind (·.dst) = some d → vals[p]? = some (a.tmps.getD d undef)) → (∀ (p c d : Nat) b x, chain[p]? = some c → (ops[c]?).bind (·.dst) = some d → cv[p]? = some (some (b, x)) → b = true → a.tmps.getD d undef = x) → Q .normal a w') :
  WC P n K w (.region id ops dr) Q := by
 refine WC.genQ chain (optS l) (Chg S) (GH S w chain.length cv GV) K0 hs hclear hm hB hnd hin (optSKeep l) ?_ (h.gen hGV) (fun a w' vs hk hlen hall hG hu hl => ?_)
 ·refine ⟨[], Nat.zero_le _, by simp [Vals], ?_, ?_, fun q b x _ _ v hv => (nomatch hv)⟩
  ·cases dr with
   | true => exact hGV _ _ _ (Below.refl _ _).drew h0
   | false => exact h0
  ·cases dr with
   | true => exact .ofBelow (Below.refl _ _).drew
   | false => exact .ofBelow (Below.refl _ _)
 ·obtain ⟨vals, k1, k2, k3, k4, k5⟩ := hG
  have hlv : vals.length = chain.length := by
   rcases Nat.lt_or_ge vals.length chain.length with c | c
   ·obtain ⟨v, hv⟩ := hall vals.length c
    have h6 := (List.getElem?_eq_some_iff.1 (vals_some (k2 ▸ hv))).1
    omega
   ·omega
  have hv : ∀ (p c d : Nat), chain[p]? = some c → (ops[c]?).bind (·.dst) = some d → vals[p]? = some (a.tmps.getD d undef) := fun p c d z1 z2 => vals_some (k2 ▸ hl p c d z1 z2)
  exact hQ a w' vals hk hlv k3 k4 hu hv (fun p c d b x z1 z2 z3 z4 => k5 p b x z3 z4 _ (hv p c d z1 z2))
end
end Go.Proofs.Ytibncmnmjhimeaa

namespace Go.Proofs.Ytibncmnmjhimeaa
open Go.RowKit Go
set_option linter.unusedVariables false
set_option linter.unusedSimpArgs false
section
variable {P : Program}
end
/-! ### Operations behind guards, one after the other -/
section
variable {P : Program} {n : Fr} {K K' : Known} {w : World} {ops : Array Oper} {o : Oper} {rest : List Oper} {Q : Exit → Act → World → Prop}
theorem wp_pickT {a : Act} {C : Act → World → Prop} {x y z : Operand} {v : Value} (ho : o.op = .pick x y z) (hx : a.eval x = .bool true) (hy : a.eval y = v) (hK : C (a.put o.dst v) w) : o.wp P a w C Q := by
  unfold Oper.wp execOp
  simp only [ho, hx, hy]
  exact hK
theorem wp_pickF {a : Act} {C : Act → World → Prop} {x y z : Operand} {v : Value} (ho : o.op = .pick x y z) (hx : a.eval x = .bool false) (hz : a.eval z = v) (hK : C (a.put o.dst v) w) : o.wp P a w C Q := by
  unfold Oper.wp execOp
  simp only [ho, hx, hz]
  exact hK
theorem yielded_known {a : Act} {g d : Nat} {c : Bool} (ha : Kn n K a) (hd : (ops[g]?).bind (·.dst) = some d) (hk : look K d = some (.bool c)) : yielded ops a.tmps g = some c := by
  have := ha.knows d _ hk
  unfold yielded
  rw [hd]
  rcases Nat.lt_or_ge d a.tmps.size with h | h
  · simp only [Array.getD_eq_getD_getElem?, Array.getElem?_eq_getElem h, Option.getD_some] at this
    simp [h, this]
  · simp [Array.getD, Nat.not_lt.2 h, undef] at this
theorem WL.want {g d : Nat} {b : Bool} (hg : o.guard = some (g, b)) (hd : (ops[g]?).bind (·.dst) = some d) (hk : look K d = some (.bool b)) (h : WL P ops n K w ({ o with guard := none } :: rest) Q) : WL P ops n K w (o :: rest) Q := fun a ha => by
  have := h a ha
  unfold wpListIn at this ⊢
  have e1 : Region.wanted o (yielded ops a.tmps) = true := by unfold Region.wanted; rw [hg]; simp only [yielded_known ha hd hk]; cases b <;> rfl
  rw [if_pos e1]
  have e2 : Region.wanted { o with guard := none } (yielded ops a.tmps) = true := rfl
  rw [if_pos e2] at this
  exact this
theorem WL.skip {g d : Nat} {b c : Bool} (hg : o.guard = some (g, b)) (hd : (ops[g]?).bind (·.dst) = some d) (hk : look K d = some (.bool c)) (hne : (c == b) = false) (hlt : dstB n.n o.dst = true) (h : WL P ops n (putK K o.dst undef) w rest Q) : WL P ops n K w (o :: rest) Q := fun a ha => by
  unfold wpListIn
  have e1 : Region.wanted o (yielded ops a.tmps) = false := by unfold Region.wanted; rw [hg]; simp only [yielded_known ha hd hk]; simpa using hne
  rw [if_neg (by rw [e1]; decide)]
  exact ⟨fun f _ => fen_fn _ f, h _ (ha.puts hlt undef)⟩
end
section
variable {P : Program} {n : Fr} {K : Known} {w : World} {ops : Array Oper} {o : Oper} {rest : List Oper} {Q : Exit → Act → World → Prop}
end
section
variable {P : Program} {N : Nat} {r : Option Nat} {ds : List Deferred} {K : Known} {w w' : World} {fn : Func} {R : Ending → World → Prop}
end
section
variable {P : Program} {N : Nat} {ds : List Deferred}
end
/-! ### The other side: a function that hands out -/
section
variable {P : Program} {w : World} {a : Act} {Q : Exit → Act → World → Prop} {o : Oper}
end
end Go.Proofs.Ytibncmnmjhimeaa
