/- Arguments of a law, opened: lists of clauses. -/
import Derived.Test.YtnmopmdpnpcdhaaTEh
import Derived.Test.YtnmopmdpnpcdhaaTEa
import Derived.WalkKit
import Derived.ProofKit
import Derived.JoinedCond
import Derived.OpenShut
import Derived.Test.YtnmopmdpnpcdhaaTEb
import Derived.Test.YtnmopmdpnpcdhaaTEg

/- What the document says of p and q: the walk. -/
namespace Go.Proofs.Ytnmopmdpnpcdhaa
open Go.RowKit Go
set_option linter.unusedVariables false
set_option linter.unusedSimpArgs false
def wkP : Li := ⟨false, .mk 3 [.mk (-1) []], .mk 0 []⟩
def wkN : Li := ⟨true, .mk 3 [.mk (-1) []], .mk 0 []⟩
def wkA : Li := ⟨false, .mk 3 [.mk 1 []], .mk 0 []⟩
def wkB : Li := ⟨false, .mk 4 [.mk 2 []], .mk 0 []⟩
def wkE : Li := ⟨true, .mk 1 [], .mk 1 []⟩
theorem wk_cut : cutO [wkN] [wkA, wkB] = some (8, [wkB]) := by kernel_rfl
theorem wk_drop : dropO [wkE, wkB] = some (6, [wkB]) := by kernel_rfl
theorem wk_triv : trivB [wkP, wkN] = true := by kernel_rfl
theorem wk_triv2 : trivB [wkA, wkB] = false := by kernel_rfl
theorem row1_wk {w : World} {g t : Nat} {f : Int} (hB : Blk w g t #[.int .i64 f, .slice none 0 0]) (hf : -9223372036854775808 ≤ f ∧ f ≤ 9223372036854775807) : RowT [.mk f []] (.slice (some ⟨g, 0, none⟩) 1 1) w :=
 ⟨_, _, rfl, Nat.le_refl _, by unfold maxLen; decide, ⟨⟨_, 0, _, _, rfl, (hB.cell 0).trans rfl, (hB.cell 1).trans rfl, isT_lf hf⟩, trivial⟩⟩
theorem In_of {w : World} {x : Li} {u0 u1 u2 u3 u4 : Value} (h : IsLi w x (.agg #[u0, u1, u2, u3, u4])) : eltL.In (fun _ => True) w x [u0, u1, u2, u3, u4] := by
 obtain ⟨a, b, c, d, e, h1, h2⟩ := h
 simp only [Value.agg.injEq, Array.mk.injEq, List.cons.injEq, and_true] at e
 obtain ⟨rfl, rfl, rfl, rfl, rfl⟩ := e
 exact ⟨_, _, _, _, rfl, (IsT.inT h1).mono (fun _ _ _ => trivial), (IsT.inT h2).mono (fun _ _ _ => trivial)⟩
theorem isCl_1 {w : World} {g : Nat} {x : Li} {u0 u1 u2 u3 u4 : Value} (hc : ∀ (q : Nat) (u : Value), ([u0, u1, u2, u3, u4] : List Value)[q]? = some u → w.cell? ⟨g, q, none⟩ = some u) (h1 : IsLi w x (.agg #[u0, u1, u2, u3, u4])) (hz : x.l.size ≤ 4294967296 ∧ x.r.size ≤ 4294967296) : IsCl w [x] (some ⟨g, 0, none⟩) 1 := by
 refine ⟨fun i hi => ?_, Nat.le_refl _, by (try simp only [List.length_cons, List.length_nil]); unfold maxLen; omega, by simp, fun b hb => by simp at hb; rw [hb]; exact hz.1, fun b hb => by simp at hb; rw [hb]; exact hz.2⟩
 have h9 : i < 1 := hi
 obtain rfl : i = 0 := by omega
 refine ⟨g, 0, _, rfl, trivial, In_of h1, fun j hj => ?_⟩
 have h8 : j < 5 := hj
 obtain rfl | rfl | rfl | rfl | rfl : j = 0 ∨ j = 1 ∨ j = 2 ∨ j = 3 ∨ j = 4 := by omega
 all_goals exact hc _ _ rfl
theorem isCl_2 {w : World} {g : Nat} {x y : Li} {u0 u1 u2 u3 u4 v0 v1 v2 v3 v4 : Value} (hc : ∀ (q : Nat) (u : Value), ([u0, u1, u2, u3, u4, v0, v1, v2, v3, v4] : List Value)[q]? = some u → w.cell? ⟨g, q, none⟩ = some u) (h1 : IsLi w x (.agg #[u0, u1, u2, u3, u4])) (h2 : IsLi w y (.agg #[v0, v1, v2, v3, v4])) (hz : (x.l.size ≤ 4294967296 ∧ x.r.size ≤ 4294967296) ∧ y.l.size ≤ 4294967296 ∧ y.r.size ≤ 4294967296) : IsCl w [x, y] (some ⟨g, 0, none⟩) 2 := by
 refine ⟨fun i hi => ?_, Nat.le_refl _, by (try simp only [List.length_cons, List.length_nil]); unfold maxLen; omega, by simp, fun b hb => by simp at hb; rcases hb with rfl | rfl; exact hz.1.1; exact hz.2.1, fun b hb => by simp at hb; rcases hb with rfl | rfl; exact hz.1.2; exact hz.2.2⟩
 have h9 : i < 2 := hi
 obtain rfl | rfl : i = 0 ∨ i = 1 := by omega
 ·refine ⟨g, 0, _, rfl, trivial, In_of h1, fun j hj => ?_⟩
  have h8 : j < 5 := hj
  obtain rfl | rfl | rfl | rfl | rfl : j = 0 ∨ j = 1 ∨ j = 2 ∨ j = 3 ∨ j = 4 := by omega
  all_goals exact hc _ _ rfl
 ·refine ⟨g, 0, _, rfl, trivial, In_of h2, fun j hj => ?_⟩
  have h8 : j < 5 := hj
  obtain rfl | rfl | rfl | rfl | rfl : j = 0 ∨ j = 1 ∨ j = 2 ∨ j = 3 ∨ j = 4 := by omega
  all_goals exact hc _ _ rfl
theorem blk_cells {w : World} {g t : Nat} {cs : List Value} (hB : Blk w g t cs.toArray) (q : Nat) (u : Value) (h : cs[q]? = some u) : w.cell? ⟨g, q, none⟩ = some u := by rw [hB.cell]; simpa using h
theorem cut_wk {w : World} {a b : Option Addr} {c e : Nat} (h1 : IsCl w [wkN] a c) (h2 : IsCl w [wkA, wkB] b e) : Calls Try.prog 12 #[.slice a 1 c, .slice b 2 e] w (Ret fun v' w' => WayV w w' (some (8, [wkB])) v' ∧ Below w.heap.size w w') := by
 have := cut_any [wkN] [wkA, wkB] w a b c e h1 h2 (by decide) (by decide)
 rwa [wk_cut] at this
theorem drop_wk {w : World} {a : Option Addr} {c : Nat} (h1 : IsCl w [wkE, wkB] a c) : Calls Try.prog 11 #[.slice a 2 c] w (Ret fun v' w' => WayV w w' (some (6, [wkB])) v' ∧ Below w.heap.size w w') := by
 have := drop_any [wkE, wkB] w a c h1 (by decide)
 rwa [show ((dropI [wkE, wkB]).map fun i => (dropR [wkE, wkB] i, List.eraseIdx [wkE, wkB] i)) = some (6, [wkB]) from wk_drop] at this
theorem triv_wk1 {w : World} {a : Option Addr} {c : Nat} (h1 : IsCl w [wkP, wkN] a c) : Calls Try.prog 9 #[.slice a 2 c] w (Ret fun v' w' => v' = .bool true ∧ Below w.heap.size w w') := by
 have := triv_any [wkP, wkN] w a c h1 (by decide)
 rwa [wk_triv] at this
theorem triv_wk2 {w : World} {a : Option Addr} {c : Nat} (h1 : IsCl w [wkA, wkB] a c) : Calls Try.prog 9 #[.slice a 2 c] w (Ret fun v' w' => v' = .bool false ∧ Below w.heap.size w w') := by
 have := triv_any [wkA, wkB] w a c h1 (by decide)
 rwa [wk_triv2] at this
/-- The cells of a row that lies in 'S'. -/
def CellsAt (S : Nat → Prop) (w : World) (cs : List Value) (v : Value) : Prop := ∃ g, v = .slice (some ⟨g, 0, none⟩) 2 2 ∧ S g ∧ ∀ (q : Nat) (u : Value), cs[q]? = some u → w.cell? ⟨g, q, none⟩ = some u
def IsStep (u : Value) : Prop := ∃ (p1 p2 p : Option Addr) (n1 c1 n2 c2 c : Nat), u = .agg #[.int .i64 6, .slice p1 n1 c1, .slice p2 n2 c2, .slice none 0 0, .slice none 0 0, .slice p 1 c]
def IsTup (v : Value) : Prop := ∃ u, v = .tuple #[u, .bool true] ∧ IsStep u
set_option maxRecDepth 100000 in
theorem wakes_any (w : World) : Calls Try.prog 8 #[] w (Ret fun v' w' => v' = .bool true ∧ Below w.heap.size w w') := by
 refine Calls.walk (l := []) Try.func8 rfl (by kernel_rfl) ?_
 refine WC.sub (K' := []) trivial ?_
 refine WC.seq (WC.region (WL.asg rfl rfl rfl rfl rfl (WL.nil (WE.next (WC.seq (WC.region ?_))))))
 refine WL.val (.agg #[.int .i64 ((-1)), .slice none 0 0]) rfl rfl rfl (fun za zC zh zk => build_58_0 rfl (zh.ev rfl) zk) ?_
 refine WL.val (.agg #[.int .i64 1, .slice none 0 0]) rfl rfl rfl (fun za zC zh zk => build_58_0 rfl (zh.ev rfl) zk) ?_
 refine WL.val (.agg #[.int .i64 2, .slice none 0 0]) rfl rfl rfl (fun za zC zh zk => build_58_0 rfl (zh.ev rfl) zk) ?_
 refine WL.step (post := NewBlk w 58 #[.int .i64 0, .slice none 0 0]) rfl rfl rfl (fun za zC zh zk => alloc_58 rfl (zk _ _ (newBlk _ _ _))) ?_
 rintro _ w1 ⟨g2, rfl, hg3, hB4, hb5, hz6⟩
 have hl7 : w.heap.size ≤ g2 := by omega
 refine WL.step (post := NewBlk w1 58 #[.int .i64 0, .slice none 0 0]) rfl rfl rfl (fun za zC zh zk => alloc_58 rfl (zk _ _ (newBlk _ _ _))) ?_
 rintro _ w8 ⟨g9, rfl, hg10, hB11, hb12, hz13⟩
 have hl14 : g2 < g9 := by have z1 := hB4.lt; omega
 have hl15 : w.heap.size ≤ g9 := by have z2 := (hb5).size; omega
 refine WL.step (post := NewBlk w8 58 #[.int .i64 0, .slice none 0 0]) rfl rfl rfl (fun za zC zh zk => alloc_58 rfl (zk _ _ (newBlk _ _ _))) ?_
 rintro _ w16 ⟨g17, rfl, hg18, hB19, hb20, hz21⟩
 have hl22 : g2 < g17 := by have z1 := hB4.lt; have z2 := (hb12).size; omega
 have hl23 : g9 < g17 := by have z1 := hB11.lt; omega
 have hb24 : Below w.heap.size w w8 := (bstep hb5 hb12)
 have hl25 : w.heap.size ≤ g17 := by have z2 := (hb24).size; omega
 have hb27 : Below w1.heap.size w1 w16 := (bstep hb12 hb20)
 have hB26 := hB4.below hb27
 refine WL.step (post := fun _ w' => Upd g2 w16 w' ∧ Blk w' g2 58 #[.int .i64 ((-1)), .slice none 0 0]) rfl rfl rfl (fun za zC zh zk => st_58 rfl (zh.ev rfl) (zh.ev rfl) rfl rfl hB26 (by first | decide | simp) (fun v => zk v _ ⟨(Upd.at_ _ _ _ _).trans (Upd.at_ _ _ _ _), (hB26.set_ 0 _).set_ 1 _⟩)) ?_
 rintro v31 w28 ⟨hu29, hB30⟩
 have hb32 : Below w.heap.size w w16 := (bstep hb5 hb27)
 have hb33 := upd_below hb32 hu29 (by omega)
 have hB34 := hB11.below hb20
 have hB35 := upd_blk hB34 hu29 (by omega)
 have hB36 := upd_blk hB19 hu29 (by omega)
 refine WL.step (post := fun _ w' => Upd g9 w28 w' ∧ Blk w' g9 58 #[.int .i64 1, .slice none 0 0]) rfl rfl rfl (fun za zC zh zk => st_58 rfl (zh.ev rfl) (zh.ev rfl) rfl rfl hB35 (by first | decide | simp) (fun v => zk v _ ⟨(Upd.at_ _ _ _ _).trans (Upd.at_ _ _ _ _), (hB35.set_ 0 _).set_ 1 _⟩)) ?_
 rintro v40 w37 ⟨hu38, hB39⟩
 have hb41 := upd_below hb33 hu38 (by omega)
 have hB42 := upd_blk hB30 hu38 (by omega)
 have hB43 := upd_blk hB36 hu38 (by omega)
 refine WL.step (post := fun _ w' => Upd g17 w37 w' ∧ Blk w' g17 58 #[.int .i64 2, .slice none 0 0]) rfl rfl rfl (fun za zC zh zk => st_58 rfl (zh.ev rfl) (zh.ev rfl) rfl rfl hB43 (by first | decide | simp) (fun v => zk v _ ⟨(Upd.at_ _ _ _ _).trans (Upd.at_ _ _ _ _), (hB43.set_ 0 _).set_ 1 _⟩)) ?_
 rintro v47 w44 ⟨hu45, hB46⟩
 have hb48 := upd_below hb41 hu45 (by omega)
 have hB49 := upd_blk hB42 hu45 (by omega)
 have hB50 := upd_blk hB39 hu45 (by omega)
 refine WL.nil (WE.next (WC.seq (WC.region ?_)))
 refine WL.val _ rfl rfl rfl (fun za zC zh zk => ld_58 rfl (zh.ev rfl) ((hB49.cell 0).trans rfl) ((hB49.cell 1).trans rfl) zk) ?_
 refine WL.step (post := NewRow w44 58 #[.int .i64 ((-1)), .slice none 0 0] 1) rfl rfl rfl (fun za zC zh zk => row_56_1 rfl (zh.ev rfl) (zk _ _ (newRow _ _ _ _))) ?_
 rintro _ w51 ⟨g52, rfl, hg53, hB54, hb55, hz56⟩
 have hl57 : g2 < g52 := by have z1 := hB49.lt; omega
 have hl58 : g9 < g52 := by have z1 := hB50.lt; omega
 have hl59 : g17 < g52 := by have z1 := hB46.lt; omega
 have hl60 : w.heap.size ≤ g52 := by have z2 := (hb48).size; omega
 refine WL.val (.agg #[.int .i64 3, .slice ((some ⟨g52, 0, none⟩)) 1 1]) rfl rfl rfl (fun za zC zh zk => build_58_0_1 rfl (zh.ev rfl) (zh.ev rfl) zk) ?_
 refine WL.val (.agg #[.bool false, .int .i64 3, .slice ((some ⟨g52, 0, none⟩)) 1 1, .int .i64 0, .slice none 0 0]) rfl rfl rfl (fun za zC zh zk => build_60_1 rfl (zh.ev rfl) zk) ?_
 refine WL.step (post := NewBlk w51 60 #[.bool false, .int .i64 0, .slice none 0 0, .int .i64 0, .slice none 0 0]) rfl rfl rfl (fun za zC zh zk => alloc_60 rfl (zk _ _ (newBlk _ _ _))) ?_
 rintro _ w61 ⟨g62, rfl, hg63, hB64, hb65, hz66⟩
 have hl67 : g2 < g62 := by have z1 := hB49.lt; have z2 := (hb55).size; omega
 have hl68 : g9 < g62 := by have z1 := hB50.lt; have z2 := (hb55).size; omega
 have hl69 : g17 < g62 := by have z1 := hB46.lt; have z2 := (hb55).size; omega
 have hl70 : g52 < g62 := by have z1 := hB54.lt; omega
 have hb71 : Below w.heap.size w w51 := (bstep hb48 hb55)
 have hl72 : w.heap.size ≤ g62 := by have z2 := (hb71).size; omega
 refine WL.step (post := fun _ w' => Upd g62 w61 w' ∧ Blk w' g62 60 #[.bool false, .int .i64 3, .slice ((some ⟨g52, 0, none⟩)) 1 1, .int .i64 0, .slice none 0 0]) rfl rfl rfl (fun za zC zh zk => st_60 rfl (zh.ev rfl) (zh.ev rfl) rfl rfl rfl rfl rfl hB64 (by first | decide | simp) (fun v => zk v _ ⟨((((Upd.at_ _ _ _ _).trans (Upd.at_ _ _ _ _)).trans (Upd.at_ _ _ _ _)).trans (Upd.at_ _ _ _ _)).trans (Upd.at_ _ _ _ _), ((((hB64.set_ 0 _).set_ 1 _).set_ 2 _).set_ 3 _).set_ 4 _⟩)) ?_
 rintro v76 w73 ⟨hu74, hB75⟩
 have hb77 : Below w.heap.size w w61 := (bstep hb71 hb65)
 have hb78 := upd_below hb77 hu74 (by omega)
 have hb80 : Below w44.heap.size w44 w61 := (bstep hb55 hb65)
 have hB79 := hB49.below hb80
 have hB81 := upd_blk hB79 hu74 (by omega)
 have hB82 := hB50.below hb80
 have hB83 := upd_blk hB82 hu74 (by omega)
 have hB84 := hB46.below hb80
 have hB85 := upd_blk hB84 hu74 (by omega)
 have hB86 := hB54.below hb65
 have hB87 := upd_blk hB86 hu74 (by omega)
 refine WL.nil (WE.next (WC.seq (WC.region ?_)))
 refine WL.val _ rfl rfl rfl (fun za zC zh zk => fld_60_1 rfl (zh.ev rfl) zk) ?_
 refine WL.val _ rfl rfl rfl (fun za zC zh zk => ld_58 rfl (zh.ev rfl) ((hB75.cell 1).trans rfl) ((hB75.cell 2).trans rfl) zk) ?_
 refine WL.val (.agg #[.bool true, .int .i64 3, .slice ((some ⟨g52, 0, none⟩)) 1 1, .int .i64 0, .slice none 0 0]) rfl rfl rfl (fun za zC zh zk => build_60_0_1 rfl (zh.ev rfl) (zh.ev rfl) zk) ?_
 refine WL.step (post := NewBlk w73 60 #[.bool false, .int .i64 0, .slice none 0 0, .int .i64 0, .slice none 0 0]) rfl rfl rfl (fun za zC zh zk => alloc_60 rfl (zk _ _ (newBlk _ _ _))) ?_
 rintro _ w88 ⟨g89, rfl, hg90, hB91, hb92, hz93⟩
 have hl94 : g2 < g89 := by have z1 := hB81.lt; omega
 have hl95 : g9 < g89 := by have z1 := hB83.lt; omega
 have hl96 : g17 < g89 := by have z1 := hB85.lt; omega
 have hl97 : g52 < g89 := by have z1 := hB87.lt; omega
 have hl98 : g62 < g89 := by have z1 := hB75.lt; omega
 have hl99 : w.heap.size ≤ g89 := by have z2 := (hb78).size; omega
 refine WL.step (post := fun _ w' => Upd g89 w88 w' ∧ Blk w' g89 60 #[.bool true, .int .i64 3, .slice ((some ⟨g52, 0, none⟩)) 1 1, .int .i64 0, .slice none 0 0]) rfl rfl rfl (fun za zC zh zk => st_60 rfl (zh.ev rfl) (zh.ev rfl) rfl rfl rfl rfl rfl hB91 (by first | decide | simp) (fun v => zk v _ ⟨((((Upd.at_ _ _ _ _).trans (Upd.at_ _ _ _ _)).trans (Upd.at_ _ _ _ _)).trans (Upd.at_ _ _ _ _)).trans (Upd.at_ _ _ _ _), ((((hB91.set_ 0 _).set_ 1 _).set_ 2 _).set_ 3 _).set_ 4 _⟩)) ?_
 rintro v103 w100 ⟨hu101, hB102⟩
 have hb104 : Below w.heap.size w w88 := (bstep hb78 hb92)
 have hb105 := upd_below hb104 hu101 (by omega)
 have hB106 := hB81.below hb92
 have hB107 := upd_blk hB106 hu101 (by omega)
 have hB108 := hB83.below hb92
 have hB109 := upd_blk hB108 hu101 (by omega)
 have hB110 := hB85.below hb92
 have hB111 := upd_blk hB110 hu101 (by omega)
 have hB112 := hB87.below hb92
 have hB113 := upd_blk hB112 hu101 (by omega)
 have hB114 := hB75.below hb92
 have hB115 := upd_blk hB114 hu101 (by omega)
 refine WL.nil (WE.next (WC.seq (WC.region ?_)))
 refine WL.val _ rfl rfl rfl (fun za zC zh zk => ld_58 rfl (zh.ev rfl) ((hB109.cell 0).trans rfl) ((hB109.cell 1).trans rfl) zk) ?_
 refine WL.step (post := NewRow w100 58 #[.int .i64 1, .slice none 0 0] 1) rfl rfl rfl (fun za zC zh zk => row_56_1 rfl (zh.ev rfl) (zk _ _ (newRow _ _ _ _))) ?_
 rintro _ w116 ⟨g117, rfl, hg118, hB119, hb120, hz121⟩
 have hl122 : g2 < g117 := by have z1 := hB107.lt; omega
 have hl123 : g9 < g117 := by have z1 := hB109.lt; omega
 have hl124 : g17 < g117 := by have z1 := hB111.lt; omega
 have hl125 : g52 < g117 := by have z1 := hB113.lt; omega
 have hl126 : g62 < g117 := by have z1 := hB115.lt; omega
 have hl127 : g89 < g117 := by have z1 := hB102.lt; omega
 have hl128 : w.heap.size ≤ g117 := by have z2 := (hb105).size; omega
 refine WL.val (.agg #[.int .i64 3, .slice ((some ⟨g117, 0, none⟩)) 1 1]) rfl rfl rfl (fun za zC zh zk => build_58_0_1 rfl (zh.ev rfl) (zh.ev rfl) zk) ?_
 refine WL.val (.agg #[.bool false, .int .i64 3, .slice ((some ⟨g117, 0, none⟩)) 1 1, .int .i64 0, .slice none 0 0]) rfl rfl rfl (fun za zC zh zk => build_60_1 rfl (zh.ev rfl) zk) ?_
 have hB129 := hB111.below hb120
 refine WL.val _ rfl rfl rfl (fun za zC zh zk => ld_58 rfl (zh.ev rfl) ((hB129.cell 0).trans rfl) ((hB129.cell 1).trans rfl) zk) ?_
 refine WL.step (post := NewRow w116 58 #[.int .i64 2, .slice none 0 0] 1) rfl rfl rfl (fun za zC zh zk => row_56_1 rfl (zh.ev rfl) (zk _ _ (newRow _ _ _ _))) ?_
 rintro _ w130 ⟨g131, rfl, hg132, hB133, hb134, hz135⟩
 have hl136 : g2 < g131 := by have z1 := hB107.lt; have z2 := (hb120).size; omega
 have hl137 : g9 < g131 := by have z1 := hB109.lt; have z2 := (hb120).size; omega
 have hl138 : g17 < g131 := by have z1 := hB129.lt; omega
 have hl139 : g52 < g131 := by have z1 := hB113.lt; have z2 := (hb120).size; omega
 have hl140 : g62 < g131 := by have z1 := hB115.lt; have z2 := (hb120).size; omega
 have hl141 : g89 < g131 := by have z1 := hB102.lt; have z2 := (hb120).size; omega
 have hl142 : g117 < g131 := by have z1 := hB119.lt; omega
 have hb143 : Below w.heap.size w w116 := (bstep hb105 hb120)
 have hl144 : w.heap.size ≤ g131 := by have z2 := (hb143).size; omega
 refine WL.val (.agg #[.int .i64 4, .slice ((some ⟨g131, 0, none⟩)) 1 1]) rfl rfl rfl (fun za zC zh zk => build_58_0_1 rfl (zh.ev rfl) (zh.ev rfl) zk) ?_
 refine WL.val (.agg #[.bool false, .int .i64 4, .slice ((some ⟨g131, 0, none⟩)) 1 1, .int .i64 0, .slice none 0 0]) rfl rfl rfl (fun za zC zh zk => build_60_1 rfl (zh.ev rfl) zk) ?_
 refine WL.step (post := NewRow w130 60 #[.bool false, .int .i64 3, .slice ((some ⟨g117, 0, none⟩)) 1 1, .int .i64 0, .slice none 0 0, .bool false, .int .i64 4, .slice ((some ⟨g131, 0, none⟩)) 1 1, .int .i64 0, .slice none 0 0] 2) rfl rfl rfl (fun za zC zh zk => row_29_2 rfl (zh.ev rfl) (zh.ev rfl) (zk _ _ (newRow _ _ _ _))) ?_
 rintro _ w145 ⟨g146, rfl, hg147, hB148, hb149, hz150⟩
 have hb151 : Below w100.heap.size w100 w130 := (bstep hb120 hb134)
 have hl152 : g2 < g146 := by have z1 := hB107.lt; have z2 := (hb151).size; omega
 have hl153 : g9 < g146 := by have z1 := hB109.lt; have z2 := (hb151).size; omega
 have hl154 : g17 < g146 := by have z1 := hB129.lt; have z2 := (hb134).size; omega
 have hl155 : g52 < g146 := by have z1 := hB113.lt; have z2 := (hb151).size; omega
 have hl156 : g62 < g146 := by have z1 := hB115.lt; have z2 := (hb151).size; omega
 have hl157 : g89 < g146 := by have z1 := hB102.lt; have z2 := (hb151).size; omega
 have hl158 : g117 < g146 := by have z1 := hB119.lt; have z2 := (hb134).size; omega
 have hl159 : g131 < g146 := by have z1 := hB133.lt; omega
 have hb160 : Below w.heap.size w w130 := (bstep hb105 hb151)
 have hl161 : w.heap.size ≤ g146 := by have z2 := (hb160).size; omega
 refine WL.asg rfl rfl rfl rfl rfl ?_
 refine WL.nil (WE.sub (K' := [(0, .bool false), (1, .pointer (some ⟨g2, 0, none⟩)), (2, .pointer (some ⟨g9, 0, none⟩)), (3, .pointer (some ⟨g17, 0, none⟩)), (4, .pointer (some ⟨g62, 0, none⟩)), (5, .pointer (some ⟨g89, 0, none⟩)), (6, .slice ((some ⟨g146, 0, none⟩)) 2 2)]) ⟨rfl, rfl, rfl, rfl, rfl, rfl, rfl, trivial⟩ ?_)
 refine WE.next (WC.seq (WC.region ?_))
 have hb163 : Below w100.heap.size w100 w145 := (bstep hb151 hb149)
 have hB162 := hB102.below hb163
 refine WL.val _ rfl rfl rfl (fun za zC zh zk => ld_60 rfl (zh.ev rfl) ((hB162.cell 0).trans rfl) ((hB162.cell 1).trans rfl) ((hB162.cell 2).trans rfl) ((hB162.cell 3).trans rfl) ((hB162.cell 4).trans rfl) zk) ?_
 refine WL.step (post := NewRow w145 60 #[.bool true, .int .i64 3, .slice ((some ⟨g52, 0, none⟩)) 1 1, .int .i64 0, .slice none 0 0] 1) rfl rfl rfl (fun za zC zh zk => row_29_1 rfl (zh.ev rfl) (zk _ _ (newRow _ _ _ _))) ?_
 rintro _ w164 ⟨g165, rfl, hg166, hB167, hb168, hz169⟩
 have hl170 : g2 < g165 := by have z1 := hB107.lt; have z2 := (hb163).size; omega
 have hl171 : g9 < g165 := by have z1 := hB109.lt; have z2 := (hb163).size; omega
 have hb172 : Below w116.heap.size w116 w145 := (bstep hb134 hb149)
 have hl173 : g17 < g165 := by have z1 := hB129.lt; have z2 := (hb172).size; omega
 have hl174 : g52 < g165 := by have z1 := hB113.lt; have z2 := (hb163).size; omega
 have hl175 : g62 < g165 := by have z1 := hB115.lt; have z2 := (hb163).size; omega
 have hl176 : g89 < g165 := by have z1 := hB162.lt; omega
 have hl177 : g117 < g165 := by have z1 := hB119.lt; have z2 := (hb172).size; omega
 have hl178 : g131 < g165 := by have z1 := hB133.lt; have z2 := (hb149).size; omega
 have hl179 : g146 < g165 := by have z1 := hB148.lt; omega
 have hb180 : Below w.heap.size w w145 := (bstep hb105 hb163)
 have hl181 : w.heap.size ≤ g165 := by have z2 := (hb180).size; omega
 refine WL.mv rfl rfl rfl rfl rfl ?_
 have hb183 : Below w100.heap.size w100 w164 := (bstep hb163 hb168)
 have hB182 := hB113.below hb183
 have hB184 := hB148.below hb168
 have hb186 : Below w116.heap.size w116 w164 := (bstep hb172 hb168)
 have hB185 := hB119.below hb186
 have hb188 : Below w130.heap.size w130 w164 := (bstep hb149 hb168)
 have hB187 := hB133.below hb188
 refine WL.call rfl rfl rfl (fun za zh zC => wp_call (by kernel_rfl) rfl (hv2 (zh.ev rfl) (zh.ev rfl))) (cut_wk (isCl_1 (blk_cells (cs := [.bool true, .int .i64 3, .slice ((some ⟨g52, 0, none⟩)) 1 1, .int .i64 0, .slice none 0 0]) hB167) (isLi_of (x := wkN) (isT_mk (by unfold I64; decide) (row1_wk hB182 (by decide))) (isT_lf (by decide))) (by decide)) (isCl_2 (blk_cells (cs := [.bool false, .int .i64 3, .slice ((some ⟨g117, 0, none⟩)) 1 1, .int .i64 0, .slice none 0 0, .bool false, .int .i64 4, .slice ((some ⟨g131, 0, none⟩)) 1 1, .int .i64 0, .slice none 0 0]) hB184) (isLi_of (x := wkA) (isT_mk (by unfold I64; decide) (row1_wk hB185 (by decide))) (isT_lf (by decide))) (isLi_of (x := wkB) (isT_mk (by unfold I64; decide) (row1_wk hB187 (by decide))) (isT_lf (by decide))) (by decide))) ?_
 rintro _ w189 ⟨⟨_, rfl, pA, pB, pC, nA, cA, nB, cB, cC, rfl, hNC⟩, hbC⟩
 have hLC : IsLs w189 [wkB] pC := hNC.isLs
 have hlw9 : ([wkB] : List Li).length = 1 := rfl
 refine WL.mv rfl rfl rfl rfl rfl ?_
 refine WL.val (.agg #[.int .i64 8, .slice pA nA cA, .slice pB nB cB, .slice none 0 0, .slice none 0 0, .slice pC 1 cC]) rfl rfl rfl (fun za zC zh zk => ext2_0 rfl (zh.ev rfl) zk) ?_
 refine WL.val (.bool true) rfl rfl rfl (fun za zC zh zk => ext2_1 rfl (zh.ev rfl) zk) ?_
 refine WL.step (post := NewBlk w189 40 #[.int .i64 0, .slice none 0 0, .slice none 0 0, .slice none 0 0, .slice none 0 0, .slice none 0 0]) rfl rfl rfl (fun za zC zh zk => alloc_40 rfl (zk _ _ (newBlk _ _ _))) ?_
 rintro _ w190 ⟨g191, rfl, hg192, hB193, hb194, hz195⟩
 have hb196 : Below w100.heap.size w100 w189 := (bstep hb183 hbC)
 have hl197 : g2 < g191 := by have z1 := hB107.lt; have z2 := (hb196).size; omega
 have hl198 : g9 < g191 := by have z1 := hB109.lt; have z2 := (hb196).size; omega
 have hb199 : Below w116.heap.size w116 w189 := (bstep hb186 hbC)
 have hl200 : g17 < g191 := by have z1 := hB129.lt; have z2 := (hb199).size; omega
 have hl201 : g52 < g191 := by have z1 := hB182.lt; have z2 := (hbC).size; omega
 have hl202 : g62 < g191 := by have z1 := hB115.lt; have z2 := (hb196).size; omega
 have hb203 : Below w145.heap.size w145 w189 := (bstep hb168 hbC)
 have hl204 : g89 < g191 := by have z1 := hB162.lt; have z2 := (hb203).size; omega
 have hl205 : g117 < g191 := by have z1 := hB185.lt; have z2 := (hbC).size; omega
 have hl206 : g131 < g191 := by have z1 := hB187.lt; have z2 := (hbC).size; omega
 have hl207 : g146 < g191 := by have z1 := hB184.lt; have z2 := (hbC).size; omega
 have hl208 : g165 < g191 := by have z1 := hB167.lt; have z2 := (hbC).size; omega
 have hb209 : Below w.heap.size w w189 := (bstep hb105 hb196)
 have hl210 : w.heap.size ≤ g191 := by have z2 := (hb209).size; omega
 have hl211 : w189.heap.size ≤ g191 := by omega
 refine WL.step (post := fun _ w' => Upd g191 w190 w' ∧ Blk w' g191 40 #[.int .i64 8, .slice pA nA cA, .slice pB nB cB, .slice none 0 0, .slice none 0 0, .slice pC 1 cC]) rfl rfl rfl (fun za zC zh zk => st_40 rfl (zh.ev rfl) (zh.ev rfl) rfl rfl rfl rfl rfl rfl hB193 (by first | decide | simp) (fun v => zk v _ ⟨(((((Upd.at_ _ _ _ _).trans (Upd.at_ _ _ _ _)).trans (Upd.at_ _ _ _ _)).trans (Upd.at_ _ _ _ _)).trans (Upd.at_ _ _ _ _)).trans (Upd.at_ _ _ _ _), (((((hB193.set_ 0 _).set_ 1 _).set_ 2 _).set_ 3 _).set_ 4 _).set_ 5 _⟩)) ?_
 rintro v215 w212 ⟨hu213, hB214⟩
 have hb216 : Below w.heap.size w w190 := (bstep hb209 hb194)
 have hb217 := upd_below hb216 hu213 (by omega)
 have hb218 := upd_below hb194 hu213 (by omega)
 have hb220 : Below w100.heap.size w100 w190 := (bstep hb196 hb194)
 have hB219 := hB107.below hb220
 have hB221 := upd_blk hB219 hu213 (by omega)
 have hB222 := hB109.below hb220
 have hB223 := upd_blk hB222 hu213 (by omega)
 have hb225 : Below w116.heap.size w116 w190 := (bstep hb199 hb194)
 have hB224 := hB129.below hb225
 have hB226 := upd_blk hB224 hu213 (by omega)
 have hb228 : Below w164.heap.size w164 w190 := (bstep hbC hb194)
 have hB227 := hB182.below hb228
 have hB229 := upd_blk hB227 hu213 (by omega)
 have hB230 := hB115.below hb220
 have hB231 := upd_blk hB230 hu213 (by omega)
 have hb233 : Below w145.heap.size w145 w190 := (bstep hb168 hb228)
 have hB232 := hB162.below hb233
 have hB234 := upd_blk hB232 hu213 (by omega)
 have hB235 := hB185.below hb228
 have hB236 := upd_blk hB235 hu213 (by omega)
 have hB237 := hB187.below hb228
 have hB238 := upd_blk hB237 hu213 (by omega)
 have hB239 := hB184.below hb228
 have hB240 := upd_blk hB239 hu213 (by omega)
 have hB241 := hB167.below hb228
 have hB242 := upd_blk hB241 hu213 (by omega)
 refine WL.asg rfl rfl rfl rfl rfl (WL.nil (WE.next (WC.seq ?_)))
 have hcc6 : IsCl w212 [wkA, wkB] (some ⟨g146, 0, none⟩) 2 := (isCl_2 (blk_cells (cs := [.bool false, .int .i64 3, .slice ((some ⟨g117, 0, none⟩)) 1 1, .int .i64 0, .slice none 0 0, .bool false, .int .i64 4, .slice ((some ⟨g131, 0, none⟩)) 1 1, .int .i64 0, .slice none 0 0]) hB240) (isLi_of (x := wkA) (isT_mk (by unfold I64; decide) (row1_wk hB236 (by decide))) (isT_lf (by decide))) (isLi_of (x := wkB) (isT_mk (by unfold I64; decide) (row1_wk hB238 (by decide))) (isT_lf (by decide))) (by decide))
 have hlB6 : IsLi w212 wkB (.agg #[.bool false, .int .i64 4, .slice ((some ⟨g131, 0, none⟩)) 1 1, .int .i64 0, .slice none 0 0]) := (isLi_of (x := wkB) (isT_mk (by unfold I64; decide) (row1_wk hB238 (by decide))) (isT_lf (by decide)))
 refine WC.boxP (fun q => match q with | 0 => fun S w v => CellsAt S w [.bool true, .int .i64 1, .slice none 0 0, .int .i64 1, .slice none 0 0, .bool false, .int .i64 4, .slice ((some ⟨g131, 0, none⟩)) 1 1, .int .i64 0, .slice none 0 0] v | 1 => fun _ _ v => IsTup v | 2 => fun _ _ v => IsTup v | _ + 3 => fun _ _ v => IsStep v) (fun q => match q with | 0 => fun _ => True | 1 => IsTup | 2 => IsTup | _ + 3 => IsStep) (fun q _ _ _ _ hk h => match q, h with | 0, ⟨g, e, hs, hc⟩ => ⟨g, e, hs, fun q u hq => hk ⟨g, q, none⟩ u hs (hc q u hq)⟩ | 1, h => h | 2, h => h | _ + 3, h => h) (fun q _ _ _ _ hk h => match q, h with | 0, ⟨g, e, hs, hc⟩ => ⟨g, e, hk g hs (World.block_lt_of_cell? _ _ (hc 0 _ rfl)), hc⟩ | 1, h => h | 2, h => h | _ + 3, h => h) (fun q _ _ _ h => match q, h with | 0, _ => trivial | 1, h => h | 2, h => h | _ + 3, h => h) [(true, .agg #[.int .i64 1, .slice none 0 0]), (true, .agg #[.int .i64 1, .slice none 0 0]), (true, .agg #[.bool true, .int .i64 1, .slice none 0 0, .int .i64 1, .slice none 0 0]), (true, .slice ((some ⟨g146, 0, none⟩)) 2 2), (true, .pointer (some ⟨g146, 5, none⟩)), (true, .agg #[.bool false, .int .i64 4, .slice ((some ⟨g131, 0, none⟩)) 1 1, .int .i64 0, .slice none 0 0]), (true, undef), (true, undef), (true, undef), (true, undef), (true, .bool true), (true, undef), (true, undef), (true, .bool true)] [(0, .bool false), (1, .pointer (some ⟨g2, 0, none⟩)), (2, .pointer (some ⟨g9, 0, none⟩)), (3, .pointer (some ⟨g17, 0, none⟩)), (4, .pointer (some ⟨g62, 0, none⟩)), (5, .pointer (some ⟨g89, 0, none⟩)), (6, .slice ((some ⟨g146, 0, none⟩)) 2 2), (7, .pointer (some ⟨g191, 0, none⟩)), (8, .bool true)] (t := 40) (z := #[.int .i64 0, .slice none 0 0, .slice none 0 0, .slice none 0 0, .slice none 0 0, .slice none 0 0]) [6, 7, 8, 9] 3 11 12 9 (by decide) (by decide) (by kernel_rfl) rfl ⟨rfl, rfl, rfl, rfl, rfl, rfl, rfl, rfl, rfl, trivial⟩ (by kernel_rfl) (by kernel_rfl) (by kernel_rfl) ?_ ?_
 ·refine ⟨.inl ⟨rfl, rfl, fun za zw zS zc => ?_⟩, ?_⟩
  ·exact ld_58 rfl (zc.kn.ev rfl) (bkeeps zc.below _ _ ((hB223.cell 0).trans rfl)) (bkeeps zc.below _ _ ((hB223.cell 1).trans rfl)) ⟨_, rfl, Below.refl _ _, fun _ => rfl⟩
  refine ⟨.inl ⟨rfl, rfl, fun za zw zS zc => ?_⟩, ?_⟩
  ·exact ld_58 rfl (zc.kn.ev rfl) (bkeeps zc.below _ _ ((hB223.cell 0).trans rfl)) (bkeeps zc.below _ _ ((hB223.cell 1).trans rfl)) ⟨_, rfl, Below.refl _ _, fun _ => rfl⟩
  refine ⟨.inl ⟨rfl, rfl, fun za zw zS zc => ?_⟩, ?_⟩
  ·exact build_60_0_1_2 rfl (zc.kn.ev rfl) ((evt za 38).trans (valVal1 (zc.dep 0 38 (by kernel_rfl) (by decide)) rfl rfl)) ((evt za 39).trans (valVal1 (zc.dep 1 39 (by kernel_rfl) (by decide)) rfl rfl)) ⟨_, rfl, Below.refl _ _, fun _ => rfl⟩
  refine ⟨.inl ⟨rfl, rfl, fun za zw zS zc => ?_⟩, ?_⟩
  ·exact wp_move rfl (zc.kn.ev rfl) ⟨_, rfl, Below.refl _ _, fun _ => rfl⟩
  refine ⟨.inl ⟨rfl, rfl, fun za zw zS zc => ?_⟩, ?_⟩
  ·exact ix_29 (k := 1) rfl ((evt za 41).trans (valVal1 (zc.dep 3 41 (by kernel_rfl) (by decide)) rfl rfl)) rfl (zc.kn.ev rfl) (by first | omega | (simp; omega)) ⟨_, rfl, Below.refl _ _, fun _ => rfl⟩
  refine ⟨.inl ⟨rfl, rfl, fun za zw zS zc => ?_⟩, ?_⟩
  ·exact ld_60 rfl ((evt za 42).trans (valVal1 (zc.dep 4 42 (by kernel_rfl) (by decide)) rfl rfl)) (bkeeps zc.below _ _ ((hB240.cell 5).trans rfl)) (bkeeps zc.below _ _ ((hB240.cell 6).trans rfl)) (bkeeps zc.below _ _ ((hB240.cell 7).trans rfl)) (bkeeps zc.below _ _ ((hB240.cell 8).trans rfl)) (bkeeps zc.below _ _ ((hB240.cell 9).trans rfl)) ⟨_, rfl, Below.refl _ _, fun _ => rfl⟩
  refine ⟨.inr (.inl ⟨0, rfl, rfl, by kernel_rfl, fun za zw zS zc => ?_⟩), ?_⟩
  ·exact row_29_2 rfl ((evt za 40).trans (valVal1 (zc.dep 2 40 (by kernel_rfl) (by decide)) rfl rfl)) ((evt za 43).trans (valVal1 (zc.dep 5 43 (by kernel_rfl) (by decide)) rfl rfl)) ⟨_, rfl, balloc _ _, ⟨_, rfl, .inr (Nat.le_refl _), fun q u h => blk_cells (cs := [.bool true, .int .i64 1, .slice none 0 0, .int .i64 1, .slice none 0 0, .bool false, .int .i64 4, .slice ((some ⟨g131, 0, none⟩)) 1 1, .int .i64 0, .slice none 0 0]) (Blk.new' rfl) q u h⟩⟩
  refine ⟨.inr (.inl ⟨1, rfl, rfl, by kernel_rfl, fun za zw zS zc => ?_⟩), ?_⟩
  ·obtain ⟨g1, e1, _, hc1⟩ := (zc.made 0 6 44 rfl (by kernel_rfl) (by kernel_rfl))
   exact wp_call (by kernel_rfl) rfl (hv1 ((evt za 44).trans e1)) (drop_wk (isCl_2 hc1 (isLi_of (x := wkE) (isT_lf (by decide)) (isT_lf (by decide))) (hlB6.below zc.below) (by decide))) (fun v w' h => by obtain ⟨⟨u, e2, pA, pB, pC, nA, cA, nB, cB, cC, e3, _⟩, hb⟩ := h; exact ⟨v, rfl, hb, ⟨u, e2, pA, pB, pC, nA, cA, nB, cB, cC, e3⟩⟩)
  refine ⟨.inr (.inl ⟨2, rfl, rfl, by kernel_rfl, fun za zw zS zc => ?_⟩), ?_⟩
  ·obtain ⟨u, e2, hs⟩ := (zc.made 1 7 45 rfl (by kernel_rfl) (by kernel_rfl))
   exact wp_move rfl ((evt za 45).trans e2) ⟨_, rfl, Below.refl _ _, ⟨u, rfl, hs⟩⟩
  refine ⟨.inr (.inl ⟨3, rfl, rfl, by kernel_rfl, fun za zw zS zc => ?_⟩), ?_⟩
  ·obtain ⟨u, e2, hs⟩ := (zc.made 2 8 37 rfl (by kernel_rfl) (by kernel_rfl))
   exact ext2_0 rfl ((evt za 37).trans e2) ⟨_, rfl, Below.refl _ _, hs⟩
  refine ⟨.inl ⟨rfl, rfl, fun za zw zS zc => ?_⟩, ?_⟩
  ·obtain ⟨u, e2, hs⟩ := (zc.pure 2 8 37 rfl (by kernel_rfl) : IsTup _)
   exact ext2_1 rfl ((evt za 37).trans e2) ⟨_, rfl, Below.refl _ _, fun _ => rfl⟩
  refine ⟨.inr (.inr (.inl ⟨rfl, rfl, fun za zw zS zc => ?_⟩)), ?_⟩
  ·exact alloc_40 rfl ⟨rfl, rfl⟩
  refine ⟨.inr (.inr (.inr ⟨rfl, rfl, 9, 46, 9, by kernel_rfl, rfl, by kernel_rfl, fun za zw g zS zc z1 zB zP => ?_⟩)), ?_⟩
  ·obtain ⟨pA, pB, pC, nA, cA, nB, cB, cC, e1⟩ := zP
   rw [e1]
   exact st_40 rfl ((evt za 9).trans z1) ((evt za 46).trans e1) rfl rfl rfl rfl rfl rfl zB (by decide) (fun v => ⟨v, rfl, (((((Upd.at_ _ _ _ _).trans (Upd.at_ _ _ _ _)).trans (Upd.at_ _ _ _ _)).trans (Upd.at_ _ _ _ _)).trans (Upd.at_ _ _ _ _)).trans (Upd.at_ _ _ _ _), (((((zB.set_ 0 _).set_ 1 _).set_ 2 _).set_ 3 _).set_ 4 _).set_ 5 _⟩)
  refine ⟨.inl ⟨rfl, rfl, fun za zw zS zc => ?_⟩, ?_⟩
  ·exact wp_assign rfl ((evt za 47).trans (valVal1 (zc.dep 10 47 (by kernel_rfl) (by decide)) rfl rfl)) ⟨_, rfl, Below.refl _ _, fun _ => rfl⟩
  exact trivial
 ·intro za w243 g244 vy245 zh hb246 hg247 hB248 hP249 hp250 zu
  have hl251 : g2 < g244 := by have z1 := hB221.lt; omega
  have hl252 : g9 < g244 := by have z1 := hB223.lt; omega
  have hl253 : g17 < g244 := by have z1 := hB226.lt; omega
  have hl254 : g52 < g244 := by have z1 := hB229.lt; omega
  have hl255 : g62 < g244 := by have z1 := hB231.lt; omega
  have hl256 : g89 < g244 := by have z1 := hB234.lt; omega
  have hl257 : g117 < g244 := by have z1 := hB236.lt; omega
  have hl258 : g131 < g244 := by have z1 := hB238.lt; omega
  have hl259 : g146 < g244 := by have z1 := hB240.lt; omega
  have hl260 : g165 < g244 := by have z1 := hB242.lt; omega
  have hl261 : g191 < g244 := by have z1 := hB214.lt; omega
  obtain ⟨p262, p263, p264, n265, c266, n267, c268, c269, rfl⟩ := hP249
  have hB270 : Blk w243 g244 40 #[.int .i64 6, .slice p262 n265 c266, .slice p263 n267 c268, .slice none 0 0, .slice none 0 0, .slice p264 1 c269] := hB248
  have zh := zh.cons (d := 9) hp250
  have zh := zh.cons (d := 10) (v := .bool true) (valVal1 (zu 13 10 (by kernel_rfl) (by decide)) rfl rfl)
  clear zu
  refine WE.go zh ?_
  refine WE.next (WC.seq ?_)
  have hB271 := hB221.below hb246
  have hB272 := hB223.below hb246
  have hB273 := hB226.below hb246
  have hB274 := hB229.below hb246
  have hB275 := hB231.below hb246
  have hB276 := hB234.below hb246
  have hB277 := hB236.below hb246
  have hB278 := hB238.below hb246
  have hB279 := hB240.below hb246
  have hB280 := hB242.below hb246
  have hB281 := hB214.below hb246
  have hlP7 : IsLi w243 wkP (.agg #[.bool false, .int .i64 3, .slice ((some ⟨g52, 0, none⟩)) 1 1, .int .i64 0, .slice none 0 0]) := (isLi_of (x := wkP) (isT_mk (by unfold I64; decide) (row1_wk hB274 (by decide))) (isT_lf (by decide)))
  have hlN7 : IsLi w243 wkN (.agg #[.bool true, .int .i64 3, .slice ((some ⟨g52, 0, none⟩)) 1 1, .int .i64 0, .slice none 0 0]) := (isLi_of (x := wkN) (isT_mk (by unfold I64; decide) (row1_wk hB274 (by decide))) (isT_lf (by decide)))
  obtain ⟨b283, o284, A285, C286, A287, C288, ha289, hc290⟩ := InRow.openL hLC
  have hb291 : Below w189.heap.size w189 w243 := (bstep hb218 hb246)
  refine WC.opt [(true, .val (.agg #[.bool false, .int .i64 3, .slice ((some ⟨g52, 0, none⟩)) 1 1, .int .i64 0, .slice none 0 0])), (true, .val (.agg #[.bool true, .int .i64 3, .slice ((some ⟨g52, 0, none⟩)) 1 1, .int .i64 0, .slice none 0 0])), (true, .mem (fun v w' => ∃ a, v = .slice a 2 2 ∧ IsCl w' [wkP, wkN] a 2) (fun v w w' hb h => by obtain ⟨a, e, k⟩ := h; exact ⟨a, e, k.below hb⟩)), (true, .val (.bool true)), (true, .val (.bool true)), ((true && true), .val (.slice ((some ⟨g146, 0, none⟩)) 2 2)), ((true && true), .val (.bool false)), ((true && true), .val (.bool ((!false)))), (true, .val (.bool ((!false)))), (true, .val (.bool ((!false)))), ((true && (!false)), .val (.bool true)), (true, .val (.bool (((!false) && true)))), (true, .val (.bool (((!false) && true)))), ((true && ((!false) && true)), .val (.pointer (some ⟨g191, 5, none⟩))), ((true && ((!false) && true)), .val (.slice pC 1 cC)), ((true && ((!false) && true)), .val (.int .i64 1)), ((true && ((!false) && true)), .val (.bool true)), (true, .val (.bool ((((!false) && true) && true)))), (true, .val (.bool ((((!false) && true) && true)))), ((true && (((!false) && true) && true)), .val (.pointer (some ⟨g191, 5, none⟩))), ((true && (((!false) && true) && true)), .val (.slice pC 1 cC)), ((true && (((!false) && true) && true)), .val (.pointer (some ⟨b283, o284 + 0 * 5, none⟩))), ((true && (((!false) && true) && true)), .val (.pointer (some ⟨b283, o284 + 0 * 5 + 1, none⟩))), ((true && (((!false) && true) && true)), .val (.pointer (some ⟨b283, o284 + 0 * 5 + 1, none⟩))), ((true && (((!false) && true) && true)), .val (.int .i64 ((lget ([wkB]) 0).l.f))), ((true && (((!false) && true) && true)), .val (.bool ((((lget ([wkB]) 0).l.f : Int) == (4 : Int))))), (true, .val (.bool (((((!false) && true) && true) && (((lget ([wkB]) 0).l.f : Int) == (4 : Int)))))), (true, .val (.bool (((((!false) && true) && true) && (((lget ([wkB]) 0).l.f : Int) == (4 : Int)))))), ((true && ((((!false) && true) && true) && (((lget ([wkB]) 0).l.f : Int) == (4 : Int)))), .val (.bool true)), (true, .val (.bool ((((((!false) && true) && true) && (((lget ([wkB]) 0).l.f : Int) == (4 : Int))) && true)))), (true, .val (.bool ((((((!false) && true) && true) && (((lget ([wkB]) 0).l.f : Int) == (4 : Int))) && true)))), ((true && (((((!false) && true) && true) && (((lget ([wkB]) 0).l.f : Int) == (4 : Int))) && true)), .val (.pointer (some ⟨g244, 0, none⟩))), ((true && (((((!false) && true) && true) && (((lget ([wkB]) 0).l.f : Int) == (4 : Int))) && true)), .val (.int .i64 6)), ((true && (((((!false) && true) && true) && (((lget ([wkB]) 0).l.f : Int) == (4 : Int))) && true)), .val (.bool true)), (true, .val (.bool (((((((!false) && true) && true) && (((lget ([wkB]) 0).l.f : Int) == (4 : Int))) && true) && true)))), (true, .val (.bool (((((((!false) && true) && true) && (((lget ([wkB]) 0).l.f : Int) == (4 : Int))) && true) && true)))), ((true && ((((((!false) && true) && true) && (((lget ([wkB]) 0).l.f : Int) == (4 : Int))) && true) && true)), .val (.pointer (some ⟨g244, 5, none⟩))), ((true && ((((((!false) && true) && true) && (((lget ([wkB]) 0).l.f : Int) == (4 : Int))) && true) && true)), .val (.slice p264 1 c269)), ((true && ((((((!false) && true) && true) && (((lget ([wkB]) 0).l.f : Int) == (4 : Int))) && true) && true)), .val (.int .i64 1)), ((true && ((((((!false) && true) && true) && (((lget ([wkB]) 0).l.f : Int) == (4 : Int))) && true) && true)), .val (.bool true)), (true, .val (.bool ((((((((!false) && true) && true) && (((lget ([wkB]) 0).l.f : Int) == (4 : Int))) && true) && true) && true)))), (true, .val (.bool ((((((((!false) && true) && true) && (((lget ([wkB]) 0).l.f : Int) == (4 : Int))) && true) && true) && true))))] [(1, .pointer (some ⟨g2, 0, none⟩)), (2, .pointer (some ⟨g9, 0, none⟩)), (3, .pointer (some ⟨g17, 0, none⟩)), (4, .pointer (some ⟨g62, 0, none⟩)), (5, .pointer (some ⟨g89, 0, none⟩)), (6, .slice ((some ⟨g146, 0, none⟩)) 2 2), (7, .pointer (some ⟨g191, 0, none⟩)), (8, .bool true), (9, .pointer (some ⟨g244, 0, none⟩)), (10, .bool true)] ⟨rfl, rfl, rfl, rfl, rfl, rfl, rfl, rfl, rfl, rfl, trivial⟩ (by kernel_rfl) (by kernel_rfl) (by kernel_rfl) ?_ ?_
  ·refine ⟨⟨true, .none rfl, fun h w => optUndef h, fun zβ za zw zc => ?_⟩, ?_⟩
   ·exact ld_60 rfl (zc.kn.ev rfl) (bkeeps zc.below _ _ ((hB275.cell 0).trans rfl)) (bkeeps zc.below _ _ ((hB275.cell 1).trans rfl)) (bkeeps zc.below _ _ ((hB275.cell 2).trans rfl)) (bkeeps zc.below _ _ ((hB275.cell 3).trans rfl)) (bkeeps zc.below _ _ ((hB275.cell 4).trans rfl)) ⟨_, rfl, Below.refl _ _, optDef zβ rfl⟩
   refine ⟨⟨true, .none rfl, fun h w => optUndef h, fun zβ za zw zc => ?_⟩, ?_⟩
   ·exact ld_60 rfl (zc.kn.ev rfl) (bkeeps zc.below _ _ ((hB276.cell 0).trans rfl)) (bkeeps zc.below _ _ ((hB276.cell 1).trans rfl)) (bkeeps zc.below _ _ ((hB276.cell 2).trans rfl)) (bkeeps zc.below _ _ ((hB276.cell 3).trans rfl)) (bkeeps zc.below _ _ ((hB276.cell 4).trans rfl)) ⟨_, rfl, Below.refl _ _, optDef zβ rfl⟩
   refine ⟨⟨true, .none rfl, fun h w => optUndef h, fun zβ za zw zc => ?_⟩, ?_⟩
   ·exact row_29_2 rfl ((evt za 48).trans (optVal (zc.dep 0 48 (by kernel_rfl)) rfl rfl)) ((evt za 49).trans (optVal (zc.dep 1 49 (by kernel_rfl)) rfl rfl)) ⟨_, rfl, balloc _ _, optDef zβ ⟨_, rfl, isCl_2 (blk_cells (cs := [.bool false, .int .i64 3, .slice ((some ⟨g52, 0, none⟩)) 1 1, .int .i64 0, .slice none 0 0, .bool true, .int .i64 3, .slice ((some ⟨g52, 0, none⟩)) 1 1, .int .i64 0, .slice none 0 0]) (Blk.new' rfl)) (hlP7.below (bstep zc.below (balloc _ _))) (hlN7.below (bstep zc.below (balloc _ _))) (by decide)⟩⟩
   refine ⟨⟨true, .none rfl, fun h w => optUndef h, fun zβ za zw zc => ?_⟩, ?_⟩
   ·obtain ⟨a9, e9, h9⟩ := (optMem (zc.dep 2 50 (by kernel_rfl)) rfl rfl)
    exact wp_call (by kernel_rfl) rfl (hv1 ((evt za 50).trans e9)) (triv_wk1 h9) (fun v w' h => ⟨v, rfl, h.2, optDef zβ h.1⟩)
   refine ⟨⟨true, .none rfl, fun h w => optUndef h, fun zβ za zw zc => ?_⟩, ?_⟩
   ·exact wp_move rfl ((evt za 51).trans (optVal (zc.dep 3 51 (by kernel_rfl)) rfl rfl)) ⟨_, rfl, Below.refl _ _, optDef zβ rfl⟩
   refine ⟨⟨_, .yes (c := true) (d := true) rfl (fun v w h => h), fun h w => optUndef h, fun zβ za zw zc => ?_⟩, ?_⟩
   ·exact wp_move rfl (zc.kn.ev rfl) ⟨_, rfl, Below.refl _ _, optDef zβ rfl⟩
   refine ⟨⟨_, .yes (c := true) (d := true) rfl (fun v w h => h), fun h w => optUndef h, fun zβ za zw zc => ?_⟩, ?_⟩
   ·exact wp_call (by kernel_rfl) rfl (hv1 ((evt za 53).trans (optVal (zc.dep 5 53 (by kernel_rfl)) rfl rfl))) (triv_wk2 ((hcc6.below hb246).below zc.below)) (fun v w' h => ⟨v, rfl, h.2, optDef zβ h.1⟩)
   refine ⟨⟨_, .yes (c := true) (d := true) rfl (fun v w h => h), fun h w => optUndef h, fun zβ za zw zc => ?_⟩, ?_⟩
   ·exact wp_not rfl ((evt za 54).trans (optVal (zc.dep 6 54 (by kernel_rfl)) rfl rfl)) ⟨_, rfl, Below.refl _ _, optDef zβ rfl⟩
   refine ⟨⟨true, .none rfl, fun h w => optUndef h, fun zβ za zw zc => ?_⟩, ?_⟩
   ·exact wp_pickT rfl ((evt za 52).trans (optVal (zc.dep 4 52 (by kernel_rfl)) rfl rfl)) ((evt za 55).trans (optVal (zc.dep 7 55 (by kernel_rfl)) rfl rfl)) ⟨_, rfl, Below.refl _ _, optDef zβ rfl⟩
   refine ⟨⟨true, .none rfl, fun h w => optUndef h, fun zβ za zw zc => ?_⟩, ?_⟩
   ·exact wp_move rfl ((evt za 56).trans (optVal (zc.dep 8 56 (by kernel_rfl)) rfl rfl)) ⟨_, rfl, Below.refl _ _, optDef zβ rfl⟩
   refine ⟨⟨_, .yes (c := (!false)) (d := true) rfl (fun v w h => h), fun h w => optUndef h, fun zβ za zw zc => ?_⟩, ?_⟩
   ·exact wp_move rfl (zc.kn.ev rfl) ⟨_, rfl, Below.refl _ _, optDef zβ rfl⟩
   refine ⟨⟨true, .none rfl, fun h w => optUndef h, fun zβ za zw zc => ?_⟩, ?_⟩
   ·exact wp_and rfl ((evt za 57).trans (optVal (zc.dep 9 57 (by kernel_rfl)) rfl rfl)) (fun hp => ((evt za 58).trans (optVal (zc.dep 10 58 (by kernel_rfl)) rfl rfl))) ⟨_, rfl, Below.refl _ _, optDef zβ rfl⟩
   refine ⟨⟨true, .none rfl, fun h w => optUndef h, fun zβ za zw zc => ?_⟩, ?_⟩
   ·exact wp_move rfl ((evt za 59).trans (optVal (zc.dep 11 59 (by kernel_rfl)) rfl rfl)) ⟨_, rfl, Below.refl _ _, optDef zβ rfl⟩
   refine ⟨⟨_, .yes (c := ((!false) && true)) (d := true) rfl (fun v w h => h), fun h w => optUndef h, fun zβ za zw zc => ?_⟩, ?_⟩
   ·exact fld_40_5 rfl (zc.kn.ev rfl) ⟨_, rfl, Below.refl _ _, optDef zβ rfl⟩
   refine ⟨⟨_, .yes (c := ((!false) && true)) (d := true) rfl (fun v w h => h), fun h w => optUndef h, fun zβ za zw zc => ?_⟩, ?_⟩
   ·exact ld_29 rfl ((evt za 61).trans (optVal (zc.dep 13 61 (by kernel_rfl)) rfl rfl)) (bkeeps zc.below _ _ ((hB281.cell 5).trans rfl)) ⟨_, rfl, Below.refl _ _, optDef zβ rfl⟩
   refine ⟨⟨_, .yes (c := ((!false) && true)) (d := true) rfl (fun v w h => h), fun h w => optUndef h, fun zβ za zw zc => ?_⟩, ?_⟩
   ·exact len_29 rfl ((evt za 62).trans (optVal (zc.dep 14 62 (by kernel_rfl)) rfl rfl)) ⟨_, rfl, Below.refl _ _, optDef zβ rfl⟩
   refine ⟨⟨_, .yes (c := ((!false) && true)) (d := true) rfl (fun v w h => h), fun h w => optUndef h, fun zβ za zw zc => ?_⟩, ?_⟩
   ·exact eql_3 rfl ((evt za 63).trans (optVal (zc.dep 15 63 (by kernel_rfl)) rfl rfl)) (zc.kn.ev rfl) ⟨_, rfl, Below.refl _ _, optDef zβ rfl⟩
   refine ⟨⟨true, .none rfl, fun h w => optUndef h, fun zβ za zw zc => ?_⟩, ?_⟩
   ·exact wp_and rfl ((evt za 60).trans (optVal (zc.dep 12 60 (by kernel_rfl)) rfl rfl)) (fun hp => ((evt za 64).trans (optVal (zc.dep 16 64 (by kernel_rfl)) rfl rfl))) ⟨_, rfl, Below.refl _ _, optDef zβ rfl⟩
   refine ⟨⟨true, .none rfl, fun h w => optUndef h, fun zβ za zw zc => ?_⟩, ?_⟩
   ·exact wp_move rfl ((evt za 65).trans (optVal (zc.dep 17 65 (by kernel_rfl)) rfl rfl)) ⟨_, rfl, Below.refl _ _, optDef zβ rfl⟩
   refine ⟨⟨_, .yes (c := (((!false) && true) && true)) (d := true) rfl (fun v w h => h), fun h w => optUndef h, fun zβ za zw zc => ?_⟩, ?_⟩
   ·exact fld_40_5 rfl (zc.kn.ev rfl) ⟨_, rfl, Below.refl _ _, optDef zβ rfl⟩
   refine ⟨⟨_, .yes (c := (((!false) && true) && true)) (d := true) rfl (fun v w h => h), fun h w => optUndef h, fun zβ za zw zc => ?_⟩, ?_⟩
   ·exact ld_29 rfl ((evt za 67).trans (optVal (zc.dep 19 67 (by kernel_rfl)) rfl rfl)) (bkeeps zc.below _ _ ((hB281.cell 5).trans rfl)) ⟨_, rfl, Below.refl _ _, optDef zβ rfl⟩
   refine ⟨⟨_, .yes (c := (((!false) && true) && true)) (d := true) rfl (fun v w h => h), fun h w => optUndef h, fun zβ za zw zc => ?_⟩, ?_⟩
   ·exact ix_29 (k := 0) rfl ((evt za 68).trans (optVal (zc.dep 20 68 (by kernel_rfl)) rfl rfl)) (ha289 0 (by first | omega | (have zz := zβ; simp only [Bool.and_eq_true, Bool.or_eq_true, Bool.true_and, Bool.not_eq_true', Bool.or_eq_false_iff, Bool.and_eq_false_iff, beq_eq_false_iff_ne, ne_eq, beq_iff_eq, decide_eq_true_eq, decide_eq_false_iff_not, bne_iff_ne, bne_eq_false_iff_eq] at zz; omega))) (zc.kn.ev rfl) (by first | omega | (have zz := zβ; simp only [Bool.and_eq_true, Bool.or_eq_true, Bool.true_and, Bool.not_eq_true', Bool.or_eq_false_iff, Bool.and_eq_false_iff, beq_eq_false_iff_ne, ne_eq, beq_iff_eq, decide_eq_true_eq, decide_eq_false_iff_not, bne_iff_ne, bne_eq_false_iff_eq] at zz; omega)) ⟨_, rfl, Below.refl _ _, optDef zβ rfl⟩
   refine ⟨⟨_, .yes (c := (((!false) && true) && true)) (d := true) rfl (fun v w h => h), fun h w => optUndef h, fun zβ za zw zc => ?_⟩, ?_⟩
   ·exact fld_60_1 rfl ((evt za 69).trans (optVal (zc.dep 21 69 (by kernel_rfl)) rfl rfl)) ⟨_, rfl, Below.refl _ _, optDef zβ rfl⟩
   refine ⟨⟨_, .yes (c := (((!false) && true) && true)) (d := true) rfl (fun v w h => h), fun h w => optUndef h, fun zβ za zw zc => ?_⟩, ?_⟩
   ·exact fld_58_0 rfl ((evt za 70).trans (optVal (zc.dep 22 70 (by kernel_rfl)) rfl rfl)) ⟨_, rfl, Below.refl _ _, optDef zβ rfl⟩
   refine ⟨⟨_, .yes (c := (((!false) && true) && true)) (d := true) rfl (fun v w h => h), fun h w => optUndef h, fun zβ za zw zc => ?_⟩, ?_⟩
   ·exact ld_3 rfl ((evt za 71).trans (optVal (zc.dep 23 71 (by kernel_rfl)) rfl rfl)) (bkeeps (bstep hb291 zc.below) _ _ (hc290 0 (by first | omega | (have zz := zβ; simp only [Bool.and_eq_true, Bool.or_eq_true, Bool.true_and, Bool.not_eq_true', Bool.or_eq_false_iff, Bool.and_eq_false_iff, beq_eq_false_iff_ne, ne_eq, beq_iff_eq, decide_eq_true_eq, decide_eq_false_iff_not, bne_iff_ne, bne_eq_false_iff_eq] at zz; omega))).2.1) ⟨_, rfl, Below.refl _ _, optDef zβ rfl⟩
   refine ⟨⟨_, .yes (c := (((!false) && true) && true)) (d := true) rfl (fun v w h => h), fun h w => optUndef h, fun zβ za zw zc => ?_⟩, ?_⟩
   ·exact eql_3 rfl ((evt za 72).trans (optVal (zc.dep 24 72 (by kernel_rfl)) rfl rfl)) (zc.kn.ev rfl) ⟨_, rfl, Below.refl _ _, optDef zβ rfl⟩
   refine ⟨⟨true, .none rfl, fun h w => optUndef h, fun zβ za zw zc => ?_⟩, ?_⟩
   ·exact wp_and rfl ((evt za 66).trans (optVal (zc.dep 18 66 (by kernel_rfl)) rfl rfl)) (fun hp => ((evt za 73).trans (optVal (zc.dep 25 73 (by kernel_rfl)) rfl rfl))) ⟨_, rfl, Below.refl _ _, optDef zβ rfl⟩
   refine ⟨⟨true, .none rfl, fun h w => optUndef h, fun zβ za zw zc => ?_⟩, ?_⟩
   ·exact wp_move rfl ((evt za 74).trans (optVal (zc.dep 26 74 (by kernel_rfl)) rfl rfl)) ⟨_, rfl, Below.refl _ _, optDef zβ rfl⟩
   refine ⟨⟨_, .yes (c := ((((!false) && true) && true) && (((lget ([wkB]) 0).l.f : Int) == (4 : Int)))) (d := true) rfl (fun v w h => h), fun h w => optUndef h, fun zβ za zw zc => ?_⟩, ?_⟩
   ·exact wp_move rfl (zc.kn.ev rfl) ⟨_, rfl, Below.refl _ _, optDef zβ rfl⟩
   refine ⟨⟨true, .none rfl, fun h w => optUndef h, fun zβ za zw zc => ?_⟩, ?_⟩
   ·exact wp_and rfl ((evt za 75).trans (optVal (zc.dep 27 75 (by kernel_rfl)) rfl rfl)) (fun hp => ((evt za 76).trans (optVal (zc.dep 28 76 (by kernel_rfl)) rfl (bMk zβ hp)))) ⟨_, rfl, Below.refl _ _, optDef zβ rfl⟩
   refine ⟨⟨true, .none rfl, fun h w => optUndef h, fun zβ za zw zc => ?_⟩, ?_⟩
   ·exact wp_move rfl ((evt za 77).trans (optVal (zc.dep 29 77 (by kernel_rfl)) rfl rfl)) ⟨_, rfl, Below.refl _ _, optDef zβ rfl⟩
   refine ⟨⟨_, .yes (c := (((((!false) && true) && true) && (((lget ([wkB]) 0).l.f : Int) == (4 : Int))) && true)) (d := true) rfl (fun v w h => h), fun h w => optUndef h, fun zβ za zw zc => ?_⟩, ?_⟩
   ·exact fld_40_0 rfl (zc.kn.ev rfl) ⟨_, rfl, Below.refl _ _, optDef zβ rfl⟩
   refine ⟨⟨_, .yes (c := (((((!false) && true) && true) && (((lget ([wkB]) 0).l.f : Int) == (4 : Int))) && true)) (d := true) rfl (fun v w h => h), fun h w => optUndef h, fun zβ za zw zc => ?_⟩, ?_⟩
   ·exact ld_35 rfl ((evt za 79).trans (optVal (zc.dep 31 79 (by kernel_rfl)) rfl zβ)) (bkeeps zc.below _ _ ((hB270.cell 0).trans rfl)) ⟨_, rfl, Below.refl _ _, optDef zβ rfl⟩
   refine ⟨⟨_, .yes (c := (((((!false) && true) && true) && (((lget ([wkB]) 0).l.f : Int) == (4 : Int))) && true)) (d := true) rfl (fun v w h => h), fun h w => optUndef h, fun zβ za zw zc => ?_⟩, ?_⟩
   ·exact eql_35 rfl ((evt za 80).trans (optVal (zc.dep 32 80 (by kernel_rfl)) rfl zβ)) (zc.kn.ev rfl) ⟨_, rfl, Below.refl _ _, optDef zβ rfl⟩
   refine ⟨⟨true, .none rfl, fun h w => optUndef h, fun zβ za zw zc => ?_⟩, ?_⟩
   ·exact wp_and rfl ((evt za 78).trans (optVal (zc.dep 30 78 (by kernel_rfl)) rfl rfl)) (fun hp => ((evt za 81).trans (optVal (zc.dep 33 81 (by kernel_rfl)) rfl (bMk zβ hp)))) ⟨_, rfl, Below.refl _ _, optDef zβ rfl⟩
   refine ⟨⟨true, .none rfl, fun h w => optUndef h, fun zβ za zw zc => ?_⟩, ?_⟩
   ·exact wp_move rfl ((evt za 82).trans (optVal (zc.dep 34 82 (by kernel_rfl)) rfl rfl)) ⟨_, rfl, Below.refl _ _, optDef zβ rfl⟩
   refine ⟨⟨_, .yes (c := ((((((!false) && true) && true) && (((lget ([wkB]) 0).l.f : Int) == (4 : Int))) && true) && true)) (d := true) rfl (fun v w h => h), fun h w => optUndef h, fun zβ za zw zc => ?_⟩, ?_⟩
   ·exact fld_40_5 rfl (zc.kn.ev rfl) ⟨_, rfl, Below.refl _ _, optDef zβ rfl⟩
   refine ⟨⟨_, .yes (c := ((((((!false) && true) && true) && (((lget ([wkB]) 0).l.f : Int) == (4 : Int))) && true) && true)) (d := true) rfl (fun v w h => h), fun h w => optUndef h, fun zβ za zw zc => ?_⟩, ?_⟩
   ·exact ld_29 rfl ((evt za 84).trans (optVal (zc.dep 36 84 (by kernel_rfl)) rfl zβ)) (bkeeps zc.below _ _ ((hB270.cell 5).trans rfl)) ⟨_, rfl, Below.refl _ _, optDef zβ rfl⟩
   refine ⟨⟨_, .yes (c := ((((((!false) && true) && true) && (((lget ([wkB]) 0).l.f : Int) == (4 : Int))) && true) && true)) (d := true) rfl (fun v w h => h), fun h w => optUndef h, fun zβ za zw zc => ?_⟩, ?_⟩
   ·exact len_29 rfl ((evt za 85).trans (optVal (zc.dep 37 85 (by kernel_rfl)) rfl zβ)) ⟨_, rfl, Below.refl _ _, optDef zβ rfl⟩
   refine ⟨⟨_, .yes (c := ((((((!false) && true) && true) && (((lget ([wkB]) 0).l.f : Int) == (4 : Int))) && true) && true)) (d := true) rfl (fun v w h => h), fun h w => optUndef h, fun zβ za zw zc => ?_⟩, ?_⟩
   ·exact eql_3 rfl ((evt za 86).trans (optVal (zc.dep 38 86 (by kernel_rfl)) rfl zβ)) (zc.kn.ev rfl) ⟨_, rfl, Below.refl _ _, optDef zβ rfl⟩
   refine ⟨⟨true, .none rfl, fun h w => optUndef h, fun zβ za zw zc => ?_⟩, ?_⟩
   ·exact wp_and rfl ((evt za 83).trans (optVal (zc.dep 35 83 (by kernel_rfl)) rfl rfl)) (fun hp => ((evt za 87).trans (optVal (zc.dep 39 87 (by kernel_rfl)) rfl (bMk zβ hp)))) ⟨_, rfl, Below.refl _ _, optDef zβ rfl⟩
   refine ⟨⟨true, .none rfl, fun h w => optUndef h, fun zβ za zw zc => ?_⟩, ?_⟩
   ·exact wp_assign rfl ((evt za 88).trans (optVal (zc.dep 40 88 (by kernel_rfl)) rfl rfl)) ⟨_, rfl, Below.refl _ _, optDef zβ rfl⟩
   exact trivial
  ·intro za w292 zh hb293 zu
   have zh := zh.cons (d := 0) (v := .bool ((((((((!false) && true) && true) && (((lget ([wkB]) 0).l.f : Int) == (4 : Int))) && true) && true) && true))) (optVal (zu 41 0 (by kernel_rfl)) rfl rfl)
   clear zu
   refine WE.go zh ?_
   refine WE.next (WC.ret (WE.ret1 rfl rfl ?_))
   have hb294 : Below w.heap.size w w292 := (bstep (bstep hb209 hb291) hb293)
   exact ⟨_, rfl, congrArg Value.bool (by first | rfl | decide | simp), hb294⟩
end Go.Proofs.Ytnmopmdpnpcdhaa

/- The walk through TidyEnds. -/
namespace Go.Proofs.Ytnmopmdpnpcdhaa
open Go.RowKit Go
set_option linter.unusedVariables false
set_option linter.unusedSimpArgs false
theorem InRow.stepAt {w : World} {L : List (List Li)} {a : Option Addr} (h : InRow eltS (fun _ => True) w L a) {k : Nat} (hk : k < L.length) : ∃ (b o : Nat) (r : Int) (p1 : Option Addr) (n1 c1 : Nat) (p2 : Option Addr) (n2 c2 : Nat) (p : Option Addr) (c : Nat), a = some ⟨b, o, none⟩ ∧ w.cell? ⟨b, o + k * 6, none⟩ = some (.int .i64 r) ∧ w.cell? ⟨b, o + k * 6 + 1, none⟩ = some (.slice p1 n1 c1) ∧ w.cell? ⟨b, o + k * 6 + 2, none⟩ = some (.slice p2 n2 c2) ∧ w.cell? ⟨b, o + k * 6 + 3, none⟩ = some (.slice none 0 0) ∧ w.cell? ⟨b, o + k * 6 + 4, none⟩ = some (.slice none 0 0) ∧ w.cell? ⟨b, o + k * 6 + 5, none⟩ = some (.slice p (cg L k).length c) ∧ IsLs w (cg L k) p ∧ (cg L k).length ≤ c ∧ c ≤ maxLen := by
 obtain ⟨b, o, cs, e, _, ⟨r, p1, n1, c1, p2, n2, c2, p, c, rfl, h1, h2, h3⟩, h4⟩ := h k hk
 rw [cg_lt hk]
 exact ⟨b, o, r, p1, n1, c1, p2, n2, c2, p, c, e, h4 0 (by decide), h4 1 (by decide), h4 2 (by decide), h4 3 (by decide), h4 4 (by decide), h4 5 (by decide), h3, h1, h2⟩
theorem Tdy.at_ {l L : List (List Li)} {d e : List Li} {k : Nat} (h : Tdy l d (L.drop k) e) (hk : k < L.length) : (∃ q, wayO l d = some (q, cg L k)) ∧ Tdy l (cg L k) (L.drop (k + 1)) e := by
 rw [List.drop_eq_getElem_cons hk] at h
 rw [cg_lt hk]; exact h
theorem wayO_none {l : List (List Li)} {d : List Li} (h : wayO l d = none) : dropO d = none ∧ cutBy l d = none := by
 unfold wayO at h
 split at h
 ·cases h
 ·rename_i q; exact ⟨q, h⟩
theorem Tdy.len {l : List (List Li)} : ∀ {L : List (List Li)} {d e : List Li}, Tdy l d L e → L.length ≤ d.length
 | [], _, _, _ => Nat.zero_le _
 | x :: r, d, e, ⟨⟨q, h0⟩, h⟩ => by
  have h1 := Tdy.len h
  obtain ⟨i, hi, he⟩ := wayO_step h0
  have he2 : x = d.eraseIdx i := he
  have h2 : x.length = d.length - 1 := by rw [he2]; exact List.length_eraseIdx_of_lt hi
  simp only [List.length_cons]; omega
structure TE where
 a : Option Addr
 c : Nat
 l : List Li
 k : Nat
set_option maxRecDepth 100000 in
theorem ends_any (l : List (List Li)) (d : List Li) (w : World) (la da : Option Addr) (lc dc : Nat) (h : IsCs w l la) (hln : l.length ≤ 1048576) (hok : ClsOk l) (hd : IsCl w d da dc) (hld : d.length ≤ 1048576) :
  Calls Try.prog 4 #[.slice la l.length lc, .slice da d.length dc] w (Ret fun v' w' => v' = .bool true ∧ Below w.heap.size w w') := by
 have hcap := hd.cap
 have hdl := hd.len
 refine Calls.walk (l := [.slice la l.length lc, .slice da d.length dc]) Try.func4 rfl (by kernel_rfl) ?_
 refine WC.sub (K' := [(0, .slice la l.length lc), (1, .slice da d.length dc)]) ⟨rfl, rfl, trivial⟩ ?_
 refine WC.seq (WC.region (WL.asg rfl rfl rfl rfl rfl (WL.nil (WE.next (WC.seq (WC.seq (WC.region (WL.mv rfl rfl rfl rfl rfl ?_))))))))
 refine WL.call rfl rfl rfl (fun za zh zC => wp_call (by kernel_rfl) rfl (hv1 (zh.ev rfl))) (large_any d _ _ _ (hd.below (Below.refl _ _)) hld) ?_
 rintro _ w2 ⟨rfl, hq1⟩
 refine WL.nil (WE.next ?_)
 refine WC.cond rfl (fun h3 => ?_) (fun h3 => ?_)
 ·skip
  refine WC.seq (WC.region ?_)
  refine WL.call rfl rfl rfl (fun za zh zC => wp_call (by kernel_rfl) rfl (hv0)) (wakes_any _) ?_
  rintro _ w5 ⟨rfl, hq4⟩
  refine WL.asg rfl rfl rfl rfl rfl (WL.nil (WE.next (WC.ret (WE.thenRet (WE.ret1 rfl rfl ?_)))))
  have hb6 : Below w.heap.size w w5 := (bstep hq1 hq4)
  exact ⟨_, rfl, congrArg Value.bool (by first | rfl | simp), hb6⟩
 ·skip
  refine WC.skip (WE.next (WC.seq (WC.region (WL.mv rfl rfl rfl rfl rfl ?_))))
  refine WL.call rfl rfl rfl (fun za zh zC => wp_call (by kernel_rfl) rfl (hv1 (zh.ev rfl))) (some_any l _ _ _ (h.below hq1) hln hok) ?_
  rintro _ w7 ⟨⟨ra9, rc9, L9, rfl, hL9, hLm9, hL89⟩, hb39⟩
  have hok9 : ClsOk L9 := fun c hc => hok c (hLm9 c hc)
  refine WL.asg rfl rfl rfl rfl rfl (WL.nil (WE.next (WC.seq (WC.region (WL.mv rfl rfl rfl rfl rfl (WL.asg rfl rfl rfl rfl rfl (WL.nil (WE.next (WC.seq (WC.seq (WC.region (WL.mv rfl rfl rfl rfl rfl (WL.mv rfl rfl rfl rfl rfl ?_)))))))))))))
  have hb8 : Below w.heap.size w w7 := (bstep hq1 hb39)
  refine WL.call rfl rfl rfl (fun za zh zC => wp_call (by kernel_rfl) rfl (hv2 (zh.ev rfl) (zh.ev rfl))) (tidy_any L9 d _ _ _ _ _ (hL9.below (Below.refl _ _)) (by omega) hok9 (hd.below hb8) hld) ?_
  rintro _ w9 ⟨⟨rb9, rd9, S9, e9, rfl, hS9, hT9, hW9⟩, hb59⟩
  have hb10 : Below w.heap.size w w9 := (bstep hb8 hb59)
  have hsl9 := Tdy.len hT9
  have hd9 : IsCl w9 d da dc := hd.below hb10
  refine WL.val (.int .i64 ((((List.length S9) : Nat) : Int))) rfl rfl rfl (fun za zC zh zk => len_47 rfl (zh.ev rfl) zk) ?_
  refine WL.mv rfl rfl rfl rfl rfl (WL.nil (WE.next (WC.block ?_)))
  refine WC.loop (X := TE) (fun x => S9.length - x.k) (fun x => [(0, .slice ra9 ((List.length L9)) rc9), (1, .slice da d.length dc), (5, .slice x.a x.l.length x.c), (13, .bool ((largeB d))), (20, .slice rb9 ((List.length S9)) rd9), (21, .int .i64 ((((List.length S9) : Nat) : Int))), (22, .int .i64 (((x.k : Nat) : Int)))]) (fun x w11 => x.k ≤ S9.length ∧ Tdy L9 x.l (S9.drop x.k) e9 ∧ IsCl w9 x.l x.a x.c ∧ (∀ y ∈ x.l, y ∈ d) ∧ x.l.length ≤ 1048576 ∧ Below w.heap.size w w11 ∧ Below w7.heap.size w7 w11 ∧ Below w9.heap.size w9 w11) (⟨da, dc, d, 0⟩) ⟨rfl, rfl, rfl, rfl, rfl, rfl, rfl, trivial⟩ ?_ ?_
  ·exact ⟨Nat.zero_le _, hT9, hd9, fun y hy => hy, hld, hb10, hb59, (Below.refl _ _)⟩
  ·rintro x w11 ⟨hk, hT, hC, hmem, hxl, hb12, hb13, hb14⟩
   refine WC.seq (WC.region ?_)
   refine WL.val (.bool ((decide ((((x.k : Nat) : Int) : Int) < ((((List.length S9) : Nat) : Int) : Int))))) rfl rfl rfl (fun za zC zh zk => lss_3 rfl (zh.ev rfl) (zh.ev rfl) zk) ?_
   refine WL.nil (WE.next (WC.seq ?_))
   refine WC.cond rfl (fun h15 => ?_) (fun h15 => ?_)
   ·have h15 : (((x.k : Nat) : Int) : Int) < ((((List.length S9) : Nat) : Int) : Int) := by simpa using h15
    refine WC.skip (WE.next (WC.seq (WC.block (WC.seq ?_))))
    have hkl : x.k < S9.length := by (try dsimp only at *); omega
    obtain ⟨b9, o9, r9, pA9, nA9, cA9, pB9, nB9, cB9, pS9, cS9, ea9, hz0, hz1, hz2, hz3, hz4, hz5, hsL9, hs19, hs29⟩ := InRow.stepAt hS9 hkl
    obtain ⟨⟨q9, hq9⟩, hT2⟩ := Tdy.at_ hT hkl
    obtain ⟨i9, hi9, he9⟩ := wayO_step hq9
    have he9b : cg S9 x.k = x.l.eraseIdx i9 := he9
    have hel9 : (cg S9 x.k).length = x.l.length - 1 := by rw [he9b]; exact List.length_eraseIdx_of_lt hi9
    have hm2 : ∀ y ∈ cg S9 x.k, y ∈ d := fun y hy => hmem y (List.mem_of_mem_eraseIdx (he9b ▸ hy))
    refine WC.region ?_
    refine WL.val _ rfl rfl rfl (fun za zC zh zk => ix_47 (k := x.k) rfl (zh.ev rfl) ea9 (zh.ev rfl) (by first | omega | (simp; omega)) zk) ?_
    refine WL.val _ rfl rfl rfl (fun za zC zh zk => ld_40 rfl (zh.ev rfl) (bkeeps hb14 _ _ hz0) (bkeeps hb14 _ _ hz1) (bkeeps hb14 _ _ hz2) (bkeeps hb14 _ _ hz3) (bkeeps hb14 _ _ hz4) (bkeeps hb14 _ _ hz5) zk) ?_
    refine WL.step (post := NewBlk w11 40 #[.int .i64 0, .slice none 0 0, .slice none 0 0, .slice none 0 0, .slice none 0 0, .slice none 0 0]) rfl rfl rfl (fun za zC zh zk => alloc_40 rfl (zk _ _ (newBlk _ _ _))) ?_
    rintro _ w16 ⟨g17, rfl, hg18, hB19, hb20, hz21⟩
    have hl22 : w.heap.size ≤ g17 := by have z2 := (hb12).size; omega
    have hl23 : w7.heap.size ≤ g17 := by have z2 := (hb13).size; omega
    have hl24 : w9.heap.size ≤ g17 := by have z2 := (hb14).size; omega
    refine WL.step (post := fun _ w' => Upd g17 w16 w' ∧ Blk w' g17 40 #[.int .i64 r9, .slice pA9 nA9 cA9, .slice pB9 nB9 cB9, .slice none 0 0, .slice none 0 0, .slice pS9 ((cg S9 x.k).length) cS9]) rfl rfl rfl (fun za zC zh zk => st_40 rfl (zh.ev rfl) (zh.ev rfl) rfl rfl rfl rfl rfl rfl hB19 (by first | decide | simp) (fun v => zk v _ ⟨(((((Upd.at_ _ _ _ _).trans (Upd.at_ _ _ _ _)).trans (Upd.at_ _ _ _ _)).trans (Upd.at_ _ _ _ _)).trans (Upd.at_ _ _ _ _)).trans (Upd.at_ _ _ _ _), (((((hB19.set_ 0 _).set_ 1 _).set_ 2 _).set_ 3 _).set_ 4 _).set_ 5 _⟩)) ?_
    rintro v28 w25 ⟨hu26, hB27⟩
    have hb29 : Below w.heap.size w w16 := (bstep hb12 hb20)
    have hb30 : Below w7.heap.size w7 w16 := (bstep hb13 hb20)
    have hb31 : Below w9.heap.size w9 w16 := (bstep hb14 hb20)
    have hb32 := upd_below hb29 hu26 (by omega)
    have hb33 := upd_below hb30 hu26 (by omega)
    have hb34 := upd_below hb31 hu26 (by omega)
    refine WL.nil (WE.next (WC.seq (WC.seq (WC.region ?_))))
    refine WL.val _ rfl rfl rfl (fun za zC zh zk => fld_40_5 rfl (zh.ev rfl) zk) ?_
    refine WL.val _ rfl rfl rfl (fun za zC zh zk => ld_29 rfl (zh.ev rfl) ((hB27.cell 5).trans rfl) zk) ?_
    refine WL.val (.int .i64 ((((cg S9 x.k).length : Nat) : Int))) rfl rfl rfl (fun za zC zh zk => len_29 rfl (zh.ev rfl) zk) ?_
    refine WL.mv rfl rfl rfl rfl rfl ?_
    refine WL.val (.int .i64 (((x.l.length : Nat) : Int))) rfl rfl rfl (fun za zC zh zk => len_29 rfl (zh.ev rfl) zk) ?_
    refine WL.val (.int .i64 ((((x.l.length : Nat) : Int) - 1))) rfl rfl rfl (fun za zC zh zk => subb_3 rfl (zh.ev rfl) (zh.ev rfl) (wrap_eq (by omega) (by omega) (by omega)) zk) ?_
    refine WL.val (.bool ((((((cg S9 x.k).length : Nat) : Int) : Int) != ((((x.l.length : Nat) : Int) - 1) : Int)))) rfl rfl rfl (fun za zC zh zk => neq_3 rfl (zh.ev rfl) (zh.ev rfl) zk) ?_
    refine WL.nil (WE.next ?_)
    refine WC.condF rfl ((by simp; omega)) ?_
    refine WC.skip (WE.next (WC.region ?_))
    refine WL.val _ rfl rfl rfl (fun za zC zh zk => fld_40_5 rfl (zh.ev rfl) zk) ?_
    refine WL.val _ rfl rfl rfl (fun za zC zh zk => ld_29 rfl (zh.ev rfl) ((hB27.cell 5).trans rfl) zk) ?_
    refine WL.asg rfl rfl rfl rfl rfl (WL.nil (WE.blockNormal (WE.next (WC.region ?_))))
    refine WL.val (.int .i64 ((((x.k + 1) : Nat) : Int))) rfl rfl rfl (fun za zC zh zk => addb_3 rfl (zh.ev rfl) (zh.ev rfl) (wrap_eq (by omega) (by omega) (by omega)) zk) ?_
    refine WL.mv rfl rfl rfl rfl rfl (WL.nil ?_)
    refine WE.round (⟨pS9, cS9, cg S9 x.k, x.k + 1⟩) ⟨rfl, rfl, rfl, rfl, rfl, rfl, rfl, trivial⟩ ?_ ?_
    ·exact ⟨by (try dsimp only at *); omega, hT2, ⟨hsL9, hs19, hs29, by (try dsimp only); omega, fun y hy => hd.partsL y (hm2 y hy), fun y hy => hd.partsR y (hm2 y hy)⟩, hm2, by (try dsimp only); omega, hb32, hb33, hb34⟩
    ·(try dsimp only at *); omega
   ·have h15 : ¬ ((((x.k : Nat) : Int) : Int) < ((((List.length S9) : Nat) : Int) : Int)) := by simpa using h15
    refine WC.exit (WE.thenExit (WE.thenExit (WE.blockIs rfl (WE.next (WC.seq ?_)))))
    have hxk : x.k = S9.length := by (try dsimp only at *); omega
    rw [hxk, List.drop_length] at hT
    have hle9 : x.l = e9 := hT
    obtain ⟨hdn9, hcn9⟩ := wayO_none (hle9 ▸ hW9 : wayO L9 x.l = none)
    refine WC.region (WL.mv rfl rfl rfl rfl rfl ?_)
    refine WL.call rfl rfl rfl (fun za zh zC => wp_call (by kernel_rfl) rfl (hv1 (zh.ev rfl))) (drop_any x.l _ _ _ (hC.below hb14) hxl) ?_
    rintro v36 w35 ⟨hto37, hb38⟩
    replace hto37 : WayV w11 w35 (dropO x.l) v36 := hto37
    rw [hdn9] at hto37
    obtain rfl : v36 = .tuple #[.agg #[.int .i64 0, .slice none 0 0, .slice none 0 0, .slice none 0 0, .slice none 0 0, .slice none 0 0], .bool false] := hto37
    refine WL.mv rfl rfl rfl rfl rfl ?_
    refine WL.val (.agg #[.int .i64 0, .slice none 0 0, .slice none 0 0, .slice none 0 0, .slice none 0 0, .slice none 0 0]) rfl rfl rfl (fun za zC zh zk => ext2_0 rfl (zh.ev rfl) zk) ?_
    refine WL.val (.bool false) rfl rfl rfl (fun za zC zh zk => ext2_1 rfl (zh.ev rfl) zk) ?_
    refine WL.step (post := NewBlk w35 40 #[.int .i64 0, .slice none 0 0, .slice none 0 0, .slice none 0 0, .slice none 0 0, .slice none 0 0]) rfl rfl rfl (fun za zC zh zk => alloc_40 rfl (zk _ _ (newBlk _ _ _))) ?_
    rintro _ w39 ⟨g40, rfl, hg41, hB42, hb43, hz44⟩
    have hb45 : Below w.heap.size w w35 := (bstep hb12 hb38)
    have hl46 : w.heap.size ≤ g40 := by have z2 := (hb45).size; omega
    have hb47 : Below w7.heap.size w7 w35 := (bstep hb13 hb38)
    have hl48 : w7.heap.size ≤ g40 := by have z2 := (hb47).size; omega
    have hb49 : Below w9.heap.size w9 w35 := (bstep hb14 hb38)
    have hl50 : w9.heap.size ≤ g40 := by have z2 := (hb49).size; omega
    refine WL.step (post := fun _ w' => Upd g40 w39 w' ∧ Blk w' g40 40 #[.int .i64 0, .slice none 0 0, .slice none 0 0, .slice none 0 0, .slice none 0 0, .slice none 0 0]) rfl rfl rfl (fun za zC zh zk => st_40 rfl (zh.ev rfl) (zh.ev rfl) rfl rfl rfl rfl rfl rfl hB42 (by first | decide | simp) (fun v => zk v _ ⟨(((((Upd.at_ _ _ _ _).trans (Upd.at_ _ _ _ _)).trans (Upd.at_ _ _ _ _)).trans (Upd.at_ _ _ _ _)).trans (Upd.at_ _ _ _ _)).trans (Upd.at_ _ _ _ _), (((((hB42.set_ 0 _).set_ 1 _).set_ 2 _).set_ 3 _).set_ 4 _).set_ 5 _⟩)) ?_
    rintro v54 w51 ⟨hu52, hB53⟩
    have hb55 : Below w.heap.size w w39 := (bstep hb45 hb43)
    have hb56 : Below w7.heap.size w7 w39 := (bstep hb47 hb43)
    have hb57 : Below w9.heap.size w9 w39 := (bstep hb49 hb43)
    have hb58 := upd_below hb55 hu52 (by omega)
    have hb59 := upd_below hb56 hu52 (by omega)
    have hb60 := upd_below hb57 hu52 (by omega)
    refine WL.asg rfl rfl rfl rfl rfl (WL.nil (WE.next (WC.seq (WC.region (WL.mv rfl rfl rfl rfl rfl (WL.mv rfl rfl rfl rfl rfl ?_))))))
    refine WL.call rfl rfl rfl (fun za zh zC => wp_call (by kernel_rfl) rfl (hv2 (zh.ev rfl) (zh.ev rfl))) (cutby_any L9 x.l _ _ _ _ _ (hL9.below hb59) (by omega) hok9 (hC.below hb60) hxl) ?_
    rintro v62 w61 ⟨hto63, hb64⟩
    replace hto63 : WayV w51 w61 (cutBy L9 x.l) v62 := hto63
    rw [hcn9] at hto63
    obtain rfl : v62 = .tuple #[.agg #[.int .i64 0, .slice none 0 0, .slice none 0 0, .slice none 0 0, .slice none 0 0, .slice none 0 0], .bool false] := hto63
    refine WL.mv rfl rfl rfl rfl rfl ?_
    refine WL.val (.agg #[.int .i64 0, .slice none 0 0, .slice none 0 0, .slice none 0 0, .slice none 0 0, .slice none 0 0]) rfl rfl rfl (fun za zC zh zk => ext2_0 rfl (zh.ev rfl) zk) ?_
    refine WL.val (.bool false) rfl rfl rfl (fun za zC zh zk => ext2_1 rfl (zh.ev rfl) zk) ?_
    refine WL.step (post := NewBlk w61 40 #[.int .i64 0, .slice none 0 0, .slice none 0 0, .slice none 0 0, .slice none 0 0, .slice none 0 0]) rfl rfl rfl (fun za zC zh zk => alloc_40 rfl (zk _ _ (newBlk _ _ _))) ?_
    rintro _ w65 ⟨g66, rfl, hg67, hB68, hb69, hz70⟩
    have hl71 : g40 < g66 := by have z1 := hB53.lt; have z2 := (hb64).size; omega
    have hb72 : Below w.heap.size w w61 := (bstep hb58 hb64)
    have hl73 : w.heap.size ≤ g66 := by have z2 := (hb72).size; omega
    have hb74 : Below w7.heap.size w7 w61 := (bstep hb59 hb64)
    have hl75 : w7.heap.size ≤ g66 := by have z2 := (hb74).size; omega
    have hb76 : Below w9.heap.size w9 w61 := (bstep hb60 hb64)
    have hl77 : w9.heap.size ≤ g66 := by have z2 := (hb76).size; omega
    refine WL.step (post := fun _ w' => Upd g66 w65 w' ∧ Blk w' g66 40 #[.int .i64 0, .slice none 0 0, .slice none 0 0, .slice none 0 0, .slice none 0 0, .slice none 0 0]) rfl rfl rfl (fun za zC zh zk => st_40 rfl (zh.ev rfl) (zh.ev rfl) rfl rfl rfl rfl rfl rfl hB68 (by first | decide | simp) (fun v => zk v _ ⟨(((((Upd.at_ _ _ _ _).trans (Upd.at_ _ _ _ _)).trans (Upd.at_ _ _ _ _)).trans (Upd.at_ _ _ _ _)).trans (Upd.at_ _ _ _ _)).trans (Upd.at_ _ _ _ _), (((((hB68.set_ 0 _).set_ 1 _).set_ 2 _).set_ 3 _).set_ 4 _).set_ 5 _⟩)) ?_
    rintro v81 w78 ⟨hu79, hB80⟩
    have hb82 : Below w.heap.size w w65 := (bstep hb72 hb69)
    have hb83 : Below w7.heap.size w7 w65 := (bstep hb74 hb69)
    have hb84 : Below w9.heap.size w9 w65 := (bstep hb76 hb69)
    have hb85 := upd_below hb82 hu79 (by omega)
    have hb86 := upd_below hb83 hu79 (by omega)
    have hb87 := upd_below hb84 hu79 (by omega)
    have hb89 : Below w51.heap.size w51 w65 := (bstep hb64 hb69)
    have hB88 := hB53.below hb89
    have hB90 := upd_blk hB88 hu79 (by omega)
    refine WL.asg rfl rfl rfl rfl rfl (WL.nil (WE.next (WC.seq ?_)))
    refine WC.opt [(true, .val (.bool false)), (true, .val (.bool true)), (true, .val (.bool true)), ((true && true), .val (.bool false)), ((true && true), .val (.bool ((!false)))), (true, .val (.bool ((!false)))), (true, .val (.bool ((!false)))), ((true && (!false)), .val (.bool true)), (true, .val (.bool (((!false) && true)))), (true, .val (.bool (((!false) && true))))] [(0, .slice ra9 ((List.length L9)) rc9), (1, .slice da d.length dc), (5, .slice x.a x.l.length x.c), (9, .bool false), (11, .bool false), (13, .bool ((largeB d))), (20, .slice rb9 ((List.length S9)) rd9), (21, .int .i64 ((((List.length S9) : Nat) : Int))), (22, .int .i64 (((x.k : Nat) : Int))), (23, .bool ((decide ((((x.k : Nat) : Int) : Int) < ((((List.length S9) : Nat) : Int) : Int)))))] ⟨rfl, rfl, rfl, rfl, rfl, rfl, rfl, rfl, rfl, rfl, trivial⟩ (by kernel_rfl) (by kernel_rfl) (by kernel_rfl) ?_ ?_
    ·refine ⟨⟨true, .none rfl, fun h w => optUndef h, fun zβ za zw zc => ?_⟩, ?_⟩
     ·exact wp_move rfl (zc.kn.ev rfl) ⟨_, rfl, Below.refl _ _, optDef zβ rfl⟩
     refine ⟨⟨true, .none rfl, fun h w => optUndef h, fun zβ za zw zc => ?_⟩, ?_⟩
     ·exact wp_not rfl ((evt za 47).trans (optVal (zc.dep 0 47 (by kernel_rfl)) rfl rfl)) ⟨_, rfl, Below.refl _ _, optDef zβ rfl⟩
     refine ⟨⟨true, .none rfl, fun h w => optUndef h, fun zβ za zw zc => ?_⟩, ?_⟩
     ·exact wp_move rfl ((evt za 48).trans (optVal (zc.dep 1 48 (by kernel_rfl)) rfl rfl)) ⟨_, rfl, Below.refl _ _, optDef zβ rfl⟩
     refine ⟨⟨_, .yes (c := true) (d := true) rfl (fun v w h => h), fun h w => optUndef h, fun zβ za zw zc => ?_⟩, ?_⟩
     ·exact wp_move rfl (zc.kn.ev rfl) ⟨_, rfl, Below.refl _ _, optDef zβ rfl⟩
     refine ⟨⟨_, .yes (c := true) (d := true) rfl (fun v w h => h), fun h w => optUndef h, fun zβ za zw zc => ?_⟩, ?_⟩
     ·exact wp_not rfl ((evt za 50).trans (optVal (zc.dep 3 50 (by kernel_rfl)) rfl rfl)) ⟨_, rfl, Below.refl _ _, optDef zβ rfl⟩
     refine ⟨⟨true, .none rfl, fun h w => optUndef h, fun zβ za zw zc => ?_⟩, ?_⟩
     ·exact wp_pickT rfl ((evt za 49).trans (optVal (zc.dep 2 49 (by kernel_rfl)) rfl rfl)) ((evt za 51).trans (optVal (zc.dep 4 51 (by kernel_rfl)) rfl rfl)) ⟨_, rfl, Below.refl _ _, optDef zβ rfl⟩
     refine ⟨⟨true, .none rfl, fun h w => optUndef h, fun zβ za zw zc => ?_⟩, ?_⟩
     ·exact wp_move rfl ((evt za 52).trans (optVal (zc.dep 5 52 (by kernel_rfl)) rfl rfl)) ⟨_, rfl, Below.refl _ _, optDef zβ rfl⟩
     refine ⟨⟨_, .yes (c := (!false)) (d := true) rfl (fun v w h => h), fun h w => optUndef h, fun zβ za zw zc => ?_⟩, ?_⟩
     ·exact wp_call (by kernel_rfl) rfl (hv0) (wakes_any _) (fun v w' h => ⟨v, rfl, h.2, optDef zβ h.1⟩)
     refine ⟨⟨true, .none rfl, fun h w => optUndef h, fun zβ za zw zc => ?_⟩, ?_⟩
     ·exact wp_and rfl ((evt za 53).trans (optVal (zc.dep 6 53 (by kernel_rfl)) rfl rfl)) (fun hp => ((evt za 54).trans (optVal (zc.dep 7 54 (by kernel_rfl)) rfl rfl))) ⟨_, rfl, Below.refl _ _, optDef zβ rfl⟩
     refine ⟨⟨true, .none rfl, fun h w => optUndef h, fun zβ za zw zc => ?_⟩, ?_⟩
     ·exact wp_assign rfl ((evt za 55).trans (optVal (zc.dep 8 55 (by kernel_rfl)) rfl rfl)) ⟨_, rfl, Below.refl _ _, optDef zβ rfl⟩
     exact trivial
    ·intro za w92 zh hb93 zu
     have zh := zh.cons (d := 4) (v := .bool (((!false) && true))) (optVal (zu 9 4 (by kernel_rfl)) rfl rfl)
     clear zu
     refine WE.go zh ?_
     refine WE.next (WC.ret (WE.ret1 rfl rfl ?_))
     have hb94 : Below w.heap.size w w92 := (bstep hb85 hb93)
     exact ⟨_, rfl, congrArg Value.bool (by first | rfl | simp), hb94⟩
end Go.Proofs.Ytnmopmdpnpcdhaa

/- Rows of things of several cells, how they lie in memory. -/
namespace Go.Proofs.Ytnmopmdpnpcdhaa
open Go.RowKit
/-- The row at 'a' holds the things 'l', 'k' cells each. -/
def IsRow {α : Type} (w : World) (k : Nat) (R : World → α → List Value → Prop) (l : List α) (a : Option Addr) : Prop :=
  ∀ i (hi : i < l.length), ∃ (b o : Nat) (cs : List Value), a = some ⟨b, o, none⟩ ∧ cs.length = k ∧ (∀ j, j < k → w.cell? ⟨b, o + i * k + j, none⟩ = cs[j]?) ∧ R w l[i] cs
theorem IsRow.keep {α : Type} {w w' : World} {k : Nat} {R : World → α → List Value → Prop} {l : List α} {a : Option Addr} (h : IsRow w k R l a) (hb : Below w.heap.size w w') (hR : ∀ x cs, R w x cs → R w' x cs) : IsRow w' k R l a := by
  intro i hi
  obtain ⟨b, o, cs, h1, h2, h3, h4⟩ := h i hi
  refine ⟨b, o, cs, h1, h2, fun j hj => ?_, hR _ _ h4⟩
  have := h3 j hj
  rw [List.getElem?_eq_getElem (by omega)] at this ⊢
  exact bkeeps hb _ _ this
section
variable {H : Type} {enc : TypeId × Value → H} {P : Program} {w : World} {base : Nat} {spare : Nat → Bool} {held : Bool}
/-- A slice opened: its things, one by one. -/
theorem open_row {α : Type} [Inhabited α] {t e : TypeId} {k : Nat} {fuel : Nat} {cs : List Value} {x : DataW H × List MemPlace} (ht : P.underlying t = some (.slice e)) (hC : P.cellsOf e = k) (hk : 0 < k)
    (h : DataW.trod enc P w base spare held fuel t cs = some x) {R : World → α → List Value → Prop} {S : α → DataW H → Prop}
    (hel : ∀ n cs x, DataW.trod enc P w base spare held n e cs = some x → ∃ a : α, R w a cs ∧ S a x.1) :
    ∃ (l : List α) (a : Option Addr) (cap : Nat) (ds sp : List (DataW H)), cs = [.slice a l.length cap] ∧ l.length ≤ cap ∧ cap ≤ maxLen ∧ IsRow w k R l a ∧ ds.length = l.length ∧ (x.1 = .nil ∧ l = [] ∧ ds = [] ∨ x.1 = .slice ds sp) ∧
      ∀ i (hi : i < l.length) (hd : i < ds.length), S l[i] ds[i] := by
  rcases DataW.trod_slice ht h with ⟨rfl, rfl⟩ | ⟨a, len, cap, elems, rest, m, rfl, rfl, rfl, hb, hlc, hcm, hlen, hat, _, _⟩
  · exact ⟨[], none, 0, [], [], rfl, Nat.le_refl _, Nat.zero_le _, fun i hi => absurd hi (by simp), rfl, .inl ⟨rfl, rfl, rfl⟩, fun i hi => absurd hi (by simp)⟩
  · have hspot : 0 < len → ∃ b o, a = ⟨b, o, none⟩ := by
      intro h0
      have hk := hat 0 h0
      rw [hC, List.getElem?_eq_getElem (by omega)] at hk
      obtain ⟨cs', h1, _⟩ := Option.bind_eq_some_iff.1 hk
      obtain ⟨_, hl', hcell⟩ := World.cells?_some h1
      have c0 := hcell 0 (by omega)
      rw [List.getElem?_eq_getElem (by omega)] at c0
      have := World.cell?_spot c0
      obtain ⟨b, o, spot⟩ := a
      exact ⟨b, o, by simpa [Addr.add] using this⟩
    have key : ∀ i, i < len → ∃ t : α, (∃ (b o : Nat) (cs : List Value), some a = some ⟨b, o, none⟩ ∧ cs.length = k ∧ (∀ j, j < k → w.cell? ⟨b, o + i * k + j, none⟩ = cs[j]?) ∧ R w t cs) ∧
        ∀ (hd : i < elems.length), S t elems[i].1 := by
      intro i hi
      have hk := hat i hi
      rw [hC, List.getElem?_eq_getElem (by omega)] at hk
      obtain ⟨cs', h1, h2⟩ := Option.bind_eq_some_iff.1 hk
      obtain ⟨t, hR, hS⟩ := hel _ _ _ h2
      obtain ⟨_, hl', hcell⟩ := World.cells?_some h1
      obtain ⟨b, o, rfl⟩ := hspot (by omega)
      refine ⟨t, ⟨b, o, cs', rfl, hl', fun j hj => ?_, hR⟩, fun _ => hS⟩
      have := hcell j hj
      rwa [add_plain2, add_plain2] at this
    obtain ⟨F, hF⟩ := Go.Deep.choose_lt key
    have hLL : ((List.range len).map F).length = len := by simp
    refine ⟨(List.range len).map F, some a, cap, elems.map (·.1), rest.map (·.1), by rw [hLL], by rw [hLL]; exact hlc, hcm, fun i hi => ?_, by rw [hLL]; simpa using hlen, .inr rfl, fun i hi hd => ?_⟩
    · have := (hF i (by simpa using hi)).1
      simpa using this
    · have := (hF i (by simpa using hi)).2 (by simpa using hd)
      simpa using this
end
end Go.Proofs.Ytnmopmdpnpcdhaa

/- What a law's statement asks behind its call, where the call answers true and leaves all that was there as it was. -/
namespace Go.Proofs.Ytnmopmdpnpcdhaa
open Go.ChangeShapes Go.WideShapes Go.ChangeAt Go.RowKit
section
variable {H : Type} {enc : TypeId × Value → H} {P : Program}
theorem trodAll_below (hl : laidOutB P = true) {W W' : World} (hb : Below W.heap.size W W') : ∀ {ts : List TypeId} {vs : List Value} {ds : List (DataW H)} {ps : List MemPlace},
    (∀ t ∈ ts, P.readableRec t = true ∧ t < P.types.size) → (∀ x ∈ ps, x.block < W.heap.size) → DataW.TrodAll enc P W 0 (fun _ => true) true ts vs ds ps →
    DataW.TrodAll enc P W' 0 (fun b => decide (b < W.heap.size)) true ts vs ds ps
  | [], [], [], _, _, _, h => h
  | t :: ts, v :: vs, d :: ds, ps, hr, hlt, ⟨p, q, h1, h2, e⟩ => by
    subst e
    exact ⟨p, q, Below.trod hl (hr t (by simp)).1 (hr t (by simp)).2 h1 hb (fun x hx => hlt x (by simp [hx])), trodAll_below hl hb (fun t ht => hr t (by simp [ht])) (fun x hx => hlt x (by simp [hx])) h2, rfl⟩
  | [], _ :: _, _, _, _, _, h => h.elim
  | [], [], _ :: _, _, _, _, h => h.elim
  | _ :: _, [], _, _, _, _, h => h.elim
  | _ :: _, _ :: _, [], _, _, _, h => h.elim
theorem law_post {f : Func} {s : ChangeSpec} {W W' : World} {args : Array Value} {ds gs : List (DataW H)} {before : List MemPlace} {tb : TypeId} (hl : laidOutB P = true) (hr : ∀ t ∈ f.params.toList, P.readableRec t = true ∧ t < P.types.size)
    (htb : P.underlying tb = some .bool) (hrt : f.resultTypes = #[tb]) (hv : s.vars = []) (hs : s.fn H ds = { results := [.lit (.bool true)], args := ds })
    (hW : DataW.Whole enc P f.params.toList s.vars false W args.toList ds gs before) (hb : Below W.heap.size W W') : s.post enc P f false true false false W args (.bool true) W' := by
  have hlt : ∀ p ∈ before, p.block < W.heap.size := fun p hp => hW.lt p hp
  have hW0 := hW
  obtain ⟨p, q, hA, hV, hpq, _, _⟩ := hW
  rw [hv] at hV
  obtain ⟨rfl, rfl⟩ := trodVars_none hV
  refine ⟨ds, [], before, [], p, [], hW0, ?_, ?_, ?_, hb.frame _, fun h => by cases h⟩
  · rw [List.append_nil, hs, hrt]
    exact trodAll_cons_mk (shut_bool htb _) trodAll_mk0
  · rw [List.append_nil, hs]
    refine trodAll_below hl hb hr (fun x hx => hlt x ?_) hA
    rw [hpq]; simp [hx]
  · rw [List.append_nil, hv]
    have : (s.fn H ds).vars = [] := by rw [hs]
    rw [this]
    rfl
end
end Go.Proofs.Ytnmopmdpnpcdhaa

/- Arguments of a law, opened: terms, integers, truth values; rows in general. -/
namespace Go.Proofs.Ytnmopmdpnpcdhaa
open Go.ChangeShapes Go.WideShapes Go.ChangeAt Go.RowKit
theorem own : ownKnob Try.prog.godebug = none := by kernel_rfl
theorem one_le_bulk {H : Type} (d : DataW H) : 1 ≤ Rows.uptoBulk d := by
  cases d with
  | lit l => cases l <;> simp [Rows.uptoBulk]
  | _ => simp [Rows.uptoBulk]
theorem len_le_bulk {H : Type} (ds : List (DataW H)) : ds.length ≤ Rows.uptoBulkAll ds := by
  induction ds with
  | nil => simp
  | cons d r ih => have := one_le_bulk d; simp only [List.length_cons, Rows.uptoBulkAll]; omega
theorem readable_all {P : Program} {ts : List TypeId} (h : (ts.all fun t => P.readableRec t && Nat.blt t P.types.size) = true) : ∀ t ∈ ts, P.readableRec t = true ∧ t < P.types.size := by
  intro t ht
  have := List.all_eq_true.1 h t ht
  simp only [Bool.and_eq_true, Nat.blt_eq] at this
  exact this
theorem bulk_mem {H : Type} {l : List (DataW H)} (hk : Rows.uptoSmall H l = true) {d : DataW H} (h : d ∈ l) : Rows.uptoBulk d ≤ 1048576 :=
  Nat.le_trans (bulkAll_le h) (of_decide_eq_true hk)
section
variable {H : Type} {enc : TypeId × Value → H} {w : World} {base : Nat} {spare : Nat → Bool} {held : Bool}
theorem bulk_at {H : Type} : ∀ {ds : List (DataW H)} {d : DataW H}, d ∈ ds → Rows.uptoBulk d ≤ Rows.uptoBulkAll ds
  | [], _, h => nomatch h
  | x :: r, d, h => by
    rw [Rows.uptoBulkAll]
    rcases List.mem_cons.1 h with rfl | h
    · omega
    · have := bulk_at h; omega
/-- A row that was opened, as the rows of elements have it. -/
theorem inRow_of {α : Type} {E : Elt α} {R : World → α → List Value → Prop} {l : List α} {a : Option Addr} (hR : ∀ x cs, R w x cs → E.In (fun _ => True) w x cs) (h : IsRow w E.k R l a) : InRow E (fun _ => True) w l a := fun i hi => by
  obtain ⟨b, o, cs, h1, _, h3, h4⟩ := h i hi
  exact ⟨b, o, cs, h1, trivial, hR _ _ h4, h3⟩
theorem IsT.inTrue {t : T} {v : Value} (h : IsT w t v) : InT (fun _ => True) w t v := InT.mono (fun _ _ _ => trivial) (IsT.inT h)
end
end Go.Proofs.Ytnmopmdpnpcdhaa

/- Arguments of a law, opened: literals, clauses. -/
namespace Go.Proofs.Ytnmopmdpnpcdhaa
open Go.ChangeShapes Go.WideShapes Go.ChangeAt Go.RowKit
section
variable {H : Type} {enc : TypeId × Value → H} {w : World} {base : Nat} {spare : Nat → Bool} {held : Bool}
def IsLiC (w : World) (x : Li) (cs : List Value) : Prop := eltL.In (fun _ => True) w x cs
set_option maxRecDepth 100000 in
theorem open_Li (fuel : Nat) (cs : List Value) (x : DataW H × List MemPlace) (h : DataW.trod enc Try.prog w base spare held fuel 60 cs = some x) :
    ∃ y : Li, IsLiC w y cs ∧ 1 + y.size ≤ Rows.uptoBulk x.1 := by
  have hC : Try.prog.cellsOf 60 = 5 := by kernel_rfl
  have hC4 : Try.prog.cellsOf 4 = 1 := by kernel_rfl
  have hC32 : Try.prog.cellsOf 58 = 2 := by kernel_rfl
  obtain ⟨xs, n, rfl, rfl, hl, hlen, hf⟩ := DataW.trod_struct Try.underlying60 h
  rw [hC] at hl
  match xs, hlen, cs, hl with
  | [y0, y1, y2], _, [c0, c1, c2, c3, c4], _ =>
    have g0 : DataW.trod enc Try.prog w base spare held n 4 [c0] = some y0 := by simpa [hC4] using hf 0 _ rfl
    have g1 : DataW.trod enc Try.prog w base spare held n 58 [c1, c2] = some y1 := by simpa [hC32] using hf 1 _ rfl
    have g2 : DataW.trod enc Try.prog w base spare held n 58 [c3, c4] = some y2 := by simpa [hC32] using hf 2 _ rfl
    obtain ⟨b, e0, rfl⟩ := DataW.trod_bool Try.underlying4 g0
    simp only [List.cons.injEq, and_true] at e0
    subst e0
    obtain ⟨t1, u1, u2, e1, h1, s1⟩ := open_T _ _ _ g1
    obtain ⟨t2, u3, u4, e2, h2, s2⟩ := open_T _ _ _ g2
    simp only [List.cons.injEq, and_true] at e1 e2
    obtain ⟨rfl, rfl⟩ := e1
    obtain ⟨rfl, rfl⟩ := e2
    exact ⟨⟨b, t1, t2⟩, ⟨_, _, _, _, rfl, h1.inTrue, h2.inTrue⟩, by simp only [List.map_cons, List.map_nil, Rows.uptoBulk, Rows.uptoBulkAll, Li.size]; omega⟩
set_option maxRecDepth 100000 in
theorem arg_Cl {r : Reach} {b : Nat} {v : Value} {d : DataW H} {p : List MemPlace} (h : Value.okWide Try.prog w r b 29 v) (ht : DataW.Trod enc Try.prog w base spare held 29 v d p) (hk : Rows.uptoBulk d ≤ 1048576) :
    ∃ (l : List Li) (a : Option Addr) (c : Nat), v = .slice a l.length c ∧ IsCl w l a c ∧ l.length ≤ 1048576 ∧ ∀ x ∈ l, x.size ≤ 1048576 := by
  obtain ⟨a, n, c, rfl⟩ := okWide_slice Try.underlying29 h
  obtain ⟨fuel, hf⟩ := ht
  obtain ⟨l, a', c', ds, sp, e, h1, h2, h3, h4, h5, h6⟩ := open_row Try.underlying29 (k := 5) (by kernel_rfl) (by omega) hf (R := IsLiC) (S := fun y d => 1 + y.size ≤ Rows.uptoBulk d) (fun n cs x hx => open_Li n cs x hx)
  have e' : Value.slice a n c = .slice a' l.length c' := by simpa [Value.cells] using e
  have hlen : l.length ≤ 1048576 := by
    rcases h5 with ⟨_, rfl, _⟩ | e
    · simp
    · have := len_le_bulk ds
      have e2 : d = .slice ds sp := e
      rw [e2] at hk; simp only [Rows.uptoBulk] at hk; omega
  have hsz : ∀ x ∈ l, x.size ≤ 1048576 := fun x hx => by
    obtain ⟨i, hi, rfl⟩ := List.getElem_of_mem hx
    have hs := h6 i hi (by omega)
    rcases h5 with ⟨_, rfl, _⟩ | e
    · simp at hi
    · have := bulk_at (List.getElem_mem (show i < ds.length by omega))
      have e2 : d = .slice ds sp := e
      rw [e2] at hk; simp only [Rows.uptoBulk] at hk; omega
  exact ⟨l, a', c', e', ⟨inRow_of (E := eltL) (fun _ _ h => h) h3, h1, h2, by omega, fun x hx => by have := hsz x hx; unfold Li.size at this; omega, fun x hx => by have := hsz x hx; unfold Li.size at this; omega⟩, hlen, hsz⟩
end
end Go.Proofs.Ytnmopmdpnpcdhaa

namespace Go.Proofs.Ytnmopmdpnpcdhaa
open Go.ChangeShapes Go.WideShapes Go.ChangeAt Go.RowKit Go
set_option linter.unusedVariables false
set_option linter.unusedSimpArgs false
section
variable {H : Type} {enc : TypeId × Value → H} {w : World} {base : Nat} {spare : Nat → Bool} {held : Bool}
set_option maxRecDepth 100000 in
theorem open_ClT (fuel : Nat) (cs : List Value) (x : DataW H × List MemPlace) (h : DataW.trod enc Try.prog w base spare held fuel 29 cs = some x) :
    ∃ l : List Li, eltC.In (fun _ => True) w l cs ∧ l.length ≤ Rows.uptoBulk x.1 ∧ ∀ y ∈ l, y.size ≤ Rows.uptoBulk x.1 := by
  obtain ⟨l, a', c', ds, sp, e, h1, h2, h3, h4, h5, h6⟩ := open_row Try.underlying29 (k := 5) (by kernel_rfl) (by omega) h (R := IsLiC) (S := fun y d => 1 + y.size ≤ Rows.uptoBulk d) (fun n cs x hx => open_Li n cs x hx)
  refine ⟨l, ⟨a', c', e, h1, h2, inRow_of (E := eltL) (fun _ _ h => h) h3⟩, ?_, fun x hx => ?_⟩
  · rcases h5 with ⟨_, rfl, _⟩ | e
    · simp
    · have := len_le_bulk ds
      rw [e]; simp only [Rows.uptoBulk]; omega
  · obtain ⟨i, hi, rfl⟩ := List.getElem_of_mem hx
    have hs := h6 i hi (by omega)
    rcases h5 with ⟨_, rfl, _⟩ | e
    · simp at hi
    · have := bulk_at (List.getElem_mem (show i < ds.length by omega))
      rw [e]; simp only [Rows.uptoBulk]; omega
def IsClT (w : World) (l : List Li) (cs : List Value) : Prop := eltC.In (fun _ => True) w l cs
set_option maxRecDepth 100000 in
theorem arg_Cs {r : Reach} {b : Nat} {v : Value} {d : DataW H} {p : List MemPlace} (h : Value.okWide Try.prog w r b 45 v) (ht : DataW.Trod enc Try.prog w base spare held 45 v d p) (hk : Rows.uptoBulk d ≤ 1048576) :
    ∃ (l : List (List Li)) (a : Option Addr) (c : Nat), v = .slice a l.length c ∧ IsCs w l a ∧ l.length ≤ 1048576 ∧ ClsOk l := by
  obtain ⟨a, n, c, rfl⟩ := okWide_slice Try.underlying45 h
  obtain ⟨fuel, hf⟩ := ht
  obtain ⟨l, a', c', ds, sp, e, h1, h2, h3, h4, h5, h6⟩ := open_row Try.underlying45 (k := 1) (by kernel_rfl) (by omega) hf (R := IsClT) (S := fun y d => y.length ≤ Rows.uptoBulk d ∧ ∀ z ∈ y, z.size ≤ Rows.uptoBulk d) (fun n cs x hx => open_ClT _ _ _ hx)
  have e' : Value.slice a n c = .slice a' l.length c' := by simpa [Value.cells] using e
  have hlen : l.length ≤ 1048576 := by
    rcases h5 with ⟨_, rfl, _⟩ | e
    · simp
    · have := len_le_bulk ds
      have e2 : d = .slice ds sp := e
      rw [e2] at hk; simp only [Rows.uptoBulk] at hk; omega
  refine ⟨l, a', c', e', inRow_of (E := eltC) (fun _ _ h => h) h3, hlen, fun y hy => ?_⟩
  obtain ⟨i, hi, rfl⟩ := List.getElem_of_mem hy
  have hs := h6 i hi (by omega)
  rcases h5 with ⟨_, rfl, _⟩ | e
  · simp at hi
  · have := bulk_at (List.getElem_mem (show i < ds.length by omega))
    have e2 : d = .slice ds sp := e
    rw [e2] at hk; simp only [Rows.uptoBulk] at hk
    refine ⟨by omega, fun z hz => ?_⟩
    have h7 := hs.2 z hz
    unfold Li.size at h7
    omega
end
end Go.Proofs.Ytnmopmdpnpcdhaa
