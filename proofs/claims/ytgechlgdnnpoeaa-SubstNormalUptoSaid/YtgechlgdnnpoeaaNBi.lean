/- The comparison that Compose sorts by. -/
import Derived.Test.YtgechlgdnnpoeaaNBh
import Derived.Test.YtgechlgdnnpoeaaNBb
import Derived.Test.YtgechlgdnnpoeaaNBg
import Derived.Test.YtgechlgdnnpoeaaNBd
import Derived.Test.YtgechlgdnnpoeaaNBe
import Derived.Test.YtgechlgdnnpoeaaNBc
import Derived.WalkKit

/- A clause and its normal form: the program. -/
namespace Go.Proofs.Ytgechlgdnnpoeaa
open Go.RowKit Go
set_option linter.unusedVariables false
set_option linter.unusedSimpArgs false

set_option linter.unnecessarySimpa false

/-- What Normal tells. -/
def NormIs (cl : List Li) (w' : World) (v' : Value) : Prop := ∃ (oa : Option Addr) (oc : Nat) (sa : Option Addr) (sc : Nat) (R : List Bd), v' = .tuple #[.slice oa cl.length oc, .slice sa R.length sc] ∧ InRow eltL (fun _ => True) w' (clRn cl []).1 oa ∧ cl.length ≤ oc ∧ oc ≤ maxLen ∧ R.Perm (nmB (clRn cl []).2 0) ∧ R.Pairwise (fun x y => x.var ≤ y.var) ∧ InRow eltB (fun _ => True) w' R sa ∧ R.length ≤ sc ∧ sc ≤ maxLen
set_option maxRecDepth 100000 in
set_option maxHeartbeats 2000000 in
theorem normal_any (cl : List Li) (w : World) (a : Option Addr) (c : Nat) (hC : IsCl w cl a c) (hsz : clSz cl ≤ 4294967296) : Calls Try.prog 23 #[.slice a cl.length c] w (Ret fun v' w' => NormIs cl w' v' ∧ Below w.heap.size w w') := by
  have hclen := hC.len
  have hccap := hC.cap
  have hcsm := hC.small
  unfold maxLen at hccap
  refine Calls.walk (l := [.slice a cl.length c]) Try.func23 rfl (by kernel_rfl) ?_
  refine WC.sub (K' := [(0, .slice a cl.length c)]) ⟨rfl, trivial⟩ ?_
  refine WC.seq ?_
  refine WC.region ?_
  refine WL.val (.slice none 0 0) rfl rfl rfl (fun za zC zh zk => wp_assign rfl (zh.ev rfl) zk) ?_
  refine WL.val (.slice none 0 0) rfl rfl rfl (fun za zC zh zk => wp_assign rfl (zh.ev rfl) zk) ?_
  refine WL.nil (WE.sub (K' := [(0, .slice a cl.length c), (2, .slice none 0 0), (3, .slice none 0 0)]) ⟨rfl, rfl, rfl, trivial⟩ ?_)
  refine WE.next ?_
  refine WC.seq ?_
  refine WC.region ?_
  refine WL.step (post := NewMap w) rfl rfl rfl (fun za zC zh zk => wp_makeMap_im rfl zk) ?_
  rintro _ w1 ⟨g2, rfl, hg3, hM4, hb5, hz6⟩
  have hl7 : w.heap.size ≤ g2 := by omega
  refine WL.step (post := NewBlk w1 75 #[.map none]) rfl rfl rfl (fun za zC zh zk => alloc_75 rfl (zk _ _ (newBlk _ _ _))) ?_
  rintro _ w8 ⟨g9, rfl, hg10, hB11, hb12, hz13⟩
  have hl14 : g2 < g9 := by have z1 := hM4.lt; omega
  have hl15 : w.heap.size ≤ g9 := by have z2 := (hb5).size; omega
  refine WL.step (post := fun _ w' => Upd g9 w8 w' ∧ Blk w' g9 75 #[.map ((some g2))]) rfl rfl rfl (fun za zC zh zk => st_75 rfl (zh.ev rfl) (zh.ev rfl) hB11 (by first | decide | simp) (fun v => zk v _ ⟨Upd.at_ _ _ _ _, hB11.set_ 0 _⟩)) ?_
  rintro v19 w16 ⟨hu17, hB18⟩
  have hb20 : Below w.heap.size w w8 := (bstep hb5 hb12)
  have hb21 := upd_below hb20 hu17 (by omega)
  have ho22 := hM4.below hb12
  have ho23 := ho22.upd hu17 (by omega)
  refine WL.nil (WE.sub (K' := [(0, .slice a cl.length c), (2, .slice none 0 0), (3, .slice none 0 0), (4, .pointer (some ⟨g9, 0, none⟩))]) ⟨rfl, rfl, rfl, rfl, trivial⟩ ?_)
  refine WE.next ?_
  refine WC.seq ?_
  refine WC.region ?_
  refine WL.step (post := NewBlk w16 23 #[.slice none 0 0]) rfl rfl rfl (fun za zC zh zk => alloc_23 rfl (zk _ _ (newBlk _ _ _))) ?_
  rintro _ w24 ⟨g25, rfl, hg26, hB27, hb28, hz29⟩
  have hl30 : g9 < g25 := by have z1 := hB18.lt; omega
  have hl31 : g2 < g25 := by have z1 := ho23.lt; omega
  have hl32 : w.heap.size ≤ g25 := by have z2 := (hb21).size; omega
  refine WL.nil (WE.sub (K' := [(0, .slice a cl.length c), (2, .slice none 0 0), (3, .slice none 0 0), (4, .pointer (some ⟨g9, 0, none⟩)), (5, .pointer (some ⟨g25, 0, none⟩))]) ⟨rfl, rfl, rfl, rfl, rfl, trivial⟩ ?_)
  refine WE.next ?_
  refine WC.seq ?_
  refine WC.region ?_
  refine WL.val (.func (Fn.func 54) #[] #[.pointer (some ⟨g9, 0, none⟩), .pointer (some ⟨g25, 0, none⟩)]) rfl rfl rfl (fun za zC zh zk => mkfn rfl (hv0) (hv2 (zh.ev rfl) (zh.ev rfl)) zk) ?_
  refine WL.val (.func (Fn.func 54) #[] #[.pointer (some ⟨g9, 0, none⟩), .pointer (some ⟨g25, 0, none⟩)]) rfl rfl rfl (fun za zC zh zk => wp_assign rfl (zh.ev rfl) zk) ?_
  refine WL.nil (WE.sub (K' := [(0, .slice a cl.length c), (2, .slice none 0 0), (3, .slice none 0 0), (4, .pointer (some ⟨g9, 0, none⟩)), (5, .pointer (some ⟨g25, 0, none⟩)), (6, .func (Fn.func 54) #[] #[.pointer (some ⟨g9, 0, none⟩), .pointer (some ⟨g25, 0, none⟩)])]) ⟨rfl, rfl, rfl, rfl, rfl, rfl, trivial⟩ ?_)
  refine WE.next ?_
  refine WC.seq ?_
  refine WC.region ?_
  refine WL.val (.slice none 0 0) rfl rfl rfl (fun za zC zh zk => wp_assign rfl (zh.ev rfl) zk) ?_
  refine WL.nil (WE.sub (K' := [(0, .slice a cl.length c), (2, .slice none 0 0), (3, .slice none 0 0), (4, .pointer (some ⟨g9, 0, none⟩)), (5, .pointer (some ⟨g25, 0, none⟩)), (6, .func (Fn.func 54) #[] #[.pointer (some ⟨g9, 0, none⟩), .pointer (some ⟨g25, 0, none⟩)]), (7, .slice none 0 0)]) ⟨rfl, rfl, rfl, rfl, rfl, rfl, rfl, trivial⟩ ?_)
  refine WE.next ?_
  refine WC.seq ?_
  refine WC.seq ?_
  refine WC.region ?_
  refine WL.val (.slice a cl.length c) rfl rfl rfl (fun za zC zh zk => wp_move rfl (zh.ev rfl) zk) ?_
  refine WL.val (.int .i64 (((cl.length : Nat) : Int))) rfl rfl rfl (fun za zC zh zk => len_42 rfl (zh.ev rfl) zk) ?_
  refine WL.val (.int .i64 0) rfl rfl rfl (fun za zC zh zk => wp_move rfl (zh.ev rfl) zk) ?_
  refine WL.nil (WE.sub (K' := [(0, .slice a cl.length c), (2, .slice none 0 0), (3, .slice none 0 0), (4, .pointer (some ⟨g9, 0, none⟩)), (5, .pointer (some ⟨g25, 0, none⟩)), (6, .func (Fn.func 54) #[] #[.pointer (some ⟨g9, 0, none⟩), .pointer (some ⟨g25, 0, none⟩)]), (7, .slice none 0 0), (13, .slice a cl.length c), (14, .int .i64 (((cl.length : Nat) : Int))), (15, .int .i64 0)]) ⟨rfl, rfl, rfl, rfl, rfl, rfl, rfl, rfl, rfl, rfl, trivial⟩ ?_)
  refine WE.next ?_
  refine WC.block ?_
  have hB33 := hB18.below hb28
  have hl34 : g9 < w24.heap.size := hB33.lt
  have hl35 : w.heap.size ≤ g9 := by have z : w.heap.size ≤ w1.heap.size := hb5.size; omega
  have hl36 : g25 < w24.heap.size := hB27.lt
  have hl37 : w.heap.size ≤ g25 := by have z : w.heap.size ≤ w16.heap.size := hb21.size; omega
  have ho38 := ho23.below hb28
  have hmbw : w.heap.size ≤ g2 := by have z : w.heap.size ≤ w.heap.size := (Nat.le_refl _); omega
  have hNm : NmAt w24 g9 g25 [] (fun b => b = g9 ∨ b = g25 ∨ b = g2) := ⟨g2, #[], 0, none, 0, ⟨hB33, ho38, ImE.nil, hB27, RowD.nil, by omega, .inl rfl, .inr (.inl rfl), .inr (.inr rfl), fun b q => (nomatch q), fun b q => by rcases q with rfl | rfl | rfl; exact hB33.lt; exact hB27.lt; exact ho38.lt⟩⟩
  have hst0 : ClSt (fun _ => False) (fun b => w.heap.size ≤ b) g9 g25 [] [] none 0 0 w24 := ClSt.start hNm (fun b q => .inr (by rcases q with rfl | rfl | rfl <;> assumption))
  refine WC.loop (X := Nat × Option Addr × Nat) (fun x => cl.length - x.1) (fun x => [(0, .slice a cl.length c), (2, .slice none 0 0), (3, .slice none 0 0), (4, .pointer (some ⟨g9, 0, none⟩)), (5, .pointer (some ⟨g25, 0, none⟩)), (6, .func (Fn.func 54) #[] #[.pointer (some ⟨g9, 0, none⟩), .pointer (some ⟨g25, 0, none⟩)]), (7, .slice x.2.1 x.1 x.2.2), (13, .slice a cl.length c), (14, .int .i64 (((cl.length : Nat) : Int))), (15, .int .i64 (((x.1 : Nat) : Int)))]) (fun x w39 => x.1 ≤ cl.length ∧ Below w.heap.size w w39 ∧ ClSt (fun _ => False) (fun b => w.heap.size ≤ b) g9 g25 (clRn (cl.take x.1) []).2 (clRn (cl.take x.1) []).1 x.2.1 x.2.2 x.1 (w39)) ((0, none, 0)) ⟨rfl, rfl, rfl, rfl, rfl, rfl, rfl, rfl, rfl, rfl, trivial⟩ ?_ ?_
  · have hb40 : Below w.heap.size w w24 := (bstep hb21 hb28)
    exact ⟨Nat.zero_le _, hb40, (by simpa [clRn] using hst0)⟩
  · rintro x w39 ⟨hk, hb41, ho42⟩
    refine WC.seq ?_
    refine WC.region ?_
    refine WL.val (.bool ((decide ((((x.1 : Nat) : Int) : Int) < (((cl.length : Nat) : Int) : Int))))) rfl rfl rfl (fun za zC zh zk => lss_3 rfl (zh.ev rfl) (zh.ev rfl) zk) ?_
    refine WL.nil (WE.sub (K' := [(0, .slice a cl.length c), (2, .slice none 0 0), (3, .slice none 0 0), (4, .pointer (some ⟨g9, 0, none⟩)), (5, .pointer (some ⟨g25, 0, none⟩)), (6, .func (Fn.func 54) #[] #[.pointer (some ⟨g9, 0, none⟩), .pointer (some ⟨g25, 0, none⟩)]), (7, .slice x.2.1 x.1 x.2.2), (13, .slice a cl.length c), (14, .int .i64 (((cl.length : Nat) : Int))), (15, .int .i64 (((x.1 : Nat) : Int))), (16, .bool ((decide ((((x.1 : Nat) : Int) : Int) < (((cl.length : Nat) : Int) : Int)))))]) ⟨rfl, rfl, rfl, rfl, rfl, rfl, rfl, rfl, rfl, rfl, rfl, trivial⟩ ?_)
    refine WE.next ?_
    refine WC.seq ?_
    refine WC.cond rfl (fun h43 => ?_) (fun h43 => ?_)
    · have h43 : (((x.1 : Nat) : Int) : Int) < (((cl.length : Nat) : Int) : Int) := by simpa using h43
      refine WC.skip ?_
      refine WE.next ?_
      refine WC.seq ?_
      refine WC.block ?_
      refine WC.seq ?_
      refine WC.region ?_
      obtain ⟨b44, o45, A46, C47, A48, C49, ha50, hc51⟩ := InRow.openL hC.rows
      refine WL.val (.pointer (some ⟨b44, o45 + x.1 * 5, none⟩)) rfl rfl rfl (fun za zC zh zk => ix_42 (k := x.1) rfl (zh.ev rfl) (ha50 x.1 (by first | omega | (simp; omega))) (zh.ev rfl) (by first | omega | (simp; omega)) zk) ?_
      refine WL.val (.agg #[.bool ((lget cl x.1).neg), .int .i64 ((lget cl x.1).l.f), .slice ((A46 x.1)) ((lget cl x.1).l.args.length) ((C47 x.1)), .int .i64 ((lget cl x.1).r.f), .slice ((A48 x.1)) ((lget cl x.1).r.args.length) ((C49 x.1))]) rfl rfl rfl (fun za zC zh zk => ld_44 rfl (zh.ev rfl) (bkeeps hb41 _ _ (hc51 x.1 (by first | omega | (simp; omega))).1) (bkeeps hb41 _ _ (hc51 x.1 (by first | omega | (simp; omega))).2.1) (bkeeps hb41 _ _ (hc51 x.1 (by first | omega | (simp; omega))).2.2.1) (bkeeps hb41 _ _ (hc51 x.1 (by first | omega | (simp; omega))).2.2.2.1) (bkeeps hb41 _ _ (hc51 x.1 (by first | omega | (simp; omega))).2.2.2.2.1) zk) ?_
      refine WL.step (post := NewBlk w39 44 #[.bool false, .int .i64 0, .slice none 0 0, .int .i64 0, .slice none 0 0]) rfl rfl rfl (fun za zC zh zk => alloc_44 rfl (zk _ _ (newBlk _ _ _))) ?_
      rintro _ w52 ⟨g53, rfl, hg54, hB55, hb56, hz57⟩
      have hl58 : w.heap.size ≤ g53 := by have z2 := (hb41).size; omega
      have hl59 : w39.heap.size ≤ g53 := by omega
      refine WL.step (post := fun _ w' => Upd g53 w52 w' ∧ Blk w' g53 44 #[.bool ((lget cl x.1).neg), .int .i64 ((lget cl x.1).l.f), .slice ((A46 x.1)) ((lget cl x.1).l.args.length) ((C47 x.1)), .int .i64 ((lget cl x.1).r.f), .slice ((A48 x.1)) ((lget cl x.1).r.args.length) ((C49 x.1))]) rfl rfl rfl (fun za zC zh zk => st_44 rfl (zh.ev rfl) (zh.ev rfl) rfl rfl rfl rfl rfl hB55 (by first | decide | simp) (fun v => zk v _ ⟨((((Upd.at_ _ _ _ _).trans (Upd.at_ _ _ _ _)).trans (Upd.at_ _ _ _ _)).trans (Upd.at_ _ _ _ _)).trans (Upd.at_ _ _ _ _), ((((hB55.set_ 0 _).set_ 1 _).set_ 2 _).set_ 3 _).set_ 4 _⟩)) ?_
      rintro v63 w60 ⟨hu61, hB62⟩
      have hb64 : Below w.heap.size w w52 := (bstep hb41 hb56)
      have hb65 := upd_below hb64 hu61 (by omega)
      have hb66 := upd_below hb56 hu61 (by omega)
      refine WL.nil (WE.sub (K' := [(0, .slice a cl.length c), (2, .slice none 0 0), (3, .slice none 0 0), (4, .pointer (some ⟨g9, 0, none⟩)), (5, .pointer (some ⟨g25, 0, none⟩)), (6, .func (Fn.func 54) #[] #[.pointer (some ⟨g9, 0, none⟩), .pointer (some ⟨g25, 0, none⟩)]), (7, .slice x.2.1 x.1 x.2.2), (9, .pointer (some ⟨g53, 0, none⟩)), (13, .slice a cl.length c), (14, .int .i64 (((cl.length : Nat) : Int))), (15, .int .i64 (((x.1 : Nat) : Int))), (16, .bool ((decide ((((x.1 : Nat) : Int) : Int) < (((cl.length : Nat) : Int) : Int)))))]) ⟨rfl, rfl, rfl, rfl, rfl, rfl, rfl, rfl, rfl, rfl, rfl, rfl, trivial⟩ ?_)
      refine WE.next ?_
      refine WC.seq ?_
      refine WC.region ?_
      refine WL.val (.pointer (some ⟨g53, 1, none⟩)) rfl rfl rfl (fun za zC zh zk => fld_44_1 rfl (zh.ev rfl) zk) ?_
      refine WL.val (.agg #[.int .i64 ((lget cl x.1).l.f), .slice ((A46 x.1)) ((lget cl x.1).l.args.length) ((C47 x.1))]) rfl rfl rfl (fun za zC zh zk => ld_32 rfl (zh.ev rfl) ((hB62.cell 1).trans rfl) ((hB62.cell 2).trans rfl) zk) ?_
      refine WL.val (.func (Fn.func 54) #[] #[.pointer (some ⟨g9, 0, none⟩), .pointer (some ⟨g25, 0, none⟩)]) rfl rfl rfl (fun za zC zh zk => wp_move rfl (zh.ev rfl) zk) ?_
      have hLi := IsT.inT (InT.isT (hc51 x.1 (by first | omega | (simp; omega))).2.2.2.2.2.1)
      have hRi := IsT.inT (InT.isT (hc51 x.1 (by first | omega | (simp; omega))).2.2.2.2.2.2)
      have hl9 : g53 < w60.heap.size := hB62.lt
      have hi9 : w39.heap.size ≤ g53 := by have z : w39.heap.size ≤ w39.heap.size := (Nat.le_refl _); omega
      have hw0 : w.heap.size ≤ w60.heap.size := hb65.size
      have hwi : w.heap.size ≤ w39.heap.size := hb41.size
      obtain ⟨Ck, hk1, hk2, hk30, hk4⟩ := (ClSt.mono (N' := (fun b => w.heap.size ≤ b ∧ b ≠ g53)) ho42 (fun b q z => by (try dsimp only at *); omega)).below hb66
      have hkl : ∀ b, (Value.slice x.2.1 x.1 x.2.2).ownBlock = some b → b < w60.heap.size := hk30.lt
      have hk3 := hk30.mono (S' := fun b => ((fun b => w.heap.size ≤ b ∧ b ≠ g53) b ∧ ¬ Ck b ∧ (Value.slice x.2.1 x.1 x.2.2).ownBlock ≠ some b) ∧ b < w60.heap.size) (fun b q z => ⟨q, z⟩) (fun b q => q.1.2.2)
      have hkN : ∀ b, Ck b → (fun b => w.heap.size ≤ b ∧ b ≠ g53) b := fun b q => (hk2 b q).elim (fun z => z.elim) id
      have hnm9 := clRn_names (cl.take x.1) []
      have hsz1 := clSz_take (l := cl) (k := x.1) (by omega)
      have hsz2 := clSz_le (l := cl) (k := x.1 + 1)
      have hrl1 := T.rn_len (lget cl x.1).l (clRn (cl.take x.1) []).2
      have hpl := hC.pl (k := x.1) (by omega)
      have hpr := hC.pr (k := x.1) (by omega)
      simp only [List.length_nil] at hnm9
      refine WL.call rfl rfl rfl (fun za zh zC => wp_call (by kernel_rfl) rfl (hv2 (zh.ev rfl) (zh.ev rfl))) (rn_any (lget cl x.1).l g9 g25 (clRn (cl.take x.1) []).2 Ck (fun b => b < w.heap.size) _ _ hk1 (InT.below hb65 hLi) (fun b q q2 => by have z := hkN b q2; (try dsimp only at z); omega) hpl (by omega)) ?_
      rintro v67 w68 ⟨⟨C2, hn2, hc2, hlf⟩, hcA⟩
      obtain ⟨_, la, lc, rfl, _, _, _⟩ := hlf.form
      have hrw := hk3.chg hcA (fun b q => (hk4 b q).2) (fun b q => q.1.2.1)
      have hb69 := chg_below hb65 hcA (fun b hb => (fun h => by have z := hkN _ h; (try dsimp only at *); omega))
      have hB70 := chg_blk hB62 hcA (fun h => by have z := hkN _ h; (try dsimp only at *); omega)
      refine WL.step (post := NewBlk w68 32 #[.int .i64 0, .slice none 0 0]) rfl rfl rfl (fun za zC zh zk => alloc_32 rfl (zk _ _ (newBlk _ _ _))) ?_
      rintro _ w71 ⟨g72, rfl, hg73, hB74, hb75, hz76⟩
      have hl77 : g53 < g72 := by have z1 := hB70.lt; omega
      have hl78 : w.heap.size ≤ g72 := by have z2 := (hb69).size; omega
      have hl79 : w68.heap.size ≤ g72 := by omega
      refine WL.step (post := fun _ w' => Upd g72 w71 w' ∧ Blk w' g72 32 #[.int .i64 ((T.rn (lget cl x.1).l (clRn (cl.take x.1) []).2).1.f), .slice la ((T.rn (lget cl x.1).l (clRn (cl.take x.1) []).2).1.args.length) lc]) rfl rfl rfl (fun za zC zh zk => st_32 rfl (zh.ev rfl) (zh.ev rfl) rfl rfl hB74 (by first | decide | simp) (fun v => zk v _ ⟨(Upd.at_ _ _ _ _).trans (Upd.at_ _ _ _ _), (hB74.set_ 0 _).set_ 1 _⟩)) ?_
      rintro v83 w80 ⟨hu81, hB82⟩
      have hb84 : Below w.heap.size w w71 := (bstep hb69 hb75)
      have hb85 := upd_below hb84 hu81 (by omega)
      have hb86 := upd_below hb75 hu81 (by omega)
      have hB87 := hB70.below hb75
      have hB88 := upd_blk hB87 hu81 (by omega)
      refine WL.nil (WE.sub (K' := [(0, .slice a cl.length c), (2, .slice none 0 0), (3, .slice none 0 0), (4, .pointer (some ⟨g9, 0, none⟩)), (5, .pointer (some ⟨g25, 0, none⟩)), (6, .func (Fn.func 54) #[] #[.pointer (some ⟨g9, 0, none⟩), .pointer (some ⟨g25, 0, none⟩)]), (7, .slice x.2.1 x.1 x.2.2), (9, .pointer (some ⟨g53, 0, none⟩)), (10, .pointer (some ⟨g72, 0, none⟩)), (13, .slice a cl.length c), (14, .int .i64 (((cl.length : Nat) : Int))), (15, .int .i64 (((x.1 : Nat) : Int))), (16, .bool ((decide ((((x.1 : Nat) : Int) : Int) < (((cl.length : Nat) : Int) : Int)))))]) ⟨rfl, rfl, rfl, rfl, rfl, rfl, rfl, rfl, rfl, rfl, rfl, rfl, rfl, trivial⟩ ?_)
      refine WE.next ?_
      have ho89 := hn2.below hb86
      have ho90 := hrw.below hb86
      have ho91 := hlf.below hb86
      have hl92 : g53 < w80.heap.size := hB88.lt
      have hl93 : g72 < w80.heap.size := hB82.lt
      have h09 : w60.heap.size ≤ w80.heap.size := (Nat.le_trans hcA.size hb86.size)
      have hL9 := InT.mono (S' := fun b => (w60.heap.size ≤ b ∧ ¬ C2 b) ∧ b < w80.heap.size) (fun b q z => ⟨q, z⟩) ho91
      have hR9 := InT.below hb85 hRi
      have hcl2 := ho89.clt
      have hnA9 : ∀ b, b < w.heap.size → ¬ (fun b => C2 b ∨ (Value.slice x.2.1 x.1 x.2.2).ownBlock = some b) b := fun b hb q => by
        rcases q with q | q
        · rcases hc2 b q with z | z
          · have z2 := hkN b z; (try dsimp only at z2); omega
          · omega
        · have z := (hk4 b q).1; (try dsimp only at z); omega
      have hn9b : ¬ (fun b => C2 b ∨ (Value.slice x.2.1 x.1 x.2.2).ownBlock = some b) g53 := fun q => by
        rcases q with q | q
        · rcases hc2 _ q with z | z
          · have z2 := hkN _ z; (try dsimp only at z2); omega
          · omega
        · have z := (hk4 _ q).1; (try dsimp only at z); omega
      have hn10b : ¬ (fun b => C2 b ∨ (Value.slice x.2.1 x.1 x.2.2).ownBlock = some b) g72 := fun q => by
        rcases q with q | q
        · have z := hn2.clt _ q; omega
        · have z := hkl _ q; have z2 : w60.heap.size ≤ w68.heap.size := hcA.size; omega
      have hcap7 := hk3.inRow
      have hcap8 := hcap7.2.2
      unfold maxLen at hcap8
      have hGV9 : ∀ (vals : List Value) (wa wb : World), Below wa.heap.size wa wb → (fun vals wz => match vals with | [] => NmAt wz g9 g25 (T.rn (lget cl x.1).l (clRn (cl.take x.1) []).2).2 C2 ∧ RowD eltL (fun b => ((fun b => w.heap.size ≤ b ∧ b ≠ g53) b ∧ ¬ Ck b ∧ (Value.slice x.2.1 x.1 x.2.2).ownBlock ≠ some b) ∧ b < w60.heap.size) wz 44 x.2.1 x.2.2 x.1 (clRn (cl.take x.1) []).1 ∧ InT (fun b => ((w60.heap.size ≤ b ∧ ¬ C2 b) ∧ b < w80.heap.size)) wz (T.rn (lget cl x.1).l (clRn (cl.take x.1) []).2).1 (.agg #[.int .i64 ((T.rn (lget cl x.1).l (clRn (cl.take x.1) []).2).1.f), .slice la ((T.rn (lget cl x.1).l (clRn (cl.take x.1) []).2).1.args.length) lc]) | [z0] => ∃ C3, NmAt wz g9 g25 (T.rn (lget cl x.1).r (T.rn (lget cl x.1).l (clRn (cl.take x.1) []).2).2).2 C3 ∧ (∀ b, C3 b → C2 b ∨ w80.heap.size ≤ b) ∧ InT (fun b => w80.heap.size ≤ b ∧ ¬ C3 b) wz (T.rn (lget cl x.1).r (T.rn (lget cl x.1).l (clRn (cl.take x.1) []).2).2).1 z0 ∧ InT (fun b => ((w60.heap.size ≤ b ∧ ¬ C2 b) ∧ b < w80.heap.size)) wz (T.rn (lget cl x.1).l (clRn (cl.take x.1) []).2).1 (.agg #[.int .i64 ((T.rn (lget cl x.1).l (clRn (cl.take x.1) []).2).1.f), .slice la ((T.rn (lget cl x.1).l (clRn (cl.take x.1) []).2).1.args.length) lc]) ∧ RowD eltL (fun b => ((fun b => w.heap.size ≤ b ∧ b ≠ g53) b ∧ ¬ Ck b ∧ (Value.slice x.2.1 x.1 x.2.2).ownBlock ≠ some b) ∧ b < w60.heap.size) wz 44 x.2.1 x.2.2 x.1 (clRn (cl.take x.1) []).1 | [_, z1] => ∃ C3, NmAt wz g9 g25 (T.rn (lget cl x.1).r (T.rn (lget cl x.1).l (clRn (cl.take x.1) []).2).2).2 C3 ∧ (∀ b, C3 b → C2 b ∨ w80.heap.size ≤ b) ∧ LiIn (fun b => ((w60.heap.size ≤ b ∧ ¬ C2 b) ∧ b < w80.heap.size) ∨ (w80.heap.size ≤ b ∧ ¬ C3 b)) wz (Li.rn (lget cl x.1) (clRn (cl.take x.1) []).2).1 z1 ∧ RowD eltL (fun b => ((fun b => w.heap.size ≤ b ∧ b ≠ g53) b ∧ ¬ Ck b ∧ (Value.slice x.2.1 x.1 x.2.2).ownBlock ≠ some b) ∧ b < w60.heap.size) wz 44 x.2.1 x.2.2 x.1 (clRn (cl.take x.1) []).1 | [_, _, z2] => ∃ C3 g1 cs, z2 = .slice (some ⟨g1, 0, none⟩) 1 1 ∧ Blk wz g1 44 (List.toArray cs) ∧ eltL.In (fun b => ((w60.heap.size ≤ b ∧ ¬ C2 b) ∧ b < w80.heap.size) ∨ (w80.heap.size ≤ b ∧ ¬ C3 b)) wz (Li.rn (lget cl x.1) (clRn (cl.take x.1) []).2).1 cs ∧ NmAt wz g9 g25 (T.rn (lget cl x.1).r (T.rn (lget cl x.1).l (clRn (cl.take x.1) []).2).2).2 C3 ∧ (∀ b, C3 b → C2 b ∨ w80.heap.size ≤ b) ∧ RowD eltL (fun b => ((fun b => w.heap.size ≤ b ∧ b ≠ g53) b ∧ ¬ Ck b ∧ (Value.slice x.2.1 x.1 x.2.2).ownBlock ≠ some b) ∧ b < w60.heap.size) wz 44 x.2.1 x.2.2 x.1 (clRn (cl.take x.1) []).1 | [_, _, _, z3] => ∃ C3 ra2 rc2 Z, z3 = .slice ra2 (x.1 + 1) rc2 ∧ NmAt wz g9 g25 (T.rn (lget cl x.1).r (T.rn (lget cl x.1).l (clRn (cl.take x.1) []).2).2).2 C3 ∧ (∀ b, C3 b → C2 b ∨ w80.heap.size ≤ b) ∧ RowD eltL Z wz 44 ra2 rc2 (x.1 + 1) ((clRn (cl.take x.1) []).1 ++ [(Li.rn (lget cl x.1) (clRn (cl.take x.1) []).2).1]) ∧ (∀ b, Z b → ((fun b => w.heap.size ≤ b ∧ b ≠ g53) b ∧ ¬ Ck b ∧ b < w60.heap.size) ∨ (w60.heap.size ≤ b ∧ ¬ C3 b)) ∧ (∀ b, (Value.slice ra2 (x.1 + 1) rc2).ownBlock = some b → (Value.slice x.2.1 x.1 x.2.2).ownBlock = some b ∨ (w60.heap.size ≤ b ∧ ¬ C3 b)) | [_, _, _, _, z4] => ∃ C3 ra2 rc2 Z, z4 = .slice ra2 (x.1 + 1) rc2 ∧ NmAt wz g9 g25 (T.rn (lget cl x.1).r (T.rn (lget cl x.1).l (clRn (cl.take x.1) []).2).2).2 C3 ∧ (∀ b, C3 b → C2 b ∨ w80.heap.size ≤ b) ∧ RowD eltL Z wz 44 ra2 rc2 (x.1 + 1) ((clRn (cl.take x.1) []).1 ++ [(Li.rn (lget cl x.1) (clRn (cl.take x.1) []).2).1]) ∧ (∀ b, Z b → ((fun b => w.heap.size ≤ b ∧ b ≠ g53) b ∧ ¬ Ck b ∧ b < w60.heap.size) ∨ (w60.heap.size ≤ b ∧ ¬ C3 b)) ∧ (∀ b, (Value.slice ra2 (x.1 + 1) rc2).ownBlock = some b → (Value.slice x.2.1 x.1 x.2.2).ownBlock = some b ∨ (w60.heap.size ≤ b ∧ ¬ C3 b)) | _ => False) vals wa → (fun vals wz => match vals with | [] => NmAt wz g9 g25 (T.rn (lget cl x.1).l (clRn (cl.take x.1) []).2).2 C2 ∧ RowD eltL (fun b => ((fun b => w.heap.size ≤ b ∧ b ≠ g53) b ∧ ¬ Ck b ∧ (Value.slice x.2.1 x.1 x.2.2).ownBlock ≠ some b) ∧ b < w60.heap.size) wz 44 x.2.1 x.2.2 x.1 (clRn (cl.take x.1) []).1 ∧ InT (fun b => ((w60.heap.size ≤ b ∧ ¬ C2 b) ∧ b < w80.heap.size)) wz (T.rn (lget cl x.1).l (clRn (cl.take x.1) []).2).1 (.agg #[.int .i64 ((T.rn (lget cl x.1).l (clRn (cl.take x.1) []).2).1.f), .slice la ((T.rn (lget cl x.1).l (clRn (cl.take x.1) []).2).1.args.length) lc]) | [z0] => ∃ C3, NmAt wz g9 g25 (T.rn (lget cl x.1).r (T.rn (lget cl x.1).l (clRn (cl.take x.1) []).2).2).2 C3 ∧ (∀ b, C3 b → C2 b ∨ w80.heap.size ≤ b) ∧ InT (fun b => w80.heap.size ≤ b ∧ ¬ C3 b) wz (T.rn (lget cl x.1).r (T.rn (lget cl x.1).l (clRn (cl.take x.1) []).2).2).1 z0 ∧ InT (fun b => ((w60.heap.size ≤ b ∧ ¬ C2 b) ∧ b < w80.heap.size)) wz (T.rn (lget cl x.1).l (clRn (cl.take x.1) []).2).1 (.agg #[.int .i64 ((T.rn (lget cl x.1).l (clRn (cl.take x.1) []).2).1.f), .slice la ((T.rn (lget cl x.1).l (clRn (cl.take x.1) []).2).1.args.length) lc]) ∧ RowD eltL (fun b => ((fun b => w.heap.size ≤ b ∧ b ≠ g53) b ∧ ¬ Ck b ∧ (Value.slice x.2.1 x.1 x.2.2).ownBlock ≠ some b) ∧ b < w60.heap.size) wz 44 x.2.1 x.2.2 x.1 (clRn (cl.take x.1) []).1 | [_, z1] => ∃ C3, NmAt wz g9 g25 (T.rn (lget cl x.1).r (T.rn (lget cl x.1).l (clRn (cl.take x.1) []).2).2).2 C3 ∧ (∀ b, C3 b → C2 b ∨ w80.heap.size ≤ b) ∧ LiIn (fun b => ((w60.heap.size ≤ b ∧ ¬ C2 b) ∧ b < w80.heap.size) ∨ (w80.heap.size ≤ b ∧ ¬ C3 b)) wz (Li.rn (lget cl x.1) (clRn (cl.take x.1) []).2).1 z1 ∧ RowD eltL (fun b => ((fun b => w.heap.size ≤ b ∧ b ≠ g53) b ∧ ¬ Ck b ∧ (Value.slice x.2.1 x.1 x.2.2).ownBlock ≠ some b) ∧ b < w60.heap.size) wz 44 x.2.1 x.2.2 x.1 (clRn (cl.take x.1) []).1 | [_, _, z2] => ∃ C3 g1 cs, z2 = .slice (some ⟨g1, 0, none⟩) 1 1 ∧ Blk wz g1 44 (List.toArray cs) ∧ eltL.In (fun b => ((w60.heap.size ≤ b ∧ ¬ C2 b) ∧ b < w80.heap.size) ∨ (w80.heap.size ≤ b ∧ ¬ C3 b)) wz (Li.rn (lget cl x.1) (clRn (cl.take x.1) []).2).1 cs ∧ NmAt wz g9 g25 (T.rn (lget cl x.1).r (T.rn (lget cl x.1).l (clRn (cl.take x.1) []).2).2).2 C3 ∧ (∀ b, C3 b → C2 b ∨ w80.heap.size ≤ b) ∧ RowD eltL (fun b => ((fun b => w.heap.size ≤ b ∧ b ≠ g53) b ∧ ¬ Ck b ∧ (Value.slice x.2.1 x.1 x.2.2).ownBlock ≠ some b) ∧ b < w60.heap.size) wz 44 x.2.1 x.2.2 x.1 (clRn (cl.take x.1) []).1 | [_, _, _, z3] => ∃ C3 ra2 rc2 Z, z3 = .slice ra2 (x.1 + 1) rc2 ∧ NmAt wz g9 g25 (T.rn (lget cl x.1).r (T.rn (lget cl x.1).l (clRn (cl.take x.1) []).2).2).2 C3 ∧ (∀ b, C3 b → C2 b ∨ w80.heap.size ≤ b) ∧ RowD eltL Z wz 44 ra2 rc2 (x.1 + 1) ((clRn (cl.take x.1) []).1 ++ [(Li.rn (lget cl x.1) (clRn (cl.take x.1) []).2).1]) ∧ (∀ b, Z b → ((fun b => w.heap.size ≤ b ∧ b ≠ g53) b ∧ ¬ Ck b ∧ b < w60.heap.size) ∨ (w60.heap.size ≤ b ∧ ¬ C3 b)) ∧ (∀ b, (Value.slice ra2 (x.1 + 1) rc2).ownBlock = some b → (Value.slice x.2.1 x.1 x.2.2).ownBlock = some b ∨ (w60.heap.size ≤ b ∧ ¬ C3 b)) | [_, _, _, _, z4] => ∃ C3 ra2 rc2 Z, z4 = .slice ra2 (x.1 + 1) rc2 ∧ NmAt wz g9 g25 (T.rn (lget cl x.1).r (T.rn (lget cl x.1).l (clRn (cl.take x.1) []).2).2).2 C3 ∧ (∀ b, C3 b → C2 b ∨ w80.heap.size ≤ b) ∧ RowD eltL Z wz 44 ra2 rc2 (x.1 + 1) ((clRn (cl.take x.1) []).1 ++ [(Li.rn (lget cl x.1) (clRn (cl.take x.1) []).2).1]) ∧ (∀ b, Z b → ((fun b => w.heap.size ≤ b ∧ b ≠ g53) b ∧ ¬ Ck b ∧ b < w60.heap.size) ∨ (w60.heap.size ≤ b ∧ ¬ C3 b)) ∧ (∀ b, (Value.slice ra2 (x.1 + 1) rc2).ownBlock = some b → (Value.slice x.2.1 x.1 x.2.2).ownBlock = some b ∨ (w60.heap.size ≤ b ∧ ¬ C3 b)) | _ => False) vals wb := by
        intro vals wa wb hb h
        match vals, h with
        | [], h => exact ⟨h.1.below hb, h.2.1.below hb, h.2.2.below hb⟩
        | [z0], h =>
          obtain ⟨C3, k1, k2, k3, k4, k5⟩ := h
          exact ⟨C3, k1.below hb, k2, k3.below hb, k4.below hb, k5.below hb⟩
        | [_, z1], h =>
          obtain ⟨C3, k1, k2, k3, k4⟩ := h
          exact ⟨C3, k1.below hb, k2, k3.keep (fun p x _ hx => bkeeps hb p x hx), k4.below hb⟩
        | [_, _, z2], h =>
          obtain ⟨C3, g1, cs, e, k0, k3, k1, k2, k4⟩ := h
          exact ⟨C3, g1, cs, e, k0.below hb, Elt.below (E := eltL) k3 hb, k1.below hb, k2, k4.below hb⟩
        | [_, _, _, z3], h =>
          obtain ⟨C3, ra2, rc2, Z, e, k1, k2, k3, k4, k5⟩ := h
          exact ⟨C3, ra2, rc2, Z, e, k1.below hb, k2, k3.below hb, k4, k5⟩
        | [_, _, _, _, z4], h =>
          obtain ⟨C3, ra2, rc2, Z, e, k1, k2, k3, k4, k5⟩ := h
          exact ⟨C3, ra2, rc2, Z, e, k1.below hb, k2, k3.below hb, k4, k5⟩
      refine WC.seqV (S := ((fun b => C2 b ∨ (Value.slice x.2.1 x.1 x.2.2).ownBlock = some b))) [(true, .val (.slice x.2.1 x.1 x.2.2)), (true, .val (.pointer (some ⟨g53, 0, none⟩))), (true, .val (.bool ((lget cl x.1).neg))), (true, .val (.agg #[.int .i64 ((T.rn (lget cl x.1).l (clRn (cl.take x.1) []).2).1.f), .slice la ((T.rn (lget cl x.1).l (clRn (cl.take x.1) []).2).1.args.length) lc])), (true, .val (.pointer (some ⟨g53, 3, none⟩))), (true, .val (.agg #[.int .i64 ((lget cl x.1).r.f), .slice ((A48 x.1)) ((lget cl x.1).r.args.length) ((C49 x.1))])), (true, .val (.func (Fn.func 54) #[] #[.pointer (some ⟨g9, 0, none⟩), .pointer (some ⟨g25, 0, none⟩)])), (true, .val undef), (true, .val undef), (true, .val undef), (true, .val undef), (true, .val undef)] [(0, .slice a cl.length c), (2, .slice none 0 0), (3, .slice none 0 0), (4, .pointer (some ⟨g9, 0, none⟩)), (5, .pointer (some ⟨g25, 0, none⟩)), (6, .func (Fn.func 54) #[] #[.pointer (some ⟨g9, 0, none⟩), .pointer (some ⟨g25, 0, none⟩)]), (9, .pointer (some ⟨g53, 0, none⟩)), (10, .pointer (some ⟨g72, 0, none⟩)), (13, .slice a cl.length c), (14, .int .i64 (((cl.length : Nat) : Int))), (15, .int .i64 (((x.1 : Nat) : Int))), (16, .bool ((decide ((((x.1 : Nat) : Int) : Int) < (((cl.length : Nat) : Int) : Int)))))] [7, 8, 9, 10, 11] [none, none, none, none, none] (fun vals wz => match vals with | [] => NmAt wz g9 g25 (T.rn (lget cl x.1).l (clRn (cl.take x.1) []).2).2 C2 ∧ RowD eltL (fun b => ((fun b => w.heap.size ≤ b ∧ b ≠ g53) b ∧ ¬ Ck b ∧ (Value.slice x.2.1 x.1 x.2.2).ownBlock ≠ some b) ∧ b < w60.heap.size) wz 44 x.2.1 x.2.2 x.1 (clRn (cl.take x.1) []).1 ∧ InT (fun b => ((w60.heap.size ≤ b ∧ ¬ C2 b) ∧ b < w80.heap.size)) wz (T.rn (lget cl x.1).l (clRn (cl.take x.1) []).2).1 (.agg #[.int .i64 ((T.rn (lget cl x.1).l (clRn (cl.take x.1) []).2).1.f), .slice la ((T.rn (lget cl x.1).l (clRn (cl.take x.1) []).2).1.args.length) lc]) | [z0] => ∃ C3, NmAt wz g9 g25 (T.rn (lget cl x.1).r (T.rn (lget cl x.1).l (clRn (cl.take x.1) []).2).2).2 C3 ∧ (∀ b, C3 b → C2 b ∨ w80.heap.size ≤ b) ∧ InT (fun b => w80.heap.size ≤ b ∧ ¬ C3 b) wz (T.rn (lget cl x.1).r (T.rn (lget cl x.1).l (clRn (cl.take x.1) []).2).2).1 z0 ∧ InT (fun b => ((w60.heap.size ≤ b ∧ ¬ C2 b) ∧ b < w80.heap.size)) wz (T.rn (lget cl x.1).l (clRn (cl.take x.1) []).2).1 (.agg #[.int .i64 ((T.rn (lget cl x.1).l (clRn (cl.take x.1) []).2).1.f), .slice la ((T.rn (lget cl x.1).l (clRn (cl.take x.1) []).2).1.args.length) lc]) ∧ RowD eltL (fun b => ((fun b => w.heap.size ≤ b ∧ b ≠ g53) b ∧ ¬ Ck b ∧ (Value.slice x.2.1 x.1 x.2.2).ownBlock ≠ some b) ∧ b < w60.heap.size) wz 44 x.2.1 x.2.2 x.1 (clRn (cl.take x.1) []).1 | [_, z1] => ∃ C3, NmAt wz g9 g25 (T.rn (lget cl x.1).r (T.rn (lget cl x.1).l (clRn (cl.take x.1) []).2).2).2 C3 ∧ (∀ b, C3 b → C2 b ∨ w80.heap.size ≤ b) ∧ LiIn (fun b => ((w60.heap.size ≤ b ∧ ¬ C2 b) ∧ b < w80.heap.size) ∨ (w80.heap.size ≤ b ∧ ¬ C3 b)) wz (Li.rn (lget cl x.1) (clRn (cl.take x.1) []).2).1 z1 ∧ RowD eltL (fun b => ((fun b => w.heap.size ≤ b ∧ b ≠ g53) b ∧ ¬ Ck b ∧ (Value.slice x.2.1 x.1 x.2.2).ownBlock ≠ some b) ∧ b < w60.heap.size) wz 44 x.2.1 x.2.2 x.1 (clRn (cl.take x.1) []).1 | [_, _, z2] => ∃ C3 g1 cs, z2 = .slice (some ⟨g1, 0, none⟩) 1 1 ∧ Blk wz g1 44 (List.toArray cs) ∧ eltL.In (fun b => ((w60.heap.size ≤ b ∧ ¬ C2 b) ∧ b < w80.heap.size) ∨ (w80.heap.size ≤ b ∧ ¬ C3 b)) wz (Li.rn (lget cl x.1) (clRn (cl.take x.1) []).2).1 cs ∧ NmAt wz g9 g25 (T.rn (lget cl x.1).r (T.rn (lget cl x.1).l (clRn (cl.take x.1) []).2).2).2 C3 ∧ (∀ b, C3 b → C2 b ∨ w80.heap.size ≤ b) ∧ RowD eltL (fun b => ((fun b => w.heap.size ≤ b ∧ b ≠ g53) b ∧ ¬ Ck b ∧ (Value.slice x.2.1 x.1 x.2.2).ownBlock ≠ some b) ∧ b < w60.heap.size) wz 44 x.2.1 x.2.2 x.1 (clRn (cl.take x.1) []).1 | [_, _, _, z3] => ∃ C3 ra2 rc2 Z, z3 = .slice ra2 (x.1 + 1) rc2 ∧ NmAt wz g9 g25 (T.rn (lget cl x.1).r (T.rn (lget cl x.1).l (clRn (cl.take x.1) []).2).2).2 C3 ∧ (∀ b, C3 b → C2 b ∨ w80.heap.size ≤ b) ∧ RowD eltL Z wz 44 ra2 rc2 (x.1 + 1) ((clRn (cl.take x.1) []).1 ++ [(Li.rn (lget cl x.1) (clRn (cl.take x.1) []).2).1]) ∧ (∀ b, Z b → ((fun b => w.heap.size ≤ b ∧ b ≠ g53) b ∧ ¬ Ck b ∧ b < w60.heap.size) ∨ (w60.heap.size ≤ b ∧ ¬ C3 b)) ∧ (∀ b, (Value.slice ra2 (x.1 + 1) rc2).ownBlock = some b → (Value.slice x.2.1 x.1 x.2.2).ownBlock = some b ∨ (w60.heap.size ≤ b ∧ ¬ C3 b)) | [_, _, _, _, z4] => ∃ C3 ra2 rc2 Z, z4 = .slice ra2 (x.1 + 1) rc2 ∧ NmAt wz g9 g25 (T.rn (lget cl x.1).r (T.rn (lget cl x.1).l (clRn (cl.take x.1) []).2).2).2 C3 ∧ (∀ b, C3 b → C2 b ∨ w80.heap.size ≤ b) ∧ RowD eltL Z wz 44 ra2 rc2 (x.1 + 1) ((clRn (cl.take x.1) []).1 ++ [(Li.rn (lget cl x.1) (clRn (cl.take x.1) []).2).1]) ∧ (∀ b, Z b → ((fun b => w.heap.size ≤ b ∧ b ≠ g53) b ∧ ¬ Ck b ∧ b < w60.heap.size) ∨ (w60.heap.size ≤ b ∧ ¬ C3 b)) ∧ (∀ b, (Value.slice ra2 (x.1 + 1) rc2).ownBlock = some b → (Value.slice x.2.1 x.1 x.2.2).ownBlock = some b ∨ (w60.heap.size ≤ b ∧ ¬ C3 b)) | _ => False) hGV9 (by decide) ⟨rfl, rfl, rfl, rfl, rfl, rfl, rfl, rfl, rfl, rfl, rfl, rfl, trivial⟩ (by kernel_rfl) (by kernel_rfl) (by kernel_rfl) (by kernel_rfl) (⟨ho89, ho90, hL9⟩) ?_ ?_
      · refine ⟨.inl ⟨rfl, true, .none rfl, (fun gg b h => by cases h), fun h w => optUndef h, fun zβ za zw zc => ?_⟩, ?_⟩
        · exact wp_move rfl ((show za.eval (.tmp 7) = za.tmps.getD 7 undef from rfl).trans (zc.old 7 _ rfl (by kernel_rfl))) ⟨_, rfl, Below.refl _ _, optDef zβ rfl⟩
        refine ⟨.inl ⟨rfl, true, .none rfl, (fun gg b h => by cases h), fun h w => optUndef h, fun zβ za zw zc => ?_⟩, ?_⟩
        · exact fld_44_0 rfl (zc.kn.ev rfl) ⟨_, rfl, Below.refl _ _, optDef zβ rfl⟩
        refine ⟨.inl ⟨rfl, true, .none rfl, (fun gg b h => by cases h), fun h w => optUndef h, fun zβ za zw zc => ?_⟩, ?_⟩
        · exact ld_4 rfl ((show za.eval (.tmp 24) = za.tmps.getD 24 undef from rfl).trans (optSVal (zc.dep 1 24 (by kernel_rfl) (by decide)) rfl rfl)) (chg_cell zc.chg (by first | assumption | ((try dsimp only at *); omega)) ((hB88.cell 0).trans rfl)) ⟨_, rfl, Below.refl _ _, optDef zβ rfl⟩
        refine ⟨.inl ⟨rfl, true, .none rfl, (fun gg b h => by cases h), fun h w => optUndef h, fun zβ za zw zc => ?_⟩, ?_⟩
        · exact ld_32 rfl (zc.kn.ev rfl) (chg_cell zc.chg (by first | assumption | ((try dsimp only at *); omega)) ((hB82.cell 0).trans rfl)) (chg_cell zc.chg (by first | assumption | ((try dsimp only at *); omega)) ((hB82.cell 1).trans rfl)) ⟨_, rfl, Below.refl _ _, optDef zβ rfl⟩
        refine ⟨.inl ⟨rfl, true, .none rfl, (fun gg b h => by cases h), fun h w => optUndef h, fun zβ za zw zc => ?_⟩, ?_⟩
        · exact fld_44_2 rfl (zc.kn.ev rfl) ⟨_, rfl, Below.refl _ _, optDef zβ rfl⟩
        refine ⟨.inl ⟨rfl, true, .none rfl, (fun gg b h => by cases h), fun h w => optUndef h, fun zβ za zw zc => ?_⟩, ?_⟩
        · exact ld_32 rfl ((show za.eval (.tmp 27) = za.tmps.getD 27 undef from rfl).trans (optSVal (zc.dep 4 27 (by kernel_rfl) (by decide)) rfl rfl)) (chg_cell zc.chg (by first | assumption | ((try dsimp only at *); omega)) ((hB88.cell 3).trans rfl)) (chg_cell zc.chg (by first | assumption | ((try dsimp only at *); omega)) ((hB88.cell 4).trans rfl)) ⟨_, rfl, Below.refl _ _, optDef zβ rfl⟩
        refine ⟨.inl ⟨rfl, true, .none rfl, (fun gg b h => by cases h), fun h w => optUndef h, fun zβ za zw zc => ?_⟩, ?_⟩
        · exact wp_move rfl (zc.kn.ev rfl) ⟨_, rfl, Below.refl _ _, optDef zβ rfl⟩
        refine ⟨.inr ⟨0, rfl, by kernel_rfl, true, .none rfl, (fun gg b h => by cases h), (fun h => (nomatch h)), fun zβ za zw zvals zc => ?_⟩, ?_⟩
        · obtain rfl := vlen0 zc.len
          have zn := zc.now
          exact wp_call (by kernel_rfl) rfl (hv2 ((show za.eval (.tmp 28) = za.tmps.getD 28 undef from rfl).trans (optSVal (zc.dep 5 28 (by kernel_rfl) (by decide)) rfl rfl)) ((show za.eval (.tmp 29) = za.tmps.getD 29 undef from rfl).trans (optSVal (zc.dep 6 29 (by kernel_rfl) (by decide)) rfl rfl))) (rn_any (lget cl x.1).r g9 g25 (T.rn (lget cl x.1).l (clRn (cl.take x.1) []).2).2 C2 (fun b => b < w.heap.size) _ _ zn.1 (hR9.chg zc.chg hnA9) (fun b q q2 => hnA9 b q (.inl q2)) hpr (by omega)) (fun v w' h => by obtain ⟨⟨C3, k1, k2, k3⟩, k4⟩ := h; exact ⟨v, rfl, k4.mono (fun b q => .inl q), ⟨C3, k1, fun b q => (k2 b q).imp id (fun q => Nat.le_trans zc.chg.size q), k3.mono (fun b q _ => ⟨Nat.le_trans zc.chg.size q.1, q.2⟩), zn.2.2.chg k4 (fun b q => q.1.2), zn.2.1.chg k4 (fun b q q2 => by rcases hc2 b q2 with z | z; exact (hk4 b q).2 z; (have z2 := hkl b q; omega)) (fun b q q2 => by rcases hc2 b q2 with z | z; exact q.1.2.1 z; omega)⟩, cvNo⟩)
        refine ⟨.inr ⟨1, rfl, by kernel_rfl, true, .none rfl, (fun gg b h => by cases h), (fun h => (nomatch h)), fun zβ za zw zvals zc => ?_⟩, ?_⟩
        · obtain ⟨z0, rfl⟩ := vlen1 zc.len
          have zn := zc.now
          obtain ⟨C3, k1, k2, k3, k4, k5⟩ := zn
          have e0 : z0 = za.tmps.getD 30 undef := Option.some.inj (zc.val 0 7 30 rfl (by kernel_rfl))
          obtain ⟨_, fa, fc, ef, _⟩ := k3.form
          have k3b := k3
          rw [ef] at k3b
          exact build_44_0_1_2 rfl ((show za.eval (.tmp 25) = za.tmps.getD 25 undef from rfl).trans (optSVal (zc.dep 2 25 (by kernel_rfl) (by decide)) rfl rfl)) ((show za.eval (.tmp 26) = za.tmps.getD 26 undef from rfl).trans (optSVal (zc.dep 3 26 (by kernel_rfl) (by decide)) rfl rfl)) ((show za.eval (.tmp 30) = za.tmps.getD 30 undef from rfl).trans (e0.symm.trans ef)) ⟨_, rfl, .ofBelow (Below.refl _ _), ⟨C3, k1, k2, ⟨_, _, _, _, rfl, k4.mono (fun b q _ => .inl q), k3b.mono (fun b q _ => .inr q)⟩, k5⟩, cvNo⟩
        refine ⟨.inr ⟨2, rfl, by kernel_rfl, true, .none rfl, (fun gg b h => by cases h), (fun h => (nomatch h)), fun zβ za zw zvals zc => ?_⟩, ?_⟩
        · obtain ⟨z0, z1, rfl⟩ := vlen2 zc.len
          have zn := zc.now
          obtain ⟨C3, k1, k2, k3, k4⟩ := zn
          have e1 : z1 = za.tmps.getD 31 undef := Option.some.inj (zc.val 1 8 31 rfl (by kernel_rfl))
          obtain ⟨b1, b2, c1, c2, ef⟩ := LiIn.parts k3
          have k3b := k3
          rw [ef] at k3b
          obtain ⟨q1, q2⟩ := LiIn.two k3b
          exact row_42_1 rfl ((show za.eval (.tmp 31) = za.tmps.getD 31 undef from rfl).trans (e1.symm.trans ef)) ⟨_, rfl, .ofBelow (balloc _ _), ⟨C3, _, _, rfl, Blk.new' rfl, ⟨_, _, _, _, rfl, q1.below (balloc _ _), q2.below (balloc _ _)⟩, k1.below (balloc _ _), k2, k4.below (balloc _ _)⟩, cvNo⟩
        refine ⟨.inr ⟨3, rfl, by kernel_rfl, true, .none rfl, (fun gg b h => by cases h), (fun h => (nomatch h)), fun zβ za zw zvals zc => ?_⟩, ?_⟩
        · obtain ⟨z0, z1, z2, rfl⟩ := vlen3 zc.len
          have zn := zc.now
          obtain ⟨C3, g1, cs, e, k0, k3, k1, k2, k4⟩ := zn
          have e2 : z2 = za.tmps.getD 32 undef := Option.some.inj (zc.val 2 9 32 rfl (by kernel_rfl))
          exact wp_appD (E := eltL) (S2 := (fun b => ((w60.heap.size ≤ b ∧ ¬ C2 b) ∧ b < w80.heap.size) ∨ (w80.heap.size ≤ b ∧ ¬ C3 b))) (size := 5) (bytes := 72) (z := .agg #[.bool false, .int .i64 0, .slice none 0 0, .int .i64 0, .slice none 0 0]) rfl Try.underlying42 (by kernel_rfl) rfl (by decide) rfl ((show za.eval (.tmp 23) = za.tmps.getD 23 undef from rfl).trans (optSVal (zc.dep 0 23 (by kernel_rfl) (by decide)) rfl rfl)) ((show za.eval (.tmp 32) = za.tmps.getD 32 undef from rfl).trans (e2.symm.trans e)) k4 k0 k3 (fun b q q2 => by have z := hkl b q2; (try dsimp only at q); omega) (by omega) (by omega) (fun ra rc w' h1 h2 h3 => ⟨_, rfl, h2.mono (fun b q => .inr q), ⟨C3, ra, rc, _, rfl, k1.chg h2 (fun b q q2 => by have z2 := hkl b q2; rcases k2 b q with z | z; (rcases hc2 b z with z3 | z3; exact (hk4 b q2).2 z3; omega); omega), k2, h1, fun b q => by
              rcases q.1 with q | q
              · exact .inl ⟨q.1.1, q.1.2.1, q.2⟩
              · refine .inr ?_
                rcases q with q | q
                · exact ⟨q.1.1, fun q3 => by rcases k2 b q3 with z | z; exact q.1.2 z; omega⟩
                · exact ⟨by omega, q.2⟩, fun b q => (h3 b q).imp id (fun q2 => ⟨by have z := zc.chg.size; omega, fun q3 => by have z := k1.clt b q3; omega⟩)⟩, cvNo⟩)
        refine ⟨.inr ⟨4, rfl, by kernel_rfl, true, .none rfl, (fun gg b h => by cases h), (fun h => (nomatch h)), fun zβ za zw zvals zc => ?_⟩, ?_⟩
        · obtain ⟨z0, z1, z2, z3, rfl⟩ := vlen4 zc.len
          have zn := zc.now
          obtain ⟨C3, ra2, rc2, Z, e, k1, k2, k3, k4, k5⟩ := zn
          have e3 : z3 = za.tmps.getD 33 undef := Option.some.inj (zc.val 3 10 33 rfl (by kernel_rfl))
          exact wp_assign rfl ((show za.eval (.tmp 33) = za.tmps.getD 33 undef from rfl).trans (e3.symm.trans e)) ⟨_, rfl, .ofBelow (Below.refl _ _), ⟨C3, ra2, rc2, Z, rfl, k1, k2, k3, k4, k5⟩, cvNo⟩
        exact trivial
      · intro za w94 zvals zh zl hG95 hc96 zu zw zk
        obtain ⟨z0, z1, z2, z3, z4, rfl⟩ := vlen5 zl
        obtain ⟨C9, ra9, rc9, Z9, e9, k91, k92, k93, k94, k95⟩ := hG95
        have zh := zh.cons (d := 7) (v := .slice ra9 (x.1 + 1) rc9) ((Option.some.inj (zw 4 11 7 rfl (by kernel_rfl))).symm.trans e9)
        have hst97 : ClSt (fun _ => False) (fun b => w.heap.size ≤ b ∧ b ≠ g53) g9 g25 (T.rn (lget cl x.1).r (T.rn (lget cl x.1).l (clRn (cl.take x.1) []).2).2).2 ((clRn (cl.take x.1) []).1 ++ [(Li.rn (lget cl x.1) (clRn (cl.take x.1) []).2).1]) ra9 rc9 (x.1 + 1) w94 := ClSt.join (w0 := w60) hk2 hk4 hkl (fun b q => by (try dsimp only); omega) k91 (fun b q => by rcases k92 b q with z | z; exact hc2 b z; exact .inr (by omega)) k93 k94 k95
        have hb98 := chg_below hb85 hc96 (fun b hb => (hnA9 b hb))
        clear zu zw zk
        refine (show WE _ [(0, .slice a cl.length c), (2, .slice none 0 0), (3, .slice none 0 0), (4, .pointer (some ⟨g9, 0, none⟩)), (5, .pointer (some ⟨g25, 0, none⟩)), (6, .func (Fn.func 54) #[] #[.pointer (some ⟨g9, 0, none⟩), .pointer (some ⟨g25, 0, none⟩)]), (7, .slice ra9 ((x.1 + 1)) rc9), (9, .pointer (some ⟨g53, 0, none⟩)), (10, .pointer (some ⟨g72, 0, none⟩)), (13, .slice a cl.length c), (14, .int .i64 (((cl.length : Nat) : Int))), (15, .int .i64 (((x.1 : Nat) : Int))), (16, .bool ((decide ((((x.1 : Nat) : Int) : Int) < (((cl.length : Nat) : Int) : Int)))))] w94 _ .normal from ?_) za (zh.sub ⟨rfl, rfl, rfl, rfl, rfl, rfl, rfl, rfl, rfl, rfl, rfl, rfl, rfl, trivial⟩)
        refine WE.blockNormal ?_
        refine WE.next ?_
        refine WC.region ?_
        refine WL.val (.int .i64 ((((x.1 + 1) : Nat) : Int))) rfl rfl rfl (fun za zC zh zk => addb_3 rfl (zh.ev rfl) (zh.ev rfl) (wrap_eq (by omega) (by omega) (by omega)) zk) ?_
        refine WL.val (.int .i64 ((((x.1 + 1) : Nat) : Int))) rfl rfl rfl (fun za zC zh zk => wp_move rfl (zh.ev rfl) zk) ?_
        refine WL.nil (WE.sub (K' := [(0, .slice a cl.length c), (2, .slice none 0 0), (3, .slice none 0 0), (4, .pointer (some ⟨g9, 0, none⟩)), (5, .pointer (some ⟨g25, 0, none⟩)), (6, .func (Fn.func 54) #[] #[.pointer (some ⟨g9, 0, none⟩), .pointer (some ⟨g25, 0, none⟩)]), (7, .slice ra9 ((x.1 + 1)) rc9), (9, .pointer (some ⟨g53, 0, none⟩)), (10, .pointer (some ⟨g72, 0, none⟩)), (13, .slice a cl.length c), (14, .int .i64 (((cl.length : Nat) : Int))), (15, .int .i64 ((((x.1 + 1) : Nat) : Int))), (16, .bool ((decide ((((x.1 : Nat) : Int) : Int) < (((cl.length : Nat) : Int) : Int)))))]) ⟨rfl, rfl, rfl, rfl, rfl, rfl, rfl, rfl, rfl, rfl, rfl, rfl, rfl, trivial⟩ ?_)
        refine WE.round ((x.1 + 1, ra9, rc9)) ⟨rfl, rfl, rfl, rfl, rfl, rfl, rfl, rfl, rfl, rfl, trivial⟩ ?_ ?_
        · exact ⟨by (try dsimp only); omega, hb98, (by dsimp only; rw [clRn_take (by omega)]; exact ClSt.mono hst97 (fun b q _ => by (try dsimp only at *); omega))⟩
        · (try dsimp only); omega
    · have h43 : ¬ ((((x.1 : Nat) : Int) : Int) < (((cl.length : Nat) : Int) : Int)) := by simpa using h43
      refine WC.exit ?_
      refine WE.thenExit ?_
      refine WE.thenExit ?_
      refine WE.blockIs rfl ?_
      refine WE.next ?_
      refine WC.seq ?_
      obtain ⟨D9, ⟨mb9, es9, cl9, a9, c9, hN9⟩, hC9, hR9, hO9⟩ := ho42
      rw [List.take_of_length_le (show cl.length ≤ x.1 by omega)] at hN9 hR9
      have hbl9 := nmB_len (clRn cl []).2 0
      have hnm9 := clRn_names cl []
      simp only [List.length_nil] at hnm9
      refine WC.region ?_
      refine WL.val (.slice a9 ((nmB (clRn cl []).2 0).length) c9) rfl rfl rfl (fun za zC zh zk => ld_23 rfl (zh.ev rfl) ((hN9.bs.cell 0).trans rfl) zk) ?_
      refine WL.call rfl rfl rfl (fun za zh zC => wp_call (by kernel_rfl) rfl (hv2 (zh.ev rfl) (zh.ev rfl))) (sortB_own (hN9.row.rowE) (by omega) cmpIs_norm) ?_
      rintro _ w99 ⟨ls, rfl, hps, hss, hrs, hcs⟩
      have hb100 := chg_below hb41 hcs (fun b hb => (fun h => by first | exact hN9.rows h | (have z := hC9 _ (hN9.crow _ h); rcases z with z | z; exact z.elim; (try dsimp only at *); omega)))
      have hB101 := chg_blk hN9.bs hcs (fun h => by first | exact hN9.rows h | (have z := hC9 _ (hN9.crow _ h); rcases z with z | z; exact z.elim; (try dsimp only at *); omega))
      refine WL.nil (WE.sub (K' := [(0, .slice a cl.length c), (2, .slice none 0 0), (3, .slice none 0 0), (4, .pointer (some ⟨g9, 0, none⟩)), (5, .pointer (some ⟨g25, 0, none⟩)), (6, .func (Fn.func 54) #[] #[.pointer (some ⟨g9, 0, none⟩), .pointer (some ⟨g25, 0, none⟩)]), (7, .slice x.2.1 x.1 x.2.2), (13, .slice a cl.length c), (14, .int .i64 (((cl.length : Nat) : Int))), (15, .int .i64 (((x.1 : Nat) : Int))), (16, .bool ((decide ((((x.1 : Nat) : Int) : Int) < (((cl.length : Nat) : Int) : Int)))))]) ⟨rfl, rfl, rfl, rfl, rfl, rfl, rfl, rfl, rfl, rfl, rfl, trivial⟩ ?_)
      refine WE.next ?_
      refine WC.seq ?_
      refine WC.opt [(true, .val (.slice x.2.1 x.1 x.2.2)), (true, .val (.slice a9 ((nmB (clRn cl []).2 0).length) c9)), (true, .val (.slice x.2.1 x.1 x.2.2)), (true, .val (.slice a9 ((nmB (clRn cl []).2 0).length) c9))] [(0, .slice a cl.length c), (4, .pointer (some ⟨g9, 0, none⟩)), (5, .pointer (some ⟨g25, 0, none⟩)), (6, .func (Fn.func 54) #[] #[.pointer (some ⟨g9, 0, none⟩), .pointer (some ⟨g25, 0, none⟩)]), (7, .slice x.2.1 x.1 x.2.2), (13, .slice a cl.length c), (14, .int .i64 (((cl.length : Nat) : Int))), (15, .int .i64 (((x.1 : Nat) : Int))), (16, .bool ((decide ((((x.1 : Nat) : Int) : Int) < (((cl.length : Nat) : Int) : Int)))))] ⟨rfl, rfl, rfl, rfl, rfl, rfl, rfl, rfl, rfl, trivial⟩ (by kernel_rfl) (by kernel_rfl) (by kernel_rfl) ?_ ?_
      · refine ⟨⟨true, .none rfl, fun h w => optUndef h, fun zβ za zw zc => ?_⟩, ?_⟩
        · exact wp_move rfl (zc.kn.ev rfl) ⟨_, rfl, Below.refl _ _, optDef zβ rfl⟩
        refine ⟨⟨true, .none rfl, fun h w => optUndef h, fun zβ za zw zc => ?_⟩, ?_⟩
        · exact ld_23 rfl (zc.kn.ev rfl) (bkeeps zc.below _ _ ((hB101.cell 0).trans rfl)) ⟨_, rfl, Below.refl _ _, optDef zβ rfl⟩
        refine ⟨⟨true, .none rfl, fun h w => optUndef h, fun zβ za zw zc => ?_⟩, ?_⟩
        · exact wp_assign rfl ((show za.eval (.tmp 37) = za.tmps.getD 37 undef from rfl).trans (optVal (zc.dep 0 37 (by kernel_rfl)) rfl rfl)) ⟨_, rfl, Below.refl _ _, optDef zβ rfl⟩
        refine ⟨⟨true, .none rfl, fun h w => optUndef h, fun zβ za zw zc => ?_⟩, ?_⟩
        · exact wp_assign rfl ((show za.eval (.tmp 38) = za.tmps.getD 38 undef from rfl).trans (optVal (zc.dep 1 38 (by kernel_rfl)) rfl rfl)) ⟨_, rfl, Below.refl _ _, optDef zβ rfl⟩
        exact trivial
      · intro za w102 zh hb103 zu
        have zh := zh.cons (d := 2) (v := .slice x.2.1 x.1 x.2.2) (optVal (zu 2 2 (by kernel_rfl)) rfl rfl)
        have zh := zh.cons (d := 3) (v := .slice a9 ((nmB (clRn cl []).2 0).length) c9) (optVal (zu 3 3 (by kernel_rfl)) rfl rfl)
        clear zu
        refine (show WE _ [(0, .slice a cl.length c), (2, .slice x.2.1 x.1 x.2.2), (3, .slice a9 ((nmB (clRn cl []).2 0).length) c9), (4, .pointer (some ⟨g9, 0, none⟩)), (5, .pointer (some ⟨g25, 0, none⟩)), (6, .func (Fn.func 54) #[] #[.pointer (some ⟨g9, 0, none⟩), .pointer (some ⟨g25, 0, none⟩)]), (7, .slice x.2.1 x.1 x.2.2), (13, .slice a cl.length c), (14, .int .i64 (((cl.length : Nat) : Int))), (15, .int .i64 (((x.1 : Nat) : Int))), (16, .bool ((decide ((((x.1 : Nat) : Int) : Int) < (((cl.length : Nat) : Int) : Int)))))] w102 _ .normal from ?_) za (zh.sub ⟨rfl, rfl, rfl, rfl, rfl, rfl, rfl, rfl, rfl, rfl, rfl, trivial⟩)
        refine WE.next ?_
        refine WC.ret ?_
        refine WE.ret2 rfl rfl rfl ?_
        have hb104 : Below w.heap.size w w102 := (bstep hb100 hb103)
        have hrs2 := hrs.inRow
        have hRl := hR9.chg hcs (fun b q e => (hO9 b q).2 (hN9.crow b e)) (fun b q e => q.2.1 (hN9.crow b e))
        have hri := hRl.inRow
        have hxl : x.1 = cl.length := by omega
        rw [hxl] at hri hRl
        rw [hxl, hrs2.2.1]
        exact ⟨_, rfl, ⟨_, _, _, _, ls, rfl, hri.1.below hb103, hri.2.1, hri.2.2, hps, hss, (hrs2.1.mono (by decide) (fun _ _ _ => trivial)).below hb103, by omega, hrs2.2.2.2⟩, hb104⟩

end Go.Proofs.Ytgechlgdnnpoeaa

/- What Normal answers; clauses compared. -/
namespace Go.Proofs.Ytgechlgdnnpoeaa
open Go.RowKit Go
set_option linter.unusedVariables false
set_option linter.unusedSimpArgs false

set_option linter.unnecessarySimpa false

/-- What Normal answers. -/
structure NormOk (w : World) (cl : List Li) (oa : Option Addr) (oc : Nat) (sa : Option Addr) (sc : Nat) (R : List Bd) : Prop where
  out : IsCl w (clRn cl []).1 oa oc
  perm : R.Perm (nmB (clRn cl []).2 0)
  sub : IsSub w R sa sc
  sorted : R.Pairwise fun x y => x.var ≤ y.var
theorem NormOk.below {w w' : World} {cl : List Li} {oa sa : Option Addr} {oc sc : Nat} {R : List Bd} (h : NormOk w cl oa oc sa sc R) (hb : Below w.heap.size w w') : NormOk w' cl oa oc sa sc R := ⟨h.out.below hb, h.perm, h.sub.below hb, h.sorted⟩
theorem normal_cl (cl : List Li) (n : Nat) (hn : n = cl.length) (w : World) (a : Option Addr) (c : Nat) (hC : IsCl w cl a c) (hsz : clSz cl ≤ 4294967296) : Calls Try.prog 23 #[.slice a n c] w (Ret fun v' w' => (∃ (oa : Option Addr) (oc : Nat) (sa : Option Addr) (sc : Nat) (R : List Bd), v' = .tuple #[.slice oa n oc, .slice sa R.length sc] ∧ NormOk w' cl oa oc sa sc R) ∧ Below w.heap.size w w') := by
  subst hn
  refine (normal_any cl w a c hC hsz).mono ?_
  rintro e w' ⟨v, rfl, ⟨oa, oc, sa, sc, R, rfl, h1, h2, h3, h4, h5, h6, h7, h8⟩, hb⟩
  have hp := clRn_parts (q := 4294967296) cl [] (fun x hx => ⟨hC.partsL x hx, hC.partsR x hx⟩)
  have hl := h4.length_eq
  have hl2 := nmB_len (clRn cl []).2 0
  have hl3 := clRn_names cl []
  simp only [List.length_nil] at hl3
  refine ⟨_, rfl, ⟨oa, oc, sa, sc, R, rfl, ⟨h1, by rw [clRn_len]; exact h2, h3, by rw [clRn_len]; exact hC.small, fun b hb => (hp b hb).1, fun b hb => (hp b hb).2⟩, h4, ⟨h6, h7, h8, by omega, fun b hb => ?_⟩, h5⟩, hb⟩
  obtain ⟨i, _, _, h⟩ := (nmB_mem _ _ b).1 (h4.mem_iff.1 hb)
  rw [h]; show 1 ≤ 4294967296; omega
/-- A clause that lies in memory. -/
def ClV (w : World) (l : List Li) (v : Value) : Prop := ∃ p c, v = .slice p l.length c ∧ IsLs w l p
theorem ClV.below {w w' : World} {l : List Li} {v : Value} (h : ClV w l v) (hb : Below w.heap.size w w') : ClV w' l v := by
  obtain ⟨p, c, e, h1⟩ := h
  exact ⟨p, c, e, h1.below hb⟩
theorem clV_mk {w : World} {l : List Li} {p : Option Addr} {n c : Nat} (hn : n = l.length) (h : IsLs w l p) : ClV w l (.slice p n c) := ⟨p, c, by rw [hn], h⟩
theorem clV_new {w w' : World} {l : List Li} {v : Value} (h : ∃ p c, v = .slice p l.length c ∧ NewC w w' l p c) : ClV w' l v := by
  obtain ⟨p, c, e, h1⟩ := h
  exact ⟨p, c, e, h1.isLs⟩
theorem same_new {w : World} {a b : List Li} {u v : Value} (hl : a.length ≤ maxLen) (h1 : ClV w a u) (h2 : ClV w b v) : Calls Try.prog 25 #[u, v] w (Ret fun v' w' => v' = .bool (clSame a b) ∧ Below w.heap.size w w') := by
  obtain ⟨p, c, rfl, h1⟩ := h1
  obtain ⟨q, d, rfl, h2⟩ := h2
  exact same_cl a b w p q c d hl h1 h2
theorem clause_len (s : List Bd) (l : List Li) (n : Nat) (hn : n = l.length) (w : World) (sa a : Option Addr) (sc c : Nat) (hs : IsSub w s sa sc) (h : IsCl w l a c) (hlen : l.length ≤ 1048576) : Calls Try.prog 31 #[.slice sa s.length sc, .slice a n c] w (Ret fun v' w' => ClV w' (l.map (Li.app s)) v' ∧ Below w.heap.size w w') := by
  subst hn
  refine (clause_any s l w sa a sc c hs h hlen).mono ?_
  rintro e w' ⟨v, rfl, h1, hb⟩
  exact ⟨_, rfl, clV_new h1, hb⟩

end Go.Proofs.Ytgechlgdnnpoeaa

/- Insertion into a row of bindings: plain (as in the matcher). -/
namespace Go.Proofs.Ytgechlgdnnpoeaa
open Go.RowKit Go
set_option linter.unusedVariables false
set_option linter.unusedSimpArgs false

theorem InRow.openI {S : Nat → Prop} {w : World} {l : List Int} {a : Option Addr} (h : InRow eltI S w l a) : ∃ b o : Nat, (∀ k, k < l.length → a = some ⟨b, o, none⟩) ∧ ∀ k, k < l.length → w.cell? ⟨b, o + k, none⟩ = some (.int .i64 (l.getD k 0)) := by
  rcases Nat.eq_zero_or_pos l.length with h0 | h0
  · exact ⟨0, 0, fun k hk => by omega, fun k hk => by omega⟩
  · obtain ⟨b, o, _, ha, _⟩ := h 0 h0
    refine ⟨b, o, fun _ _ => ha, fun k hk => ?_⟩
    obtain ⟨b', o', cs, ha', _, h1, h2⟩ := h k hk
    rw [ha] at ha'
    simp only [Option.some.injEq, Addr.mk.injEq, and_true] at ha'
    obtain ⟨rfl, rfl⟩ := ha'
    have h1' : cs = [.int .i64 l[k]] := h1
    subst h1'
    have := h2 0 (by decide)
    simpa [eltI, hk] using this
/-- What is told: in order, and what is itself is left out. -/
structure SubOf (st R : List Bd) : Prop where
  sorted : R.Pairwise fun x y => x.var < y.var
  mem : ∀ x, x ∈ R ↔ x ∈ st ∧ x.itself = false
theorem bds_ext : ∀ {l l' : List Bd}, l.Pairwise (fun x y => x.var < y.var) → l'.Pairwise (fun x y => x.var < y.var) → (∀ x, x ∈ l ↔ x ∈ l') → l = l'
  | [], [], _, _, _ => rfl
  | [], y :: r, _, _, h => absurd ((h y).2 (by simp)) (by simp)
  | x :: r, [], _, _, h => absurd ((h x).1 (by simp)) (by simp)
  | x :: r, y :: q, h1, h2, h => by
    obtain ⟨h3, h4⟩ := List.pairwise_cons.1 h1
    obtain ⟨h5, h6⟩ := List.pairwise_cons.1 h2
    have e : x = y := by
      rcases List.mem_cons.1 ((h x).1 (by simp)) with e | hx
      · exact e
      · rcases List.mem_cons.1 ((h y).2 (by simp)) with e | hy
        · exact e.symm
        · have := h5 x hx; have := h3 y hy; omega
    subst e
    congr 1
    refine bds_ext h4 h6 fun z => ?_
    constructor
    · intro hz
      rcases List.mem_cons.1 ((h z).1 (by simp [hz])) with e | hz'
      · subst e; have := h3 z hz; omega
      · exact hz'
    · intro hz
      rcases List.mem_cons.1 ((h z).2 (by simp [hz])) with e | hz'
      · subst e; have := h5 z hz; omega
      · exact hz'
theorem SubOf.unique {st R R' : List Bd} (h : SubOf st R) (h' : SubOf st R') : R = R' := bds_ext h.sorted h'.sorted fun x => (h.mem x).trans (h'.mem x).symm
theorem subOf_sorted {st L : List Bd} (hn : (st.map (·.var)).Nodup) (hp : L.Perm (st.filter fun x => !x.itself)) (hs : L.Pairwise fun x y => x.var ≤ y.var) : SubOf st L := by
  have hd : (st.filter fun x => !x.itself).Pairwise fun x y => x.var ≠ y.var := by
    unfold List.Nodup at hn
    rw [List.pairwise_map] at hn
    exact hn.filter _
  have hd' : L.Pairwise fun x y => x.var ≠ y.var := (hp.pairwise_iff fun h e => h e.symm).2 hd
  refine ⟨(hs.and hd').imp fun ⟨h1, h2⟩ => by omega, fun x => ?_⟩
  rw [hp.mem_iff, List.mem_filter]; simp
theorem nodup_len : ∀ {R st : List Bd}, R.Nodup → (∀ x ∈ R, x ∈ st) → R.length ≤ st.length
  | [], _, _, _ => Nat.zero_le _
  | x :: R, st, hn, h => by
    obtain ⟨h1, h2⟩ := List.nodup_cons.1 hn
    obtain ⟨s, t, rfl⟩ := List.append_of_mem (h x (by simp))
    have := nodup_len (R := R) (st := s ++ t) h2 fun y hy => by
      have hy2 := h y (by simp [hy])
      simp only [List.mem_append, List.mem_cons] at hy2 ⊢
      rcases hy2 with q | rfl | q
      · exact .inl q
      · exact absurd hy h1
      · exact .inr q
    simp only [List.length_append, List.length_cons] at this ⊢
    omega
theorem SubOf.length_le {st R : List Bd} (h : SubOf st R) : R.length ≤ st.length := by
  have hn : R.Nodup := h.sorted.imp fun h e => by rw [e] at h; omega
  exact nodup_len hn fun x hx => ((h.mem x).1 hx).1

def insAt (L : List Bd) (j : Nat) (x : Bd) : List Bd := L.take j ++ x :: L.drop j
section
variable {L st : List Bd} {j i k : Nat} {x : Bd}
theorem insAt_len (h : j ≤ L.length) : (insAt L j x).length = L.length + 1 := by unfold insAt; simp; omega
theorem insAt_end : insAt L L.length x = L ++ [x] := by unfold insAt; rw [List.take_length, List.drop_length]
theorem dget_ins_at (h : j ≤ L.length) : dget (insAt L j x) j = x := by
  have e : (L.take j).length = j := by simp; omega
  unfold insAt dget
  rw [List.getD_eq_getElem?_getD, List.getElem?_append_right (by omega), e, Nat.sub_self]; rfl
theorem dget_ins_lt (hk : k < j) (h : j ≤ L.length) : dget (insAt L j x) k = dget L k := by
  have e : (L.take j).length = j := by simp; omega
  unfold insAt dget
  rw [List.getD_eq_getElem?_getD, List.getElem?_append_left (by omega), List.getElem?_take_of_lt hk, List.getD_eq_getElem?_getD]
theorem ins_swap (h0 : 0 < j) (h : j ≤ L.length) : ((insAt L j x).set j (dget (insAt L j x) (j - 1))).set (j - 1) (dget (insAt L j x) j) = insAt L (j - 1) x := by
  rw [dget_ins_at h, dget_ins_lt (by omega) h]
  obtain ⟨m, rfl⟩ : ∃ m, j = m + 1 := ⟨j - 1, by omega⟩
  rw [Nat.add_sub_cancel]
  have hm : m < L.length := by omega
  have e1 : (L.take (m + 1)).length = m + 1 := by simp; omega
  have e0 : (L.take m).length = m := by simp; omega
  unfold insAt
  rw [List.set_append_right _ _ (by omega), e1, Nat.sub_self, List.set_cons_zero, List.take_succ_eq_append_getElem hm, List.append_assoc, List.set_append_right _ _ (by omega), e0, Nat.sub_self, List.singleton_append, List.set_cons_zero, List.drop_eq_getElem_cons hm, dget_lt hm]
theorem mem_ins {y : Bd} : y ∈ insAt L j x ↔ y ∈ L ∨ y = x := by
  have : y ∈ L ↔ y ∈ L.take j ∨ y ∈ L.drop j := by rw [← List.mem_append, List.take_append_drop]
  unfold insAt
  rw [this, List.mem_append, List.mem_cons]
  constructor
  · rintro (q | q | q)
    · exact .inl (.inl q)
    · exact .inr q
    · exact .inl (.inr q)
  · rintro ((q | q) | q)
    · exact .inl q
    · exact .inr (.inr q)
    · exact .inr (.inl q)
theorem take_snoc (hi : i < st.length) : st.take (i + 1) = st.take i ++ [dget st i] := by rw [List.take_succ_eq_append_getElem hi, dget_lt hi]
theorem subOf_skip (h : SubOf (st.take i) L) (hi : i < st.length) (hs : (dget st i).itself = true) : SubOf (st.take (i + 1)) L := by
  refine ⟨h.sorted, fun y => ?_⟩
  rw [h.mem, take_snoc hi, List.mem_append, List.mem_singleton]
  constructor
  · rintro ⟨q, e⟩; exact ⟨.inl q, e⟩
  · rintro ⟨q | q, e⟩
    · exact ⟨q, e⟩
    · rw [q, hs] at e; cases e
theorem subOf_nil : SubOf (st.take 0) [] := ⟨List.Pairwise.nil, fun y => by simp⟩
theorem subOf_ins (h : SubOf (st.take i) L) (hn : (st.map (·.var)).Nodup) (hi : i < st.length) (hs : ¬ (dget st i).itself = true) (hj : j ≤ L.length) (hr : ∀ k, j ≤ k → k < L.length → (dget st i).var < (dget L k).var) (hl : ¬ (0 < j ∧ (dget st i).var < (dget L (j - 1)).var)) : SubOf (st.take (i + 1)) (insAt L j (dget st i)) := by
  have ne : ∀ y ∈ L, y.var ≠ (dget st i).var := by
    intro y hy e
    have h1 := ((h.mem y).1 hy).1
    obtain ⟨m, hm, rfl⟩ := List.getElem_of_mem h1
    have hmi : m < i := by simp at hm; omega
    rw [List.getElem_take, dget_lt hi] at e
    have hx : (st.map (·.var))[m]'(by simp; omega) = (st.map (·.var))[i]'(by simp; omega) := by simpa using e
    have := (List.getElem_inj hn).1 hx
    omega
  refine ⟨?_, fun y => ?_⟩
  · unfold insAt
    have hLs : (L.take j ++ L.drop j).Pairwise fun x y => x.var < y.var := by rw [List.take_append_drop]; exact h.sorted
    obtain ⟨p1, p2, p3⟩ := List.pairwise_append.1 hLs
    have right : ∀ y ∈ L.drop j, (dget st i).var < y.var := by
      intro y hy
      obtain ⟨m, hm, rfl⟩ := List.getElem_of_mem hy
      have hm' : j + m < L.length := by simp at hm; omega
      have := hr (j + m) (by omega) hm'
      rw [dget_lt hm'] at this
      rw [List.getElem_drop]; exact this
    have left : ∀ y ∈ L.take j, y.var < (dget st i).var := by
      intro y hy
      obtain ⟨m, hm, rfl⟩ := List.getElem_of_mem hy
      have hm' : m < j := by simp at hm; omega
      have hjl : j - 1 < L.length := by omega
      have h1 : ¬ (dget st i).var < L[j - 1].var := fun q => hl ⟨by omega, by rw [dget_lt hjl]; exact q⟩
      have h2 := ne L[j - 1] (List.getElem_mem _)
      rw [List.getElem_take]
      rcases Nat.lt_or_ge m (j - 1) with q | q
      · have := List.pairwise_iff_getElem.1 h.sorted m (j - 1) (by omega) hjl q
        omega
      · have e : m = j - 1 := by omega
        subst e; omega
    refine List.pairwise_append.2 ⟨p1, List.pairwise_cons.2 ⟨right, p2⟩, fun a ha b hb => ?_⟩
    rcases List.mem_cons.1 hb with e | hb
    · rw [e]; exact left a ha
    · exact p3 a ha b hb
  · rw [mem_ins, h.mem, take_snoc hi, List.mem_append, List.mem_singleton]
    constructor
    · rintro (⟨q, e⟩ | q)
      · exact ⟨.inl q, e⟩
      · exact ⟨.inr q, by rw [q]; exact Bool.eq_false_iff.2 hs⟩
    · rintro ⟨q | q, e⟩
      · exact .inl ⟨q, e⟩
      · exact .inr q
end
structure RX where
  i : Nat
  a : Option Addr
  c : Nat
  n : Nat
  L : List Bd
end Go.Proofs.Ytgechlgdnnpoeaa

/- Names by the document: plain. -/
namespace Go.Proofs.Ytgechlgdnnpoeaa
open Go.RowKit Go
set_option linter.unusedVariables false
set_option linter.unusedSimpArgs false

theorem there_step {ns : List Int} {v : Int} {k : Nat} {b : Bool} (h : b = true ↔ ∃ i, i < k ∧ ns.getD i 0 = v) : (b || (ns.getD k 0 == v)) = true ↔ ∃ i, i < k + 1 ∧ ns.getD i 0 = v := by
  rw [Bool.or_eq_true, h, beq_iff_eq]
  constructor
  · rintro (⟨i, h1, h2⟩ | h1)
    · exact ⟨i, by omega, h2⟩
    · exact ⟨k, by omega, h1⟩
  · rintro ⟨i, h1, h2⟩
    rcases Nat.lt_or_ge i k with q | q
    · exact .inl ⟨i, q, h2⟩
    · obtain rfl : i = k := by omega
      exact .inr h2
theorem nmTo_in {ns : List Int} {v : Int} {k : Nat} (hk : k ≤ ns.length) (h : ∃ i, i < k ∧ ns.getD i 0 = v) : (nmTo ns v).2 = ns := by
  unfold nmTo
  cases hx : nmIx ns v 0 with
  | some i => rfl
  | none =>
    obtain ⟨i, h1, h2⟩ := h
    exact absurd (by rw [List.getD_eq_getElem?_getD, List.getElem?_eq_getElem (show i < ns.length by omega)] at h2; rw [List.getElem?_eq_getElem (show i < ns.length by omega)]; exact congrArg some h2) (nmIx_no hx i)
theorem nmTo_out {ns : List Int} {v : Int} {k : Nat} (hk : ns.length ≤ k) (h : ¬ ∃ i, i < k ∧ ns.getD i 0 = v) : (nmTo ns v).2 = ns ++ [v] := by
  unfold nmTo
  cases hx : nmIx ns v 0 with
  | none => rfl
  | some i =>
    have h1 := (nmIx_spec hx).2.1
    rw [Nat.sub_zero] at h1
    obtain ⟨q1, q2⟩ := List.getElem?_eq_some_iff.1 h1
    exact absurd ⟨i, by omega, by rw [List.getD_eq_getElem?_getD, h1]; rfl⟩ h
theorem rn_names {f : Int} {l : List T} {ns ns1 : List Int} (h1 : f < 0 → (nmTo ns (-1 - f)).2 = ns1) (h2 : ¬ f < 0 → ns1 = ns) : ((T.mk f l).rn ns).2 = (T.rnL l ns1).2 := by
  rw [T.rn]
  split
  · rename_i hf; rw [h1 hf]
  · rename_i hf; rw [h2 hf]
theorem rnL_names {l : List T} {k : Nat} (h : k < l.length) (ns : List Int) : (T.rnL (l.take (k + 1)) ns).2 = ((tget l k).rn (T.rnL (l.take k) ns).2).2 := by rw [rnL_take h]
def nmAll : List Int → Nat → List Bd
  | [], _ => []
  | u :: r, k => ⟨u, .mk (-1 - (k : Int)) []⟩ :: nmAll r (k + 1)
theorem nmAll_len : ∀ (N : List Int) (k : Nat), (nmAll N k).length = N.length
  | [], _ => rfl
  | u :: r, k => by rw [nmAll, List.length_cons, List.length_cons, nmAll_len r]
theorem nmAll_var : ∀ (N : List Int) (k : Nat), (nmAll N k).map (·.var) = N
  | [], _ => rfl
  | u :: r, k => by rw [nmAll, List.map_cons, nmAll_var r]
theorem nmAll_get : ∀ (N : List Int) (k i : Nat), i < N.length → (nmAll N k)[i]? = some ⟨N.getD i 0, .mk (-1 - ((k + i : Nat) : Int)) []⟩
  | u :: r, k, 0, _ => by simp [nmAll]
  | u :: r, k, i + 1, h => by
    rw [nmAll, List.getElem?_cons_succ, nmAll_get r (k + 1) i (by simpa using h), show k + 1 + i = k + (i + 1) by omega]
    simp
theorem nmAll_dget {N : List Int} {i : Nat} (h : i < N.length) : dget (nmAll N 0) i = ⟨N.getD i 0, .mk (-1 - (i : Int)) []⟩ := by
  have := nmAll_get N 0 i h
  rw [Nat.zero_add] at this
  unfold dget
  rw [List.getD_eq_getElem?_getD, this]; rfl
theorem nmB_all : ∀ (N : List Int) (k : Nat), nmB N k = (nmAll N k).filter fun x => !x.itself
  | [], _ => rfl
  | u :: r, k => by
    rw [nmB, nmAll, List.filter_cons, nmB_all r (k + 1)]
    by_cases h : (k : Int) = u
    · rw [if_pos h]
      have : (⟨u, .mk (-1 - (k : Int)) []⟩ : Bd).itself = true := by unfold Bd.itself; simp [T.f, T.args]; omega
      rw [this]; rfl
    · rw [if_neg h]
      have : (⟨u, .mk (-1 - (k : Int)) []⟩ : Bd).itself = false := by unfold Bd.itself; simp [T.f, T.args]; omega
      rw [this]; rfl
theorem norm_eq {N : List Int} {R L : List Bd} (hn : N.Nodup) (hp : R.Perm (nmB N 0)) (hs : R.Pairwise fun x y => x.var ≤ y.var) (hL : SubOf ((nmAll N 0).take N.length) L) : R = L := by
  rw [List.take_of_length_le (by rw [nmAll_len]; exact Nat.le_refl _)] at hL
  exact (subOf_sorted (by rw [nmAll_var]; exact hn) (by rw [← nmB_all]; exact hp) hs).unique hL
mutual
/-- A term renamed by bindings: heads alone. -/
def T.nm (s : List Bd) : T → T
  | .mk f l => .mk ((T.mk f []).app s).f (T.nmL s l)
def T.nmL (s : List Bd) : List T → List T
  | [] => []
  | t :: r => t.nm s :: T.nmL s r
end
theorem T.nmL_eq (s : List Bd) : ∀ l : List T, T.nmL s l = l.map (T.nm s)
  | [] => rfl
  | t :: r => by rw [T.nmL, T.nmL_eq s r]; rfl
theorem nm_mk (s : List Bd) (f : Int) (l : List T) : (T.mk f l).nm s = .mk ((T.mk f []).app s).f (l.map (T.nm s)) := by rw [T.nm, T.nmL_eq]
theorem take_nm {s : List Bd} {l : List T} {k : Nat} (h : k < l.length) : (l.take k).map (T.nm s) ++ [(tget l k).nm s] = (l.take (k + 1)).map (T.nm s) := by
  rw [List.take_succ_eq_append_getElem h, List.map_append, tget_lt h]; rfl
theorem tnm_some {s : List Bd} {f : Int} (hf : f < 0) (h : (subFind s (-1 - f)).isSome = true) : ((T.mk f []).app s).f = ((subFind s (-1 - f)).getD (.mk 0 [])).f := by
  obtain ⟨t, ht⟩ := Option.isSome_iff_exists.1 h
  rw [app_some hf ht, ht]; rfl
theorem tnm_none {s : List Bd} {f : Int} (h : ¬ (subFind s (-1 - f)).isSome = true) : ((T.mk f []).app s).f = f := by
  rw [app_none (fun _ => by simpa using h)]; rfl
theorem tnm_pos {s : List Bd} {f : Int} (hf : ¬ f < 0) : ((T.mk f []).app s).f = f := by
  rw [app_none (fun q => absurd q hf)]; rfl
mutual
theorem T.nm_rn {N : List Int} {z : List Bd} (hn : N.Nodup) (hp : z.Perm (nmB N 0)) : ∀ (t : T) (ns : List Int), (t.rn ns).2 <+: N → t.nm z = (t.rn ns).1
  | .mk f l, ns, h => by
    rw [T.nm]
    rw [T.rn] at h ⊢
    by_cases hf : f < 0
    · rw [if_pos hf] at h ⊢
      have h1 : (nmTo ns (-1 - f)).2 <+: N := (T.rnL_pre l _).trans h
      have := put_name hn hp (v := -1 - f) (u := ((nmTo ns (-1 - f)).1 : Int)) (by omega) ⟨by omega, pre_get h1 (nmTo_get ns _)⟩
      rw [show -1 - (-1 - f) = f by omega] at this
      rw [this, T.nmL_rn hn hp l _ h]; rfl
    · rw [if_neg hf] at h ⊢
      rw [tnm_pos hf, T.nmL_rn hn hp l _ h]
theorem T.nmL_rn {N : List Int} {z : List Bd} (hn : N.Nodup) (hp : z.Perm (nmB N 0)) : ∀ (l : List T) (ns : List Int), (T.rnL l ns).2 <+: N → T.nmL z l = (T.rnL l ns).1
  | [], ns, _ => by rw [T.nmL, T.rnL]
  | t :: r, ns, h => by
    rw [T.rnL] at h ⊢
    rw [T.nmL, T.nm_rn hn hp t ns ((T.rnL_pre r _).trans h), T.nmL_rn hn hp r _ h]
end
def Li.nm (s : List Bd) (x : Li) : Li := ⟨x.neg, x.l.nm s, x.r.nm s⟩
theorem cl_nm {N : List Int} {z : List Bd} (hn : N.Nodup) (hp : z.Perm (nmB N 0)) : ∀ (l : List Li) (ns : List Int), (clRn l ns).2 <+: N → l.map (Li.nm z) = (clRn l ns).1
  | [], ns, _ => rfl
  | x :: r, ns, h => by
    have h1 : (clRn r (x.rn ns).2).2 <+: N := h
    have h2 : (x.r.rn (x.l.rn ns).2).2 <+: N := (clRn_pre r _).trans h1
    rw [List.map_cons, cl_nm hn hp r _ h1]
    show _ = (x.rn ns).1 :: _
    congr 1
    unfold Li.nm Li.rn
    rw [T.nm_rn hn hp x.l ns ((T.rn_pre x.r _).trans h2), T.nm_rn hn hp x.r _ h2]
end Go.Proofs.Ytgechlgdnnpoeaa

/- The order in which variables come: the document. -/
namespace Go.Proofs.Ytgechlgdnnpoeaa
open Go.RowKit Go
set_option linter.unusedVariables false
set_option linter.unusedSimpArgs false

set_option linter.unnecessarySimpa false

set_option maxRecDepth 100000 in
set_option maxHeartbeats 1000000 in
theorem order_any : ∀ (t : T) (ns : List Int) (A : Nat → Prop) (w : World) (v : Value) (ra : Option Addr) (rc : Nat), RowD eltI (fun _ => False) w 3 ra rc ns.length ns → InT A w t v → (∀ b, A b → (Value.slice ra ns.length rc).ownBlock ≠ some b ∧ b < w.heap.size) → t.size ≤ 4294967296 → ns.length + t.size ≤ 8589934592 → (∀ v ∈ ns, I64 v) →
    Calls Try.prog 56 #[.slice ra ns.length rc, v] w (Ret fun v' w' => (∃ (ra' : Option Addr) (rc' : Nat), v' = .slice ra' (t.rn ns).2.length rc' ∧ RowD eltI (fun _ => False) w' 3 ra' rc' ((t.rn ns).2).length ((t.rn ns).2) ∧ (∀ b, (Value.slice ra' ((t.rn ns).2).length rc').ownBlock = some b → (Value.slice ra ns.length rc).ownBlock = some b ∨ w.heap.size ≤ b) ∧ (∀ v ∈ (t.rn ns).2, I64 v)) ∧ Chg (fun b => (Value.slice ra ns.length rc).ownBlock = some b) w w') := by
  refine T.ind (fun f l ih => ?_)
  intro ns A w v ra rc hR hT hA hz hn hI
  obtain ⟨hf, pa0, pc0, rfl, hpc1, hpc2, _⟩ := hT.form
  rw [T.f_mk] at hf
  have hf' := hf
  unfold I64 at hf'
  unfold maxLen at hpc2
  have hz' := hz
  rw [T.size] at hz' hn
  have hlen := len_le_sizeL l
  have hRi := hR.inRow.1
  have hrlt := hR.lt
  have hA0 : ∀ b, A b → ¬ ((Value.slice ra ns.length rc).ownBlock = some b ∨ w.heap.size ≤ b) := fun b q q2 => q2.elim (hA b q).1 (fun q2 => by have := (hA b q).2; omega)
  refine Calls.walk (l := [.slice ra ns.length rc, .agg #[.int .i64 f, .slice pa0 l.length pc0]]) Try.func56 rfl (by kernel_rfl) ?_
  refine WC.sub (K' := [(0, .slice ra ns.length rc), (1, .agg #[.int .i64 f, .slice pa0 l.length pc0])]) ⟨rfl, rfl, trivial⟩ ?_
  refine WC.seq ?_
  refine WC.region ?_
  refine WL.step (post := NewBlk w 32 #[.int .i64 f, .slice pa0 l.length pc0]) rfl rfl rfl (fun za zC zh zk => box_32 rfl (zh.ev rfl) (zk _ _ (newBlk _ _ _))) ?_
  rintro _ w1 ⟨g2, rfl, hg3, hB4, hb5, hz6⟩
  have hl7 : w.heap.size ≤ g2 := by omega
  refine WL.val (.slice none 0 0) rfl rfl rfl (fun za zC zh zk => wp_assign rfl (zh.ev rfl) zk) ?_
  refine WL.nil (WE.sub (K' := [(0, .slice ra ns.length rc), (1, .agg #[.int .i64 f, .slice pa0 l.length pc0]), (3, .pointer (some ⟨g2, 0, none⟩)), (4, .slice none 0 0)]) ⟨rfl, rfl, rfl, rfl, trivial⟩ ?_)
  refine WE.next ?_
  refine WC.seq ?_
  refine WC.seq ?_
  refine WC.region ?_
  refine WL.val (.pointer (some ⟨g2, 0, none⟩)) rfl rfl rfl (fun za zC zh zk => fld_32_0 rfl (zh.ev rfl) zk) ?_
  refine WL.val (.int .i64 f) rfl rfl rfl (fun za zC zh zk => ld_3 rfl (zh.ev rfl) ((hB4.cell 0).trans rfl) zk) ?_
  refine WL.val (.bool ((decide ((f : Int) < (0 : Int))))) rfl rfl rfl (fun za zC zh zk => lss_3 rfl (zh.ev rfl) (zh.ev rfl) zk) ?_
  refine WL.nil (WE.sub (K' := [(0, .slice ra ns.length rc), (1, .agg #[.int .i64 f, .slice pa0 l.length pc0]), (3, .pointer (some ⟨g2, 0, none⟩)), (4, .slice none 0 0), (10, .bool ((decide ((f : Int) < (0 : Int)))))]) ⟨rfl, rfl, rfl, rfl, rfl, trivial⟩ ?_)
  refine WE.next ?_
  refine WC.cond rfl (fun h8 => ?_) (fun h8 => ?_)
  · have h8 : (f : Int) < (0 : Int) := by simpa using h8
    refine WC.seq ?_
    refine WC.region ?_
    refine WL.val (.bool false) rfl rfl rfl (fun za zC zh zk => wp_assign rfl (zh.ev rfl) zk) ?_
    refine WL.nil (WE.sub (K' := [(0, .slice ra ns.length rc), (1, .agg #[.int .i64 f, .slice pa0 l.length pc0]), (3, .pointer (some ⟨g2, 0, none⟩)), (4, .slice none 0 0), (5, .bool false), (10, .bool ((decide ((f : Int) < (0 : Int)))))]) ⟨rfl, rfl, rfl, rfl, rfl, rfl, trivial⟩ ?_)
    refine WE.next ?_
    refine WC.seq ?_
    refine WC.seq ?_
    refine WC.region ?_
    refine WL.val (.int .i64 0) rfl rfl rfl (fun za zC zh zk => wp_assign rfl (zh.ev rfl) zk) ?_
    refine WL.nil (WE.sub (K' := [(0, .slice ra ns.length rc), (1, .agg #[.int .i64 f, .slice pa0 l.length pc0]), (3, .pointer (some ⟨g2, 0, none⟩)), (4, .slice none 0 0), (5, .bool false), (6, .int .i64 0), (10, .bool ((decide ((f : Int) < (0 : Int)))))]) ⟨rfl, rfl, rfl, rfl, rfl, rfl, rfl, trivial⟩ ?_)
    refine WE.next ?_
    refine WC.block ?_
    refine WC.loop (X := Nat × Bool) (fun y => ns.length - y.1) (fun y => [(0, .slice ra ns.length rc), (1, .agg #[.int .i64 f, .slice pa0 l.length pc0]), (3, .pointer (some ⟨g2, 0, none⟩)), (4, .slice none 0 0), (5, .bool y.2), (6, .int .i64 (((y.1 : Nat) : Int))), (10, .bool ((decide ((f : Int) < (0 : Int)))))]) (fun y w9 => y.1 ≤ ns.length ∧ (y.2 = true ↔ ∃ i, i < y.1 ∧ ns.getD i 0 = (-1 - f)) ∧ Below w.heap.size w w9 ∧ Blk w9 g2 32 #[.int .i64 f, .slice pa0 l.length pc0]) ((0, false)) ⟨rfl, rfl, rfl, rfl, rfl, rfl, rfl, trivial⟩ ?_ ?_
    · exact ⟨Nat.zero_le _, by simp, hb5, hB4⟩
    · rintro y w9 ⟨hk1, hth, hb10, hB11⟩
      refine WC.seq ?_
      refine WC.seq ?_
      refine WC.region ?_
      refine WL.val (.int .i64 (((y.1 : Nat) : Int))) rfl rfl rfl (fun za zC zh zk => wp_move rfl (zh.ev rfl) zk) ?_
      refine WL.val (.slice ra ns.length rc) rfl rfl rfl (fun za zC zh zk => wp_move rfl (zh.ev rfl) zk) ?_
      refine WL.val (.int .i64 (((ns.length : Nat) : Int))) rfl rfl rfl (fun za zC zh zk => len_76 rfl (zh.ev rfl) zk) ?_
      refine WL.val (.bool ((decide ((((y.1 : Nat) : Int) : Int) < (((ns.length : Nat) : Int) : Int))))) rfl rfl rfl (fun za zC zh zk => lss_3 rfl (zh.ev rfl) (zh.ev rfl) zk) ?_
      refine WL.nil (WE.sub (K' := [(0, .slice ra ns.length rc), (1, .agg #[.int .i64 f, .slice pa0 l.length pc0]), (3, .pointer (some ⟨g2, 0, none⟩)), (4, .slice none 0 0), (5, .bool y.2), (6, .int .i64 (((y.1 : Nat) : Int))), (10, .bool ((decide ((f : Int) < (0 : Int))))), (14, .bool ((decide ((((y.1 : Nat) : Int) : Int) < (((ns.length : Nat) : Int) : Int)))))]) ⟨rfl, rfl, rfl, rfl, rfl, rfl, rfl, rfl, trivial⟩ ?_)
      refine WE.next ?_
      refine WC.cond rfl (fun h12 => ?_) (fun h12 => ?_)
      · have h12 : (((y.1 : Nat) : Int) : Int) < (((ns.length : Nat) : Int) : Int) := by simpa using h12
        refine WC.skip ?_
        refine WE.next ?_
        refine WC.seq ?_
        refine WC.block ?_
        obtain ⟨b13, o14, ha15, hc16⟩ := InRow.openI (hRi.below hb10)
        refine WC.seqV (S := ((fun b => b < 0))) [(true, .val (.bool y.2)), (true, .val (.bool y.2)), ((true && !y.2), .val (.slice ra ns.length rc)), ((true && !y.2), .val (.int .i64 (((y.1 : Nat) : Int)))), ((true && !y.2), .val (.pointer (some ⟨b13, o14 + y.1, none⟩))), ((true && !y.2), .val (.int .i64 ((List.getD ns y.1 0)))), ((true && !y.2), .val (.pointer (some ⟨g2, 0, none⟩))), ((true && !y.2), .val (.int .i64 f)), ((true && !y.2), .val (.int .i64 ((-1 - f)))), ((true && !y.2), .val (.bool ((((List.getD ns y.1 0) : Int) == ((-1 - f) : Int))))), (true, .val (.bool ((y.2 || (((List.getD ns y.1 0) : Int) == ((-1 - f) : Int)))))), (true, .val undef)] [(0, .slice ra ns.length rc), (1, .agg #[.int .i64 f, .slice pa0 l.length pc0]), (3, .pointer (some ⟨g2, 0, none⟩)), (4, .slice none 0 0), (6, .int .i64 (((y.1 : Nat) : Int))), (10, .bool ((decide ((f : Int) < (0 : Int))))), (14, .bool ((decide ((((y.1 : Nat) : Int) : Int) < (((ns.length : Nat) : Int) : Int)))))] [11] [some (true, .bool ((y.2 || (List.getD ns y.1 0 == (-1 - f)))))] (fun _ _ => True) ((fun _ _ _ _ _ => trivial)) (by decide) ⟨rfl, rfl, rfl, rfl, rfl, rfl, rfl, trivial⟩ (by kernel_rfl) (by kernel_rfl) (by kernel_rfl) (by kernel_rfl) trivial ?_ ?_
        · refine ⟨.inl ⟨rfl, true, .none rfl, (fun gg b h => by cases h), fun h w => optUndef h, fun zβ za zw zc => ?_⟩, ?_⟩
          · exact wp_move rfl ((show za.eval (.tmp 5) = za.tmps.getD 5 undef from rfl).trans (zc.old 5 _ rfl (by kernel_rfl))) ⟨_, rfl, Below.refl _ _, optDef zβ rfl⟩
          refine ⟨.inl ⟨rfl, true, .none rfl, (fun gg b h => by cases h), fun h w => optUndef h, fun zβ za zw zc => ?_⟩, ?_⟩
          · exact wp_move rfl ((show za.eval (.tmp 17) = za.tmps.getD 17 undef from rfl).trans (optSVal (zc.dep 0 17 (by kernel_rfl) (by decide)) rfl rfl)) ⟨_, rfl, Below.refl _ _, optDef zβ rfl⟩
          refine ⟨.inl ⟨rfl, (true && !y.2), .no (c := y.2) (d := true) rfl (fun v w h => h), (fun gg b h => by cases h; rfl), fun h w => optUndef h, fun zβ za zw zc => ?_⟩, ?_⟩
          · exact wp_move rfl (zc.kn.ev rfl) ⟨_, rfl, Below.refl _ _, optDef zβ rfl⟩
          refine ⟨.inl ⟨rfl, (true && !y.2), .no (c := y.2) (d := true) rfl (fun v w h => h), (fun gg b h => by cases h; rfl), fun h w => optUndef h, fun zβ za zw zc => ?_⟩, ?_⟩
          · exact wp_move rfl (zc.kn.ev rfl) ⟨_, rfl, Below.refl _ _, optDef zβ rfl⟩
          refine ⟨.inl ⟨rfl, (true && !y.2), .no (c := y.2) (d := true) rfl (fun v w h => h), (fun gg b h => by cases h; rfl), fun h w => optUndef h, fun zβ za zw zc => ?_⟩, ?_⟩
          · exact ix_76 (k := y.1) rfl ((show za.eval (.tmp 19) = za.tmps.getD 19 undef from rfl).trans (optSVal (zc.dep 2 19 (by kernel_rfl) (by decide)) rfl zβ)) (ha15 y.1 (by first | omega | (have zz := zβ; simp only [Bool.and_eq_true, Bool.or_eq_true, Bool.true_and, Bool.not_eq_true', Bool.or_eq_false_iff, Bool.and_eq_false_iff, beq_eq_false_iff_ne, ne_eq, beq_iff_eq, decide_eq_true_eq, decide_eq_false_iff_not, bne_iff_ne] at zz; omega))) ((show za.eval (.tmp 20) = za.tmps.getD 20 undef from rfl).trans (optSVal (zc.dep 3 20 (by kernel_rfl) (by decide)) rfl zβ)) (by first | omega | (have zz := zβ; simp only [Bool.and_eq_true, Bool.or_eq_true, Bool.true_and, Bool.not_eq_true', Bool.or_eq_false_iff, Bool.and_eq_false_iff, beq_eq_false_iff_ne, ne_eq, beq_iff_eq, decide_eq_true_eq, decide_eq_false_iff_not, bne_iff_ne] at zz; omega)) ⟨_, rfl, Below.refl _ _, optDef zβ rfl⟩
          refine ⟨.inl ⟨rfl, (true && !y.2), .no (c := y.2) (d := true) rfl (fun v w h => h), (fun gg b h => by cases h; rfl), fun h w => optUndef h, fun zβ za zw zc => ?_⟩, ?_⟩
          · exact ld_3 rfl ((show za.eval (.tmp 21) = za.tmps.getD 21 undef from rfl).trans (optSVal (zc.dep 4 21 (by kernel_rfl) (by decide)) rfl zβ)) (chg_old (Below.refl _ _) zc.chg (fun b hb => by (try dsimp only at *); omega) (hc16 y.1 (by first | omega | (have zz := zβ; simp only [Bool.and_eq_true, Bool.or_eq_true, Bool.true_and, Bool.not_eq_true', Bool.or_eq_false_iff, Bool.and_eq_false_iff, beq_eq_false_iff_ne, ne_eq, beq_iff_eq, decide_eq_true_eq, decide_eq_false_iff_not, bne_iff_ne] at zz; omega)))) ⟨_, rfl, Below.refl _ _, optDef zβ rfl⟩
          refine ⟨.inl ⟨rfl, (true && !y.2), .no (c := y.2) (d := true) rfl (fun v w h => h), (fun gg b h => by cases h; rfl), fun h w => optUndef h, fun zβ za zw zc => ?_⟩, ?_⟩
          · exact fld_32_0 rfl (zc.kn.ev rfl) ⟨_, rfl, Below.refl _ _, optDef zβ rfl⟩
          refine ⟨.inl ⟨rfl, (true && !y.2), .no (c := y.2) (d := true) rfl (fun v w h => h), (fun gg b h => by cases h; rfl), fun h w => optUndef h, fun zβ za zw zc => ?_⟩, ?_⟩
          · exact ld_3 rfl ((show za.eval (.tmp 23) = za.tmps.getD 23 undef from rfl).trans (optSVal (zc.dep 6 23 (by kernel_rfl) (by decide)) rfl zβ)) (chg_cell zc.chg (by (try dsimp only at *); omega) ((hB11.cell 0).trans rfl)) ⟨_, rfl, Below.refl _ _, optDef zβ rfl⟩
          refine ⟨.inl ⟨rfl, (true && !y.2), .no (c := y.2) (d := true) rfl (fun v w h => h), (fun gg b h => by cases h; rfl), fun h w => optUndef h, fun zβ za zw zc => ?_⟩, ?_⟩
          · exact subb_3 rfl (zc.kn.ev rfl) ((show za.eval (.tmp 24) = za.tmps.getD 24 undef from rfl).trans (optSVal (zc.dep 7 24 (by kernel_rfl) (by decide)) rfl zβ)) (wrap_eq rfl (by omega) (by omega)) ⟨_, rfl, Below.refl _ _, optDef zβ rfl⟩
          refine ⟨.inl ⟨rfl, (true && !y.2), .no (c := y.2) (d := true) rfl (fun v w h => h), (fun gg b h => by cases h; rfl), fun h w => optUndef h, fun zβ za zw zc => ?_⟩, ?_⟩
          · exact eql_3 rfl ((show za.eval (.tmp 22) = za.tmps.getD 22 undef from rfl).trans (optSVal (zc.dep 5 22 (by kernel_rfl) (by decide)) rfl zβ)) ((show za.eval (.tmp 25) = za.tmps.getD 25 undef from rfl).trans (optSVal (zc.dep 8 25 (by kernel_rfl) (by decide)) rfl zβ)) ⟨_, rfl, Below.refl _ _, optDef zβ rfl⟩
          refine ⟨.inl ⟨rfl, true, .none rfl, (fun gg b h => by cases h), fun h w => optUndef h, fun zβ za zw zc => ?_⟩, ?_⟩
          · exact wp_or rfl ((show za.eval (.tmp 18) = za.tmps.getD 18 undef from rfl).trans (optSVal (zc.dep 1 18 (by kernel_rfl) (by decide)) rfl rfl)) (fun hp => ((show za.eval (.tmp 26) = za.tmps.getD 26 undef from rfl).trans (optSVal (zc.dep 9 26 (by kernel_rfl) (by decide)) rfl (bMkN zβ hp)))) ⟨_, rfl, Below.refl _ _, optDef zβ rfl⟩
          refine ⟨.inr ⟨0, rfl, by kernel_rfl, true, .none rfl, (fun gg b h => by cases h), (fun h => (nomatch h)), fun zβ za zw zvals zc => ?_⟩, ?_⟩
          · obtain rfl := vlen0 zc.len
            have zn := zc.now
            exact wp_assign rfl ((show za.eval (.tmp 27) = za.tmps.getD 27 undef from rfl).trans (optSVal (zc.dep 10 27 (by kernel_rfl) (by decide)) rfl rfl)) ⟨_, rfl, .ofBelow (Below.refl _ _), trivial, cvIs rfl⟩
          exact trivial
        · intro za w17 zvals zh zl hG18 hc19 zu zw zk
          obtain ⟨z0, rfl⟩ := vlen1 zl
          have zh := zh.cons (d := 5) (v := .bool ((y.2 || (List.getD ns y.1 0 == (-1 - f))))) (zk 0 11 5 _ _ rfl (by kernel_rfl) rfl rfl)
          have hb20 := chg_below hb10 hc19 (fun b hb => (fun h => by (try dsimp only at h); omega))
          have hB21 := chg_blk hB11 hc19 (fun h => by (try dsimp only at h); omega)
          clear zu zw zk
          refine (show WE _ [(0, .slice ra ns.length rc), (1, .agg #[.int .i64 f, .slice pa0 l.length pc0]), (3, .pointer (some ⟨g2, 0, none⟩)), (4, .slice none 0 0), (5, .bool ((y.2 || (List.getD ns y.1 0 == (-1 - f))))), (6, .int .i64 (((y.1 : Nat) : Int))), (10, .bool ((decide ((f : Int) < (0 : Int))))), (14, .bool ((decide ((((y.1 : Nat) : Int) : Int) < (((ns.length : Nat) : Int) : Int)))))] w17 _ .normal from ?_) za (zh.sub ⟨rfl, rfl, rfl, rfl, rfl, rfl, rfl, rfl, trivial⟩)
          refine WE.blockNormal ?_
          refine WE.next ?_
          refine WC.region ?_
          refine WL.val (.int .i64 (((y.1 : Nat) : Int))) rfl rfl rfl (fun za zC zh zk => wp_move rfl (zh.ev rfl) zk) ?_
          refine WL.val (.int .i64 ((((y.1 + 1) : Nat) : Int))) rfl rfl rfl (fun za zC zh zk => addb_3 rfl (zh.ev rfl) (zh.ev rfl) (wrap_eq (by omega) (by omega) (by omega)) zk) ?_
          refine WL.val (.int .i64 ((((y.1 + 1) : Nat) : Int))) rfl rfl rfl (fun za zC zh zk => wp_assign rfl (zh.ev rfl) zk) ?_
          refine WL.nil (WE.sub (K' := [(0, .slice ra ns.length rc), (1, .agg #[.int .i64 f, .slice pa0 l.length pc0]), (3, .pointer (some ⟨g2, 0, none⟩)), (4, .slice none 0 0), (5, .bool ((y.2 || (List.getD ns y.1 0 == (-1 - f))))), (6, .int .i64 ((((y.1 + 1) : Nat) : Int))), (10, .bool ((decide ((f : Int) < (0 : Int))))), (14, .bool ((decide ((((y.1 : Nat) : Int) : Int) < (((ns.length : Nat) : Int) : Int)))))]) ⟨rfl, rfl, rfl, rfl, rfl, rfl, rfl, rfl, trivial⟩ ?_)
          refine WE.round ((y.1 + 1, (y.2 || (List.getD ns y.1 0 == (-1 - f))))) ⟨rfl, rfl, rfl, rfl, rfl, rfl, rfl, trivial⟩ ?_ ?_
          · exact ⟨by (try dsimp only); omega, there_step hth, hb20, hB21⟩
          · (try dsimp only); omega
      · have h12 : ¬ ((((y.1 : Nat) : Int) : Int) < (((ns.length : Nat) : Int) : Int)) := by simpa using h12
        refine WC.exit ?_
        refine WE.thenExit ?_
        refine WE.thenExit ?_
        refine WE.blockIs rfl ?_
        refine WE.next ?_
        refine WC.seq ?_
        refine WC.region ?_
        refine WL.val (.bool y.2) rfl rfl rfl (fun za zC zh zk => wp_move rfl (zh.ev rfl) zk) ?_
        refine WL.val (.bool ((!y.2))) rfl rfl rfl (fun za zC zh zk => wp_not rfl (zh.ev rfl) zk) ?_
        refine WL.nil (WE.sub (K' := [(0, .slice ra ns.length rc), (1, .agg #[.int .i64 f, .slice pa0 l.length pc0]), (3, .pointer (some ⟨g2, 0, none⟩)), (4, .slice none 0 0), (5, .bool y.2), (6, .int .i64 (((y.1 : Nat) : Int))), (10, .bool ((decide ((f : Int) < (0 : Int))))), (14, .bool ((decide ((((y.1 : Nat) : Int) : Int) < (((ns.length : Nat) : Int) : Int))))), (29, .bool ((!y.2)))]) ⟨rfl, rfl, rfl, rfl, rfl, rfl, rfl, rfl, rfl, trivial⟩ ?_)
        refine WE.next ?_
        refine WC.cond rfl (fun h22 => ?_) (fun h22 => ?_)
        · have h22 : ¬ (y.2 = true) := by simpa using h22
          have hnew : (nmTo ns (-1 - f)).2 = ns ++ [(-1 - f)] := nmTo_out (k := y.1) (by omega) (fun q => by have z := hth.2 q; have z2 := h22; rw [z] at z2; simp at z2)
          refine WC.region ?_
          refine WL.val (.slice ra ns.length rc) rfl rfl rfl (fun za zC zh zk => wp_move rfl (zh.ev rfl) zk) ?_
          refine WL.val (.pointer (some ⟨g2, 0, none⟩)) rfl rfl rfl (fun za zC zh zk => fld_32_0 rfl (zh.ev rfl) zk) ?_
          refine WL.val (.int .i64 f) rfl rfl rfl (fun za zC zh zk => ld_3 rfl (zh.ev rfl) ((hB11.cell 0).trans rfl) zk) ?_
          refine WL.val (.int .i64 ((-1 - f))) rfl rfl rfl (fun za zC zh zk => subb_3 rfl (zh.ev rfl) (zh.ev rfl) (wrap_eq rfl (by omega) (by omega)) zk) ?_
          refine WL.step (post := NewRow w9 3 #[.int .i64 ((-1 - f))] 1) rfl rfl rfl (fun za zC zh zk => row_76_1 rfl (zh.ev rfl) (zk _ _ (newRow _ _ _ _))) ?_
          rintro _ w23 ⟨g24, rfl, hg25, hB26, hb27, hz28⟩
          have hl29 : g2 < g24 := by have z1 := hB11.lt; omega
          have hl30 : w.heap.size ≤ g24 := by have z2 := (hb10).size; omega
          have hB31 := hB11.below hb27
          have hl32 : g2 < w23.heap.size := hB31.lt
          have hl33 : w.heap.size ≤ g2 := by have z : w.heap.size ≤ w.heap.size := (Nat.le_refl _); omega
          have hb40 : Below w.heap.size w w23 := (bstep hb10 hb27)
          refine WL.step (post := fun v w' => ∃ ra' rc', v = .slice ra' (ns ++ [(-1 - f)]).length rc' ∧ RowD eltI (fun _ => False) w' 3 ra' rc' (ns.length + 1) (ns ++ [(-1 - f)]) ∧ Chg (fun b => (Value.slice ra ns.length rc).ownBlock = some b) w23 w' ∧ (∀ b, (Value.slice ra' (ns.length + 1) rc').ownBlock = some b → (Value.slice ra ns.length rc).ownBlock = some b ∨ w23.heap.size ≤ b)) rfl rfl rfl (fun za zC zh zk => wp_appD (E := eltI) (S2 := fun _ => False) (cs := [.int .i64 (-1 - f)]) (size := 1) (bytes := 8) (z := .int .i64 0) rfl Try.underlying76 (by kernel_rfl) rfl (by decide) rfl (zh.ev rfl) (zh.ev rfl) (hR.below hb40) hB26 rfl (fun _ q => q.elim) (by omega) (by omega) (fun ra rc w' h1 h2 h3 => zk _ _ ⟨ra, rc, by rw [List.length_append]; rfl, h1.mono (fun b q _ => q.1.elim id id) (fun _ q => q.elim), h2, h3⟩)) ?_
          rintro _ w34 ⟨ra35, rc36, rfl, hr37, hc38, ho39⟩
          have hw0 : w.heap.size ≤ w23.heap.size := hb40.size
          have hB41 := chg_blk hB31 hc38 (fun h => by have z := hrlt _ h; omega)
          refine WL.val (.slice ra35 ((ns ++ [(-1 - f)]).length) rc36) rfl rfl rfl (fun za zC zh zk => wp_assign rfl (zh.ev rfl) zk) ?_
          refine WL.nil (WE.sub (K' := [(0, .slice ra35 ((ns ++ [(-1 - f)]).length) rc36), (1, .agg #[.int .i64 f, .slice pa0 l.length pc0]), (3, .pointer (some ⟨g2, 0, none⟩)), (4, .slice none 0 0), (5, .bool y.2), (6, .int .i64 (((y.1 : Nat) : Int))), (10, .bool ((decide ((f : Int) < (0 : Int))))), (14, .bool ((decide ((((y.1 : Nat) : Int) : Int) < (((ns.length : Nat) : Int) : Int))))), (29, .bool ((!y.2)))]) ⟨rfl, rfl, rfl, rfl, rfl, rfl, rfl, rfl, rfl, trivial⟩ ?_)
          refine WE.next ?_
          refine WC.seq ?_
          refine WC.seq ?_
          refine WC.region ?_
          refine WL.val (.int .i64 0) rfl rfl rfl (fun za zC zh zk => wp_assign rfl (zh.ev rfl) zk) ?_
          refine WL.nil (WE.sub (K' := [(0, .slice ra35 ((ns ++ [(-1 - f)]).length) rc36), (1, .agg #[.int .i64 f, .slice pa0 l.length pc0]), (3, .pointer (some ⟨g2, 0, none⟩)), (4, .slice none 0 0), (5, .bool y.2), (6, .int .i64 (((y.1 : Nat) : Int))), (7, .int .i64 0), (10, .bool ((decide ((f : Int) < (0 : Int))))), (14, .bool ((decide ((((y.1 : Nat) : Int) : Int) < (((ns.length : Nat) : Int) : Int))))), (29, .bool ((!y.2)))]) ⟨rfl, rfl, rfl, rfl, rfl, rfl, rfl, rfl, rfl, rfl, trivial⟩ ?_)
          refine WE.next ?_
          refine WC.block ?_
          have hl42 : g2 < w34.heap.size := hB41.lt
          have hl43 : w.heap.size ≤ g2 := by have z : w.heap.size ≤ w.heap.size := (Nat.le_refl _); omega
          have hrow0 : RowD eltI (fun _ => False) w34 3 ra35 rc36 ((ns ++ [(-1 - f)])).length ((ns ++ [(-1 - f)])) := by rw [List.length_append]; exact hr37
          have hI1 : ∀ v ∈ (ns ++ [(-1 - f)]), I64 v := fun v hv => by rcases List.mem_append.1 hv with q | q; exact hI v q; (rw [List.mem_singleton] at q; subst q; unfold I64; omega)
          have hlN : (ns ++ [(-1 - f)]).length = ns.length + 1 := by rw [List.length_append]; rfl
          have hs44 : Chg ((fun b => (Value.slice ra ns.length rc).ownBlock = some b ∨ w.heap.size ≤ b)) w w34 := (Chg.trans2 (Chg.trans2 (Chg.refl ((fun b => (Value.slice ra ns.length rc).ownBlock = some b ∨ w.heap.size ≤ b)) _) (Chg.ofBelow (S := fun k => k < 0) hb40) (fun i h1 h2 => by first | exact h2 | exact .inl ⟨h2, h1⟩ | exact .inl h2 | exact .inr h2 | exact .inr (.inl h2) | exact .inr (.inr h2) | ((try dsimp only at *); omega))) hc38 (fun i h1 h2 => by first | exact h2 | exact .inl ⟨h2, h1⟩ | exact .inl h2 | exact .inr h2 | exact .inr (.inl h2) | exact .inr (.inr h2) | ((try dsimp only at *); omega)))
          have hcS : Chg (fun b => (Value.slice ra ns.length rc).ownBlock = some b ∨ w.heap.size ≤ b) w w34 := hs44
          refine WC.loop (X := Nat × Option Addr × Nat) (fun x => l.length - x.1) (fun x => [(0, .slice x.2.1 ((T.rnL (l.take x.1) (ns ++ [(-1 - f)])).2.length) x.2.2), (1, .agg #[.int .i64 f, .slice pa0 l.length pc0]), (3, .pointer (some ⟨g2, 0, none⟩)), (4, .slice none 0 0), (5, .bool y.2), (6, .int .i64 (((y.1 : Nat) : Int))), (7, .int .i64 (((x.1 : Nat) : Int))), (10, .bool ((decide ((f : Int) < (0 : Int))))), (14, .bool ((decide ((((y.1 : Nat) : Int) : Int) < (((ns.length : Nat) : Int) : Int))))), (29, .bool ((!y.2)))]) (fun x w45 => x.1 ≤ l.length ∧ (∀ b, (Value.slice x.2.1 ((T.rnL (l.take x.1) (ns ++ [(-1 - f)])).2).length x.2.2).ownBlock = some b → (Value.slice ra ns.length rc).ownBlock = some b ∨ (w.heap.size ≤ b ∧ b ≠ g2)) ∧ (∀ v ∈ (T.rnL (l.take x.1) (ns ++ [(-1 - f)])).2, I64 v) ∧ Blk w45 g2 32 #[.int .i64 f, .slice pa0 l.length pc0] ∧ RowD eltI (fun _ => False) (w45) 3 x.2.1 x.2.2 ((T.rnL (l.take x.1) (ns ++ [(-1 - f)])).2).length ((T.rnL (l.take x.1) (ns ++ [(-1 - f)])).2) ∧ Chg ((fun b => (Value.slice ra ns.length rc).ownBlock = some b ∨ w.heap.size ≤ b)) w w45) ((0, ra35, rc36)) ⟨rfl, rfl, rfl, rfl, rfl, rfl, rfl, rfl, rfl, rfl, trivial⟩ ?_ ?_
          · have hs46 : Chg ((fun b => (Value.slice ra ns.length rc).ownBlock = some b ∨ w.heap.size ≤ b)) w w34 := (Chg.trans2 (Chg.trans2 (Chg.refl ((fun b => (Value.slice ra ns.length rc).ownBlock = some b ∨ w.heap.size ≤ b)) _) (Chg.ofBelow (S := fun k => k < 0) hb40) (fun i h1 h2 => by first | exact h2 | exact .inl ⟨h2, h1⟩ | exact .inl h2 | exact .inr h2 | exact .inr (.inl h2) | exact .inr (.inr h2) | ((try dsimp only at *); omega))) hc38 (fun i h1 h2 => by first | exact h2 | exact .inl ⟨h2, h1⟩ | exact .inl h2 | exact .inr h2 | exact .inr (.inl h2) | exact .inr (.inr h2) | ((try dsimp only at *); omega)))
            exact ⟨Nat.zero_le _, by simpa [T.rnL] using (show ∀ b, (Value.slice ra35 ((ns ++ [(-1 - f)])).length rc36).ownBlock = some b → (Value.slice ra ns.length rc).ownBlock = some b ∨ (w.heap.size ≤ b ∧ b ≠ g2) from fun b q => (ho39 b (by rw [List.length_append] at q; exact q)).imp id (fun q => by omega)), by simpa [T.rnL] using hI1, hB41, (by simpa [T.rnL] using hrow0), hs46⟩
          · rintro x w45 ⟨hk, hown, hIk, hB47, ho48, hc49⟩
            refine WC.seq ?_
            refine WC.seq ?_
            refine WC.region ?_
            refine WL.val (.int .i64 (((x.1 : Nat) : Int))) rfl rfl rfl (fun za zC zh zk => wp_move rfl (zh.ev rfl) zk) ?_
            refine WL.val (.pointer (some ⟨g2, 1, none⟩)) rfl rfl rfl (fun za zC zh zk => fld_32_1 rfl (zh.ev rfl) zk) ?_
            refine WL.val (.slice pa0 l.length pc0) rfl rfl rfl (fun za zC zh zk => ld_30 rfl (zh.ev rfl) ((hB47.cell 1).trans rfl) zk) ?_
            refine WL.val (.int .i64 (((l.length : Nat) : Int))) rfl rfl rfl (fun za zC zh zk => len_30 rfl (zh.ev rfl) zk) ?_
            refine WL.val (.bool ((decide ((((x.1 : Nat) : Int) : Int) < (((l.length : Nat) : Int) : Int))))) rfl rfl rfl (fun za zC zh zk => lss_3 rfl (zh.ev rfl) (zh.ev rfl) zk) ?_
            refine WL.nil (WE.sub (K' := [(0, .slice x.2.1 ((T.rnL (l.take x.1) (ns ++ [(-1 - f)])).2.length) x.2.2), (1, .agg #[.int .i64 f, .slice pa0 l.length pc0]), (3, .pointer (some ⟨g2, 0, none⟩)), (4, .slice none 0 0), (5, .bool y.2), (6, .int .i64 (((y.1 : Nat) : Int))), (7, .int .i64 (((x.1 : Nat) : Int))), (10, .bool ((decide ((f : Int) < (0 : Int))))), (14, .bool ((decide ((((y.1 : Nat) : Int) : Int) < (((ns.length : Nat) : Int) : Int))))), (29, .bool ((!y.2))), (40, .bool ((decide ((((x.1 : Nat) : Int) : Int) < (((l.length : Nat) : Int) : Int)))))]) ⟨rfl, rfl, rfl, rfl, rfl, rfl, rfl, rfl, rfl, rfl, rfl, trivial⟩ ?_)
            refine WE.next ?_
            refine WC.cond rfl (fun h50 => ?_) (fun h50 => ?_)
            · have h50 : (((x.1 : Nat) : Int) : Int) < (((l.length : Nat) : Int) : Int) := by simpa using h50
              refine WC.skip ?_
              refine WE.next ?_
              refine WC.seq ?_
              refine WC.block ?_
              have hs51 : Chg ((fun b => (Value.slice ra ns.length rc).ownBlock = some b ∨ w.heap.size ≤ b)) w w45 := (Chg.trans2 (Chg.refl ((fun b => (Value.slice ra ns.length rc).ownBlock = some b ∨ w.heap.size ≤ b)) _) hc49 (fun i h1 h2 => by first | exact h2 | exact .inl ⟨h2, h1⟩ | exact .inl h2 | exact .inr h2 | exact .inr (.inl h2) | exact .inr (.inr h2) | ((try dsimp only at *); omega)))
              obtain ⟨pb, po, hpa, hpk⟩ := InTp.arg (b := 0) (o := 0) (hT.chg hs51 hA0) x.1 (by simp; omega)
              obtain ⟨pka, pkc, hpk1, hpk2, hpk3⟩ := InTp.at9 hpk
              simp only [T.args_mk] at hpk1 hpk2 hpk3
              have hpz := T.size_le_sizeL (tget_mem (l := l) (k := x.1) (by omega))
              have hst1 := sizeL_take1 (l := l) (k := x.1) (by omega)
              have hst2 := T.sizeL_take_le l (x.1 + 1)
              have hrl := T.rnL_len' (l.take x.1) (ns ++ [(-1 - f)])
              refine WC.region ?_
              refine WL.val (.slice x.2.1 ((T.rnL (l.take x.1) (ns ++ [(-1 - f)])).2.length) x.2.2) rfl rfl rfl (fun za zC zh zk => wp_move rfl (zh.ev rfl) zk) ?_
              refine WL.val (.pointer (some ⟨g2, 1, none⟩)) rfl rfl rfl (fun za zC zh zk => fld_32_1 rfl (zh.ev rfl) zk) ?_
              refine WL.val (.slice pa0 l.length pc0) rfl rfl rfl (fun za zC zh zk => ld_30 rfl (zh.ev rfl) ((hB47.cell 1).trans rfl) zk) ?_
              refine WL.val (.int .i64 (((x.1 : Nat) : Int))) rfl rfl rfl (fun za zC zh zk => wp_move rfl (zh.ev rfl) zk) ?_
              refine WL.val (.pointer (some ⟨pb, po + x.1 * 2, none⟩)) rfl rfl rfl (fun za zC zh zk => ix_30 (k := x.1) rfl (zh.ev rfl) hpa (zh.ev rfl) (by first | omega | (simp; omega)) zk) ?_
              refine WL.val (.agg #[.int .i64 ((tget l x.1).f), .slice pka ((tget l x.1).args.length) pkc]) rfl rfl rfl (fun za zC zh zk => ld_32 rfl (zh.ev rfl) hpk1 hpk2 zk) ?_
              have hl52 : g2 < w45.heap.size := hB47.lt
              have hl53 : w.heap.size ≤ g2 := by have z : w.heap.size ≤ w.heap.size := (Nat.le_refl _); omega
              have hw9 : w.heap.size ≤ w45.heap.size := hc49.size
              refine WL.call rfl rfl rfl (fun za zh zC => wp_call (by kernel_rfl) rfl (hv2 (zh.ev rfl) (zh.ev rfl))) (ih (tget l x.1) (tget_mem (by omega)) (T.rnL (l.take x.1) (ns ++ [(-1 - f)])).2 A _ _ _ _ ho48 (InT.below (Below.refl _ _) hpk3) (fun b q => ⟨fun q2 => by rcases hown b q2 with z | z; exact (hA b q).1 z; (have z2 := (hA b q).2; omega), by have z2 := (hA b q).2; omega⟩) (by omega) (by omega) hIk) ?_
              rintro vN w54 ⟨⟨raN, rcN, hvN, hrowN, hownN, hI2⟩, hcN⟩
              rw [← rnL_names (l := l) (k := x.1) (by omega) (ns ++ [(-1 - f)])] at hvN hrowN hownN hI2
              subst hvN
              have hB55 := chg_blk hB47 hcN (fun h => by rcases hown _ h with z | z; (have z2 := hrlt _ z; omega); exact z.2 rfl)
              have hcN2 : Chg (fun b => (Value.slice ra ns.length rc).ownBlock = some b ∨ w.heap.size ≤ b) w45 w54 := hcN.mono (fun b q => (hown b q).imp id And.left)
              have hown2 : ∀ b, (Value.slice raN ((T.rnL (l.take (x.1 + 1)) (ns ++ [(-1 - f)])).2).length rcN).ownBlock = some b → (Value.slice ra ns.length rc).ownBlock = some b ∨ (w.heap.size ≤ b ∧ b ≠ g2) := fun b q => (hownN b q).elim (hown b) (fun q => .inr ⟨by omega, by omega⟩)
              refine WL.val (.slice raN ((T.rnL (l.take (x.1 + 1)) (ns ++ [(-1 - f)])).2.length) rcN) rfl rfl rfl (fun za zC zh zk => wp_assign rfl (zh.ev rfl) zk) ?_
              refine WL.nil (WE.sub (K' := [(0, .slice raN ((T.rnL (l.take (x.1 + 1)) (ns ++ [(-1 - f)])).2.length) rcN), (1, .agg #[.int .i64 f, .slice pa0 l.length pc0]), (3, .pointer (some ⟨g2, 0, none⟩)), (4, .slice none 0 0), (5, .bool y.2), (6, .int .i64 (((y.1 : Nat) : Int))), (7, .int .i64 (((x.1 : Nat) : Int))), (10, .bool ((decide ((f : Int) < (0 : Int))))), (14, .bool ((decide ((((y.1 : Nat) : Int) : Int) < (((ns.length : Nat) : Int) : Int))))), (29, .bool ((!y.2))), (40, .bool ((decide ((((x.1 : Nat) : Int) : Int) < (((l.length : Nat) : Int) : Int)))))]) ⟨rfl, rfl, rfl, rfl, rfl, rfl, rfl, rfl, rfl, rfl, rfl, trivial⟩ ?_)
              refine WE.blockNormal ?_
              refine WE.next ?_
              refine WC.region ?_
              refine WL.val (.int .i64 (((x.1 : Nat) : Int))) rfl rfl rfl (fun za zC zh zk => wp_move rfl (zh.ev rfl) zk) ?_
              refine WL.val (.int .i64 ((((x.1 + 1) : Nat) : Int))) rfl rfl rfl (fun za zC zh zk => addb_3 rfl (zh.ev rfl) (zh.ev rfl) (wrap_eq (by omega) (by omega) (by omega)) zk) ?_
              refine WL.val (.int .i64 ((((x.1 + 1) : Nat) : Int))) rfl rfl rfl (fun za zC zh zk => wp_assign rfl (zh.ev rfl) zk) ?_
              refine WL.nil (WE.sub (K' := [(0, .slice raN ((T.rnL (l.take (x.1 + 1)) (ns ++ [(-1 - f)])).2.length) rcN), (1, .agg #[.int .i64 f, .slice pa0 l.length pc0]), (3, .pointer (some ⟨g2, 0, none⟩)), (4, .slice none 0 0), (5, .bool y.2), (6, .int .i64 (((y.1 : Nat) : Int))), (7, .int .i64 ((((x.1 + 1) : Nat) : Int))), (10, .bool ((decide ((f : Int) < (0 : Int))))), (14, .bool ((decide ((((y.1 : Nat) : Int) : Int) < (((ns.length : Nat) : Int) : Int))))), (29, .bool ((!y.2))), (40, .bool ((decide ((((x.1 : Nat) : Int) : Int) < (((l.length : Nat) : Int) : Int)))))]) ⟨rfl, rfl, rfl, rfl, rfl, rfl, rfl, rfl, rfl, rfl, rfl, trivial⟩ ?_)
              refine WE.round ((x.1 + 1, raN, rcN)) ⟨rfl, rfl, rfl, rfl, rfl, rfl, rfl, rfl, rfl, rfl, trivial⟩ ?_ ?_
              · have hs56 : Chg ((fun b => (Value.slice ra ns.length rc).ownBlock = some b ∨ w.heap.size ≤ b)) w w54 := (Chg.trans2 (Chg.trans2 (Chg.refl ((fun b => (Value.slice ra ns.length rc).ownBlock = some b ∨ w.heap.size ≤ b)) _) hc49 (fun i h1 h2 => by first | exact h2 | exact .inl ⟨h2, h1⟩ | exact .inl h2 | exact .inr h2 | exact .inr (.inl h2) | exact .inr (.inr h2) | ((try dsimp only at *); omega))) hcN2 (fun i h1 h2 => by first | exact h2 | exact .inl ⟨h2, h1⟩ | exact .inl h2 | exact .inr h2 | exact .inr (.inl h2) | exact .inr (.inr h2) | ((try dsimp only at *); omega)))
                exact ⟨by (try dsimp only); omega, hown2, hI2, hB55, (by dsimp only; exact hrowN), hs56⟩
              · (try dsimp only); omega
            · have h50 : ¬ ((((x.1 : Nat) : Int) : Int) < (((l.length : Nat) : Int) : Int)) := by simpa using h50
              refine WC.exit ?_
              refine WE.thenExit ?_
              refine WE.thenExit ?_
              refine WE.blockIs rfl ?_
              refine WE.next ?_
              refine WC.seq ?_
              refine WC.region ?_
              refine WL.val (.slice x.2.1 ((T.rnL (l.take x.1) (ns ++ [(-1 - f)])).2.length) x.2.2) rfl rfl rfl (fun za zC zh zk => wp_move rfl (zh.ev rfl) zk) ?_
              refine WL.val (.slice x.2.1 ((T.rnL (l.take x.1) (ns ++ [(-1 - f)])).2.length) x.2.2) rfl rfl rfl (fun za zC zh zk => wp_assign rfl (zh.ev rfl) zk) ?_
              refine WL.nil (WE.sub (K' := [(0, .slice x.2.1 ((T.rnL (l.take x.1) (ns ++ [(-1 - f)])).2.length) x.2.2), (1, .agg #[.int .i64 f, .slice pa0 l.length pc0]), (3, .pointer (some ⟨g2, 0, none⟩)), (4, .slice x.2.1 ((T.rnL (l.take x.1) (ns ++ [(-1 - f)])).2.length) x.2.2), (5, .bool y.2), (6, .int .i64 (((y.1 : Nat) : Int))), (7, .int .i64 (((x.1 : Nat) : Int))), (10, .bool ((decide ((f : Int) < (0 : Int))))), (14, .bool ((decide ((((y.1 : Nat) : Int) : Int) < (((ns.length : Nat) : Int) : Int))))), (29, .bool ((!y.2))), (40, .bool ((decide ((((x.1 : Nat) : Int) : Int) < (((l.length : Nat) : Int) : Int)))))]) ⟨rfl, rfl, rfl, rfl, rfl, rfl, rfl, rfl, rfl, rfl, rfl, trivial⟩ ?_)
              refine WE.next ?_
              refine WC.ret ?_
              refine WE.ret1 rfl rfl ?_
              have hs57 : Chg ((fun b => (Value.slice ra ns.length rc).ownBlock = some b ∨ w.heap.size ≤ b)) w w45 := (Chg.trans2 (Chg.refl ((fun b => (Value.slice ra ns.length rc).ownBlock = some b ∨ w.heap.size ≤ b)) _) hc49 (fun i h1 h2 => by first | exact h2 | exact .inl ⟨h2, h1⟩ | exact .inl h2 | exact .inr h2 | exact .inr (.inl h2) | exact .inr (.inr h2) | ((try dsimp only at *); omega)))
              have hN9 : ((T.mk f l).rn ns).2 = (T.rnL (l.take x.1) (ns ++ [(-1 - f)])).2 := by rw [List.take_of_length_le (by omega)]; exact rn_names (fun _ => hnew) (fun q => absurd ‹f < 0› q)
              rw [hN9]
              exact ⟨_, rfl, ⟨_, _, rfl, ho48, fun b q => (hown b q).imp id And.left, hIk⟩, (Chg.refl (fun b => (Value.slice ra ns.length rc).ownBlock = some b) w).trans2 hs57 (fun b hl q => q.elim id (fun q => by omega))⟩
        · have h22 : ¬ (¬ (y.2 = true)) := by simpa using h22
          have hin9 : (nmTo ns (-1 - f)).2 = ns := nmTo_in (k := y.1) (by omega) (hth.1 (by have z2 := h22; simpa using z2))
          refine WC.skip ?_
          refine WE.next ?_
          refine WC.seq ?_
          refine WC.seq ?_
          refine WC.region ?_
          refine WL.val (.int .i64 0) rfl rfl rfl (fun za zC zh zk => wp_assign rfl (zh.ev rfl) zk) ?_
          refine WL.nil (WE.sub (K' := [(0, .slice ra ns.length rc), (1, .agg #[.int .i64 f, .slice pa0 l.length pc0]), (3, .pointer (some ⟨g2, 0, none⟩)), (4, .slice none 0 0), (5, .bool y.2), (6, .int .i64 (((y.1 : Nat) : Int))), (7, .int .i64 0), (10, .bool ((decide ((f : Int) < (0 : Int))))), (14, .bool ((decide ((((y.1 : Nat) : Int) : Int) < (((ns.length : Nat) : Int) : Int))))), (29, .bool ((!y.2)))]) ⟨rfl, rfl, rfl, rfl, rfl, rfl, rfl, rfl, rfl, rfl, trivial⟩ ?_)
          refine WE.next ?_
          refine WC.block ?_
          have hl58 : g2 < w9.heap.size := hB11.lt
          have hl59 : w.heap.size ≤ g2 := by have z : w.heap.size ≤ w.heap.size := (Nat.le_refl _); omega
          have hrow0 : RowD eltI (fun _ => False) w9 3 ra rc ns.length ns := hR.below hb10
          have hI1 := hI
          have hlN : ns.length = ns.length := rfl
          have hs60 : Chg ((fun b => (Value.slice ra ns.length rc).ownBlock = some b ∨ w.heap.size ≤ b)) w w9 := (Chg.trans2 (Chg.refl ((fun b => (Value.slice ra ns.length rc).ownBlock = some b ∨ w.heap.size ≤ b)) _) (Chg.ofBelow (S := fun k => k < 0) hb10) (fun i h1 h2 => by first | exact h2 | exact .inl ⟨h2, h1⟩ | exact .inl h2 | exact .inr h2 | exact .inr (.inl h2) | exact .inr (.inr h2) | ((try dsimp only at *); omega)))
          have hcS : Chg (fun b => (Value.slice ra ns.length rc).ownBlock = some b ∨ w.heap.size ≤ b) w w9 := hs60
          refine WC.loop (X := Nat × Option Addr × Nat) (fun x => l.length - x.1) (fun x => [(0, .slice x.2.1 ((T.rnL (l.take x.1) ns).2.length) x.2.2), (1, .agg #[.int .i64 f, .slice pa0 l.length pc0]), (3, .pointer (some ⟨g2, 0, none⟩)), (4, .slice none 0 0), (5, .bool y.2), (6, .int .i64 (((y.1 : Nat) : Int))), (7, .int .i64 (((x.1 : Nat) : Int))), (10, .bool ((decide ((f : Int) < (0 : Int))))), (14, .bool ((decide ((((y.1 : Nat) : Int) : Int) < (((ns.length : Nat) : Int) : Int))))), (29, .bool ((!y.2)))]) (fun x w61 => x.1 ≤ l.length ∧ (∀ b, (Value.slice x.2.1 ((T.rnL (l.take x.1) ns).2).length x.2.2).ownBlock = some b → (Value.slice ra ns.length rc).ownBlock = some b ∨ (w.heap.size ≤ b ∧ b ≠ g2)) ∧ (∀ v ∈ (T.rnL (l.take x.1) ns).2, I64 v) ∧ Blk w61 g2 32 #[.int .i64 f, .slice pa0 l.length pc0] ∧ RowD eltI (fun _ => False) (w61) 3 x.2.1 x.2.2 ((T.rnL (l.take x.1) ns).2).length ((T.rnL (l.take x.1) ns).2) ∧ Chg ((fun b => (Value.slice ra ns.length rc).ownBlock = some b ∨ w.heap.size ≤ b)) w w61) ((0, ra, rc)) ⟨rfl, rfl, rfl, rfl, rfl, rfl, rfl, rfl, rfl, rfl, trivial⟩ ?_ ?_
          · have hs62 : Chg ((fun b => (Value.slice ra ns.length rc).ownBlock = some b ∨ w.heap.size ≤ b)) w w9 := (Chg.trans2 (Chg.refl ((fun b => (Value.slice ra ns.length rc).ownBlock = some b ∨ w.heap.size ≤ b)) _) (Chg.ofBelow (S := fun k => k < 0) hb10) (fun i h1 h2 => by first | exact h2 | exact .inl ⟨h2, h1⟩ | exact .inl h2 | exact .inr h2 | exact .inr (.inl h2) | exact .inr (.inr h2) | ((try dsimp only at *); omega)))
            exact ⟨Nat.zero_le _, by simpa [T.rnL] using (show ∀ b, (Value.slice ra ns.length rc).ownBlock = some b → (Value.slice ra ns.length rc).ownBlock = some b ∨ (w.heap.size ≤ b ∧ b ≠ g2) from fun b q => .inl q), by simpa [T.rnL] using hI1, hB11, (by simpa [T.rnL] using hrow0), hs62⟩
          · rintro x w61 ⟨hk, hown, hIk, hB63, ho64, hc65⟩
            refine WC.seq ?_
            refine WC.seq ?_
            refine WC.region ?_
            refine WL.val (.int .i64 (((x.1 : Nat) : Int))) rfl rfl rfl (fun za zC zh zk => wp_move rfl (zh.ev rfl) zk) ?_
            refine WL.val (.pointer (some ⟨g2, 1, none⟩)) rfl rfl rfl (fun za zC zh zk => fld_32_1 rfl (zh.ev rfl) zk) ?_
            refine WL.val (.slice pa0 l.length pc0) rfl rfl rfl (fun za zC zh zk => ld_30 rfl (zh.ev rfl) ((hB63.cell 1).trans rfl) zk) ?_
            refine WL.val (.int .i64 (((l.length : Nat) : Int))) rfl rfl rfl (fun za zC zh zk => len_30 rfl (zh.ev rfl) zk) ?_
            refine WL.val (.bool ((decide ((((x.1 : Nat) : Int) : Int) < (((l.length : Nat) : Int) : Int))))) rfl rfl rfl (fun za zC zh zk => lss_3 rfl (zh.ev rfl) (zh.ev rfl) zk) ?_
            refine WL.nil (WE.sub (K' := [(0, .slice x.2.1 ((T.rnL (l.take x.1) ns).2.length) x.2.2), (1, .agg #[.int .i64 f, .slice pa0 l.length pc0]), (3, .pointer (some ⟨g2, 0, none⟩)), (4, .slice none 0 0), (5, .bool y.2), (6, .int .i64 (((y.1 : Nat) : Int))), (7, .int .i64 (((x.1 : Nat) : Int))), (10, .bool ((decide ((f : Int) < (0 : Int))))), (14, .bool ((decide ((((y.1 : Nat) : Int) : Int) < (((ns.length : Nat) : Int) : Int))))), (29, .bool ((!y.2))), (40, .bool ((decide ((((x.1 : Nat) : Int) : Int) < (((l.length : Nat) : Int) : Int)))))]) ⟨rfl, rfl, rfl, rfl, rfl, rfl, rfl, rfl, rfl, rfl, rfl, trivial⟩ ?_)
            refine WE.next ?_
            refine WC.cond rfl (fun h66 => ?_) (fun h66 => ?_)
            · have h66 : (((x.1 : Nat) : Int) : Int) < (((l.length : Nat) : Int) : Int) := by simpa using h66
              refine WC.skip ?_
              refine WE.next ?_
              refine WC.seq ?_
              refine WC.block ?_
              have hs67 : Chg ((fun b => (Value.slice ra ns.length rc).ownBlock = some b ∨ w.heap.size ≤ b)) w w61 := (Chg.trans2 (Chg.refl ((fun b => (Value.slice ra ns.length rc).ownBlock = some b ∨ w.heap.size ≤ b)) _) hc65 (fun i h1 h2 => by first | exact h2 | exact .inl ⟨h2, h1⟩ | exact .inl h2 | exact .inr h2 | exact .inr (.inl h2) | exact .inr (.inr h2) | ((try dsimp only at *); omega)))
              obtain ⟨pb, po, hpa, hpk⟩ := InTp.arg (b := 0) (o := 0) (hT.chg hs67 hA0) x.1 (by simp; omega)
              obtain ⟨pka, pkc, hpk1, hpk2, hpk3⟩ := InTp.at9 hpk
              simp only [T.args_mk] at hpk1 hpk2 hpk3
              have hpz := T.size_le_sizeL (tget_mem (l := l) (k := x.1) (by omega))
              have hst1 := sizeL_take1 (l := l) (k := x.1) (by omega)
              have hst2 := T.sizeL_take_le l (x.1 + 1)
              have hrl := T.rnL_len' (l.take x.1) ns
              refine WC.region ?_
              refine WL.val (.slice x.2.1 ((T.rnL (l.take x.1) ns).2.length) x.2.2) rfl rfl rfl (fun za zC zh zk => wp_move rfl (zh.ev rfl) zk) ?_
              refine WL.val (.pointer (some ⟨g2, 1, none⟩)) rfl rfl rfl (fun za zC zh zk => fld_32_1 rfl (zh.ev rfl) zk) ?_
              refine WL.val (.slice pa0 l.length pc0) rfl rfl rfl (fun za zC zh zk => ld_30 rfl (zh.ev rfl) ((hB63.cell 1).trans rfl) zk) ?_
              refine WL.val (.int .i64 (((x.1 : Nat) : Int))) rfl rfl rfl (fun za zC zh zk => wp_move rfl (zh.ev rfl) zk) ?_
              refine WL.val (.pointer (some ⟨pb, po + x.1 * 2, none⟩)) rfl rfl rfl (fun za zC zh zk => ix_30 (k := x.1) rfl (zh.ev rfl) hpa (zh.ev rfl) (by first | omega | (simp; omega)) zk) ?_
              refine WL.val (.agg #[.int .i64 ((tget l x.1).f), .slice pka ((tget l x.1).args.length) pkc]) rfl rfl rfl (fun za zC zh zk => ld_32 rfl (zh.ev rfl) hpk1 hpk2 zk) ?_
              have hl68 : g2 < w61.heap.size := hB63.lt
              have hl69 : w.heap.size ≤ g2 := by have z : w.heap.size ≤ w.heap.size := (Nat.le_refl _); omega
              have hw9 : w.heap.size ≤ w61.heap.size := hc65.size
              refine WL.call rfl rfl rfl (fun za zh zC => wp_call (by kernel_rfl) rfl (hv2 (zh.ev rfl) (zh.ev rfl))) (ih (tget l x.1) (tget_mem (by omega)) (T.rnL (l.take x.1) ns).2 A _ _ _ _ ho64 (InT.below (Below.refl _ _) hpk3) (fun b q => ⟨fun q2 => by rcases hown b q2 with z | z; exact (hA b q).1 z; (have z2 := (hA b q).2; omega), by have z2 := (hA b q).2; omega⟩) (by omega) (by omega) hIk) ?_
              rintro vN w70 ⟨⟨raN, rcN, hvN, hrowN, hownN, hI2⟩, hcN⟩
              rw [← rnL_names (l := l) (k := x.1) (by omega) ns] at hvN hrowN hownN hI2
              subst hvN
              have hB71 := chg_blk hB63 hcN (fun h => by rcases hown _ h with z | z; (have z2 := hrlt _ z; omega); exact z.2 rfl)
              have hcN2 : Chg (fun b => (Value.slice ra ns.length rc).ownBlock = some b ∨ w.heap.size ≤ b) w61 w70 := hcN.mono (fun b q => (hown b q).imp id And.left)
              have hown2 : ∀ b, (Value.slice raN ((T.rnL (l.take (x.1 + 1)) ns).2).length rcN).ownBlock = some b → (Value.slice ra ns.length rc).ownBlock = some b ∨ (w.heap.size ≤ b ∧ b ≠ g2) := fun b q => (hownN b q).elim (hown b) (fun q => .inr ⟨by omega, by omega⟩)
              refine WL.val (.slice raN ((T.rnL (l.take (x.1 + 1)) ns).2.length) rcN) rfl rfl rfl (fun za zC zh zk => wp_assign rfl (zh.ev rfl) zk) ?_
              refine WL.nil (WE.sub (K' := [(0, .slice raN ((T.rnL (l.take (x.1 + 1)) ns).2.length) rcN), (1, .agg #[.int .i64 f, .slice pa0 l.length pc0]), (3, .pointer (some ⟨g2, 0, none⟩)), (4, .slice none 0 0), (5, .bool y.2), (6, .int .i64 (((y.1 : Nat) : Int))), (7, .int .i64 (((x.1 : Nat) : Int))), (10, .bool ((decide ((f : Int) < (0 : Int))))), (14, .bool ((decide ((((y.1 : Nat) : Int) : Int) < (((ns.length : Nat) : Int) : Int))))), (29, .bool ((!y.2))), (40, .bool ((decide ((((x.1 : Nat) : Int) : Int) < (((l.length : Nat) : Int) : Int)))))]) ⟨rfl, rfl, rfl, rfl, rfl, rfl, rfl, rfl, rfl, rfl, rfl, trivial⟩ ?_)
              refine WE.blockNormal ?_
              refine WE.next ?_
              refine WC.region ?_
              refine WL.val (.int .i64 (((x.1 : Nat) : Int))) rfl rfl rfl (fun za zC zh zk => wp_move rfl (zh.ev rfl) zk) ?_
              refine WL.val (.int .i64 ((((x.1 + 1) : Nat) : Int))) rfl rfl rfl (fun za zC zh zk => addb_3 rfl (zh.ev rfl) (zh.ev rfl) (wrap_eq (by omega) (by omega) (by omega)) zk) ?_
              refine WL.val (.int .i64 ((((x.1 + 1) : Nat) : Int))) rfl rfl rfl (fun za zC zh zk => wp_assign rfl (zh.ev rfl) zk) ?_
              refine WL.nil (WE.sub (K' := [(0, .slice raN ((T.rnL (l.take (x.1 + 1)) ns).2.length) rcN), (1, .agg #[.int .i64 f, .slice pa0 l.length pc0]), (3, .pointer (some ⟨g2, 0, none⟩)), (4, .slice none 0 0), (5, .bool y.2), (6, .int .i64 (((y.1 : Nat) : Int))), (7, .int .i64 ((((x.1 + 1) : Nat) : Int))), (10, .bool ((decide ((f : Int) < (0 : Int))))), (14, .bool ((decide ((((y.1 : Nat) : Int) : Int) < (((ns.length : Nat) : Int) : Int))))), (29, .bool ((!y.2))), (40, .bool ((decide ((((x.1 : Nat) : Int) : Int) < (((l.length : Nat) : Int) : Int)))))]) ⟨rfl, rfl, rfl, rfl, rfl, rfl, rfl, rfl, rfl, rfl, rfl, trivial⟩ ?_)
              refine WE.round ((x.1 + 1, raN, rcN)) ⟨rfl, rfl, rfl, rfl, rfl, rfl, rfl, rfl, rfl, rfl, trivial⟩ ?_ ?_
              · have hs72 : Chg ((fun b => (Value.slice ra ns.length rc).ownBlock = some b ∨ w.heap.size ≤ b)) w w70 := (Chg.trans2 (Chg.trans2 (Chg.refl ((fun b => (Value.slice ra ns.length rc).ownBlock = some b ∨ w.heap.size ≤ b)) _) hc65 (fun i h1 h2 => by first | exact h2 | exact .inl ⟨h2, h1⟩ | exact .inl h2 | exact .inr h2 | exact .inr (.inl h2) | exact .inr (.inr h2) | ((try dsimp only at *); omega))) hcN2 (fun i h1 h2 => by first | exact h2 | exact .inl ⟨h2, h1⟩ | exact .inl h2 | exact .inr h2 | exact .inr (.inl h2) | exact .inr (.inr h2) | ((try dsimp only at *); omega)))
                exact ⟨by (try dsimp only); omega, hown2, hI2, hB71, (by dsimp only; exact hrowN), hs72⟩
              · (try dsimp only); omega
            · have h66 : ¬ ((((x.1 : Nat) : Int) : Int) < (((l.length : Nat) : Int) : Int)) := by simpa using h66
              refine WC.exit ?_
              refine WE.thenExit ?_
              refine WE.thenExit ?_
              refine WE.blockIs rfl ?_
              refine WE.next ?_
              refine WC.seq ?_
              refine WC.region ?_
              refine WL.val (.slice x.2.1 ((T.rnL (l.take x.1) ns).2.length) x.2.2) rfl rfl rfl (fun za zC zh zk => wp_move rfl (zh.ev rfl) zk) ?_
              refine WL.val (.slice x.2.1 ((T.rnL (l.take x.1) ns).2.length) x.2.2) rfl rfl rfl (fun za zC zh zk => wp_assign rfl (zh.ev rfl) zk) ?_
              refine WL.nil (WE.sub (K' := [(0, .slice x.2.1 ((T.rnL (l.take x.1) ns).2.length) x.2.2), (1, .agg #[.int .i64 f, .slice pa0 l.length pc0]), (3, .pointer (some ⟨g2, 0, none⟩)), (4, .slice x.2.1 ((T.rnL (l.take x.1) ns).2.length) x.2.2), (5, .bool y.2), (6, .int .i64 (((y.1 : Nat) : Int))), (7, .int .i64 (((x.1 : Nat) : Int))), (10, .bool ((decide ((f : Int) < (0 : Int))))), (14, .bool ((decide ((((y.1 : Nat) : Int) : Int) < (((ns.length : Nat) : Int) : Int))))), (29, .bool ((!y.2))), (40, .bool ((decide ((((x.1 : Nat) : Int) : Int) < (((l.length : Nat) : Int) : Int)))))]) ⟨rfl, rfl, rfl, rfl, rfl, rfl, rfl, rfl, rfl, rfl, rfl, trivial⟩ ?_)
              refine WE.next ?_
              refine WC.ret ?_
              refine WE.ret1 rfl rfl ?_
              have hs73 : Chg ((fun b => (Value.slice ra ns.length rc).ownBlock = some b ∨ w.heap.size ≤ b)) w w61 := (Chg.trans2 (Chg.refl ((fun b => (Value.slice ra ns.length rc).ownBlock = some b ∨ w.heap.size ≤ b)) _) hc65 (fun i h1 h2 => by first | exact h2 | exact .inl ⟨h2, h1⟩ | exact .inl h2 | exact .inr h2 | exact .inr (.inl h2) | exact .inr (.inr h2) | ((try dsimp only at *); omega)))
              have hN9 : ((T.mk f l).rn ns).2 = (T.rnL (l.take x.1) ns).2 := by rw [List.take_of_length_le (by omega)]; exact rn_names (fun _ => hin9) (fun q => absurd ‹f < 0› q)
              rw [hN9]
              exact ⟨_, rfl, ⟨_, _, rfl, ho64, fun b q => (hown b q).imp id And.left, hIk⟩, (Chg.refl (fun b => (Value.slice ra ns.length rc).ownBlock = some b) w).trans2 hs73 (fun b hl q => q.elim id (fun q => by omega))⟩
  · have h8 : ¬ ((f : Int) < (0 : Int)) := by simpa using h8
    refine WC.skip ?_
    refine WE.next ?_
    refine WC.seq ?_
    refine WC.seq ?_
    refine WC.region ?_
    refine WL.val (.int .i64 0) rfl rfl rfl (fun za zC zh zk => wp_assign rfl (zh.ev rfl) zk) ?_
    refine WL.nil (WE.sub (K' := [(0, .slice ra ns.length rc), (1, .agg #[.int .i64 f, .slice pa0 l.length pc0]), (3, .pointer (some ⟨g2, 0, none⟩)), (4, .slice none 0 0), (7, .int .i64 0), (10, .bool ((decide ((f : Int) < (0 : Int)))))]) ⟨rfl, rfl, rfl, rfl, rfl, rfl, trivial⟩ ?_)
    refine WE.next ?_
    refine WC.block ?_
    have hl74 : g2 < w1.heap.size := hB4.lt
    have hl75 : w.heap.size ≤ g2 := by have z : w.heap.size ≤ w.heap.size := (Nat.le_refl _); omega
    have hrow0 : RowD eltI (fun _ => False) w1 3 ra rc ns.length ns := hR.below hb5
    have hI1 := hI
    have hlN : ns.length = ns.length := rfl
    have hs76 : Chg ((fun b => (Value.slice ra ns.length rc).ownBlock = some b ∨ w.heap.size ≤ b)) w w1 := (Chg.trans2 (Chg.refl ((fun b => (Value.slice ra ns.length rc).ownBlock = some b ∨ w.heap.size ≤ b)) _) (Chg.ofBelow (S := fun k => k < 0) hb5) (fun i h1 h2 => by first | exact h2 | exact .inl ⟨h2, h1⟩ | exact .inl h2 | exact .inr h2 | exact .inr (.inl h2) | exact .inr (.inr h2) | ((try dsimp only at *); omega)))
    have hcS : Chg (fun b => (Value.slice ra ns.length rc).ownBlock = some b ∨ w.heap.size ≤ b) w w1 := hs76
    refine WC.loop (X := Nat × Option Addr × Nat) (fun x => l.length - x.1) (fun x => [(0, .slice x.2.1 ((T.rnL (l.take x.1) ns).2.length) x.2.2), (1, .agg #[.int .i64 f, .slice pa0 l.length pc0]), (3, .pointer (some ⟨g2, 0, none⟩)), (4, .slice none 0 0), (7, .int .i64 (((x.1 : Nat) : Int))), (10, .bool ((decide ((f : Int) < (0 : Int)))))]) (fun x w77 => x.1 ≤ l.length ∧ (∀ b, (Value.slice x.2.1 ((T.rnL (l.take x.1) ns).2).length x.2.2).ownBlock = some b → (Value.slice ra ns.length rc).ownBlock = some b ∨ (w.heap.size ≤ b ∧ b ≠ g2)) ∧ (∀ v ∈ (T.rnL (l.take x.1) ns).2, I64 v) ∧ Blk w77 g2 32 #[.int .i64 f, .slice pa0 l.length pc0] ∧ RowD eltI (fun _ => False) (w77) 3 x.2.1 x.2.2 ((T.rnL (l.take x.1) ns).2).length ((T.rnL (l.take x.1) ns).2) ∧ Chg ((fun b => (Value.slice ra ns.length rc).ownBlock = some b ∨ w.heap.size ≤ b)) w w77) ((0, ra, rc)) ⟨rfl, rfl, rfl, rfl, rfl, rfl, trivial⟩ ?_ ?_
    · have hs78 : Chg ((fun b => (Value.slice ra ns.length rc).ownBlock = some b ∨ w.heap.size ≤ b)) w w1 := (Chg.trans2 (Chg.refl ((fun b => (Value.slice ra ns.length rc).ownBlock = some b ∨ w.heap.size ≤ b)) _) (Chg.ofBelow (S := fun k => k < 0) hb5) (fun i h1 h2 => by first | exact h2 | exact .inl ⟨h2, h1⟩ | exact .inl h2 | exact .inr h2 | exact .inr (.inl h2) | exact .inr (.inr h2) | ((try dsimp only at *); omega)))
      exact ⟨Nat.zero_le _, by simpa [T.rnL] using (show ∀ b, (Value.slice ra ns.length rc).ownBlock = some b → (Value.slice ra ns.length rc).ownBlock = some b ∨ (w.heap.size ≤ b ∧ b ≠ g2) from fun b q => .inl q), by simpa [T.rnL] using hI1, hB4, (by simpa [T.rnL] using hrow0), hs78⟩
    · rintro x w77 ⟨hk, hown, hIk, hB79, ho80, hc81⟩
      refine WC.seq ?_
      refine WC.seq ?_
      refine WC.region ?_
      refine WL.val (.int .i64 (((x.1 : Nat) : Int))) rfl rfl rfl (fun za zC zh zk => wp_move rfl (zh.ev rfl) zk) ?_
      refine WL.val (.pointer (some ⟨g2, 1, none⟩)) rfl rfl rfl (fun za zC zh zk => fld_32_1 rfl (zh.ev rfl) zk) ?_
      refine WL.val (.slice pa0 l.length pc0) rfl rfl rfl (fun za zC zh zk => ld_30 rfl (zh.ev rfl) ((hB79.cell 1).trans rfl) zk) ?_
      refine WL.val (.int .i64 (((l.length : Nat) : Int))) rfl rfl rfl (fun za zC zh zk => len_30 rfl (zh.ev rfl) zk) ?_
      refine WL.val (.bool ((decide ((((x.1 : Nat) : Int) : Int) < (((l.length : Nat) : Int) : Int))))) rfl rfl rfl (fun za zC zh zk => lss_3 rfl (zh.ev rfl) (zh.ev rfl) zk) ?_
      refine WL.nil (WE.sub (K' := [(0, .slice x.2.1 ((T.rnL (l.take x.1) ns).2.length) x.2.2), (1, .agg #[.int .i64 f, .slice pa0 l.length pc0]), (3, .pointer (some ⟨g2, 0, none⟩)), (4, .slice none 0 0), (7, .int .i64 (((x.1 : Nat) : Int))), (10, .bool ((decide ((f : Int) < (0 : Int))))), (40, .bool ((decide ((((x.1 : Nat) : Int) : Int) < (((l.length : Nat) : Int) : Int)))))]) ⟨rfl, rfl, rfl, rfl, rfl, rfl, rfl, trivial⟩ ?_)
      refine WE.next ?_
      refine WC.cond rfl (fun h82 => ?_) (fun h82 => ?_)
      · have h82 : (((x.1 : Nat) : Int) : Int) < (((l.length : Nat) : Int) : Int) := by simpa using h82
        refine WC.skip ?_
        refine WE.next ?_
        refine WC.seq ?_
        refine WC.block ?_
        have hs83 : Chg ((fun b => (Value.slice ra ns.length rc).ownBlock = some b ∨ w.heap.size ≤ b)) w w77 := (Chg.trans2 (Chg.refl ((fun b => (Value.slice ra ns.length rc).ownBlock = some b ∨ w.heap.size ≤ b)) _) hc81 (fun i h1 h2 => by first | exact h2 | exact .inl ⟨h2, h1⟩ | exact .inl h2 | exact .inr h2 | exact .inr (.inl h2) | exact .inr (.inr h2) | ((try dsimp only at *); omega)))
        obtain ⟨pb, po, hpa, hpk⟩ := InTp.arg (b := 0) (o := 0) (hT.chg hs83 hA0) x.1 (by simp; omega)
        obtain ⟨pka, pkc, hpk1, hpk2, hpk3⟩ := InTp.at9 hpk
        simp only [T.args_mk] at hpk1 hpk2 hpk3
        have hpz := T.size_le_sizeL (tget_mem (l := l) (k := x.1) (by omega))
        have hst1 := sizeL_take1 (l := l) (k := x.1) (by omega)
        have hst2 := T.sizeL_take_le l (x.1 + 1)
        have hrl := T.rnL_len' (l.take x.1) ns
        refine WC.region ?_
        refine WL.val (.slice x.2.1 ((T.rnL (l.take x.1) ns).2.length) x.2.2) rfl rfl rfl (fun za zC zh zk => wp_move rfl (zh.ev rfl) zk) ?_
        refine WL.val (.pointer (some ⟨g2, 1, none⟩)) rfl rfl rfl (fun za zC zh zk => fld_32_1 rfl (zh.ev rfl) zk) ?_
        refine WL.val (.slice pa0 l.length pc0) rfl rfl rfl (fun za zC zh zk => ld_30 rfl (zh.ev rfl) ((hB79.cell 1).trans rfl) zk) ?_
        refine WL.val (.int .i64 (((x.1 : Nat) : Int))) rfl rfl rfl (fun za zC zh zk => wp_move rfl (zh.ev rfl) zk) ?_
        refine WL.val (.pointer (some ⟨pb, po + x.1 * 2, none⟩)) rfl rfl rfl (fun za zC zh zk => ix_30 (k := x.1) rfl (zh.ev rfl) hpa (zh.ev rfl) (by first | omega | (simp; omega)) zk) ?_
        refine WL.val (.agg #[.int .i64 ((tget l x.1).f), .slice pka ((tget l x.1).args.length) pkc]) rfl rfl rfl (fun za zC zh zk => ld_32 rfl (zh.ev rfl) hpk1 hpk2 zk) ?_
        have hl84 : g2 < w77.heap.size := hB79.lt
        have hl85 : w.heap.size ≤ g2 := by have z : w.heap.size ≤ w.heap.size := (Nat.le_refl _); omega
        have hw9 : w.heap.size ≤ w77.heap.size := hc81.size
        refine WL.call rfl rfl rfl (fun za zh zC => wp_call (by kernel_rfl) rfl (hv2 (zh.ev rfl) (zh.ev rfl))) (ih (tget l x.1) (tget_mem (by omega)) (T.rnL (l.take x.1) ns).2 A _ _ _ _ ho80 (InT.below (Below.refl _ _) hpk3) (fun b q => ⟨fun q2 => by rcases hown b q2 with z | z; exact (hA b q).1 z; (have z2 := (hA b q).2; omega), by have z2 := (hA b q).2; omega⟩) (by omega) (by omega) hIk) ?_
        rintro vN w86 ⟨⟨raN, rcN, hvN, hrowN, hownN, hI2⟩, hcN⟩
        rw [← rnL_names (l := l) (k := x.1) (by omega) ns] at hvN hrowN hownN hI2
        subst hvN
        have hB87 := chg_blk hB79 hcN (fun h => by rcases hown _ h with z | z; (have z2 := hrlt _ z; omega); exact z.2 rfl)
        have hcN2 : Chg (fun b => (Value.slice ra ns.length rc).ownBlock = some b ∨ w.heap.size ≤ b) w77 w86 := hcN.mono (fun b q => (hown b q).imp id And.left)
        have hown2 : ∀ b, (Value.slice raN ((T.rnL (l.take (x.1 + 1)) ns).2).length rcN).ownBlock = some b → (Value.slice ra ns.length rc).ownBlock = some b ∨ (w.heap.size ≤ b ∧ b ≠ g2) := fun b q => (hownN b q).elim (hown b) (fun q => .inr ⟨by omega, by omega⟩)
        refine WL.val (.slice raN ((T.rnL (l.take (x.1 + 1)) ns).2.length) rcN) rfl rfl rfl (fun za zC zh zk => wp_assign rfl (zh.ev rfl) zk) ?_
        refine WL.nil (WE.sub (K' := [(0, .slice raN ((T.rnL (l.take (x.1 + 1)) ns).2.length) rcN), (1, .agg #[.int .i64 f, .slice pa0 l.length pc0]), (3, .pointer (some ⟨g2, 0, none⟩)), (4, .slice none 0 0), (7, .int .i64 (((x.1 : Nat) : Int))), (10, .bool ((decide ((f : Int) < (0 : Int))))), (40, .bool ((decide ((((x.1 : Nat) : Int) : Int) < (((l.length : Nat) : Int) : Int)))))]) ⟨rfl, rfl, rfl, rfl, rfl, rfl, rfl, trivial⟩ ?_)
        refine WE.blockNormal ?_
        refine WE.next ?_
        refine WC.region ?_
        refine WL.val (.int .i64 (((x.1 : Nat) : Int))) rfl rfl rfl (fun za zC zh zk => wp_move rfl (zh.ev rfl) zk) ?_
        refine WL.val (.int .i64 ((((x.1 + 1) : Nat) : Int))) rfl rfl rfl (fun za zC zh zk => addb_3 rfl (zh.ev rfl) (zh.ev rfl) (wrap_eq (by omega) (by omega) (by omega)) zk) ?_
        refine WL.val (.int .i64 ((((x.1 + 1) : Nat) : Int))) rfl rfl rfl (fun za zC zh zk => wp_assign rfl (zh.ev rfl) zk) ?_
        refine WL.nil (WE.sub (K' := [(0, .slice raN ((T.rnL (l.take (x.1 + 1)) ns).2.length) rcN), (1, .agg #[.int .i64 f, .slice pa0 l.length pc0]), (3, .pointer (some ⟨g2, 0, none⟩)), (4, .slice none 0 0), (7, .int .i64 ((((x.1 + 1) : Nat) : Int))), (10, .bool ((decide ((f : Int) < (0 : Int))))), (40, .bool ((decide ((((x.1 : Nat) : Int) : Int) < (((l.length : Nat) : Int) : Int)))))]) ⟨rfl, rfl, rfl, rfl, rfl, rfl, rfl, trivial⟩ ?_)
        refine WE.round ((x.1 + 1, raN, rcN)) ⟨rfl, rfl, rfl, rfl, rfl, rfl, trivial⟩ ?_ ?_
        · have hs88 : Chg ((fun b => (Value.slice ra ns.length rc).ownBlock = some b ∨ w.heap.size ≤ b)) w w86 := (Chg.trans2 (Chg.trans2 (Chg.refl ((fun b => (Value.slice ra ns.length rc).ownBlock = some b ∨ w.heap.size ≤ b)) _) hc81 (fun i h1 h2 => by first | exact h2 | exact .inl ⟨h2, h1⟩ | exact .inl h2 | exact .inr h2 | exact .inr (.inl h2) | exact .inr (.inr h2) | ((try dsimp only at *); omega))) hcN2 (fun i h1 h2 => by first | exact h2 | exact .inl ⟨h2, h1⟩ | exact .inl h2 | exact .inr h2 | exact .inr (.inl h2) | exact .inr (.inr h2) | ((try dsimp only at *); omega)))
          exact ⟨by (try dsimp only); omega, hown2, hI2, hB87, (by dsimp only; exact hrowN), hs88⟩
        · (try dsimp only); omega
      · have h82 : ¬ ((((x.1 : Nat) : Int) : Int) < (((l.length : Nat) : Int) : Int)) := by simpa using h82
        refine WC.exit ?_
        refine WE.thenExit ?_
        refine WE.thenExit ?_
        refine WE.blockIs rfl ?_
        refine WE.next ?_
        refine WC.seq ?_
        refine WC.region ?_
        refine WL.val (.slice x.2.1 ((T.rnL (l.take x.1) ns).2.length) x.2.2) rfl rfl rfl (fun za zC zh zk => wp_move rfl (zh.ev rfl) zk) ?_
        refine WL.val (.slice x.2.1 ((T.rnL (l.take x.1) ns).2.length) x.2.2) rfl rfl rfl (fun za zC zh zk => wp_assign rfl (zh.ev rfl) zk) ?_
        refine WL.nil (WE.sub (K' := [(0, .slice x.2.1 ((T.rnL (l.take x.1) ns).2.length) x.2.2), (1, .agg #[.int .i64 f, .slice pa0 l.length pc0]), (3, .pointer (some ⟨g2, 0, none⟩)), (4, .slice x.2.1 ((T.rnL (l.take x.1) ns).2.length) x.2.2), (7, .int .i64 (((x.1 : Nat) : Int))), (10, .bool ((decide ((f : Int) < (0 : Int))))), (40, .bool ((decide ((((x.1 : Nat) : Int) : Int) < (((l.length : Nat) : Int) : Int)))))]) ⟨rfl, rfl, rfl, rfl, rfl, rfl, rfl, trivial⟩ ?_)
        refine WE.next ?_
        refine WC.ret ?_
        refine WE.ret1 rfl rfl ?_
        have hs89 : Chg ((fun b => (Value.slice ra ns.length rc).ownBlock = some b ∨ w.heap.size ≤ b)) w w77 := (Chg.trans2 (Chg.refl ((fun b => (Value.slice ra ns.length rc).ownBlock = some b ∨ w.heap.size ≤ b)) _) hc81 (fun i h1 h2 => by first | exact h2 | exact .inl ⟨h2, h1⟩ | exact .inl h2 | exact .inr h2 | exact .inr (.inl h2) | exact .inr (.inr h2) | ((try dsimp only at *); omega)))
        have hN9 : ((T.mk f l).rn ns).2 = (T.rnL (l.take x.1) ns).2 := by rw [List.take_of_length_le (by omega)]; exact rn_names (fun q => absurd q ‹_›) (fun _ => rfl)
        rw [hN9]
        exact ⟨_, rfl, ⟨_, _, rfl, ho80, fun b q => (hown b q).imp id And.left, hIk⟩, (Chg.refl (fun b => (Value.slice ra ns.length rc).ownBlock = some b) w).trans2 hs89 (fun b hl q => q.elim id (fun q => by omega))⟩

end Go.Proofs.Ytgechlgdnnpoeaa

/- What clear does to a row of bindings. -/
namespace Go.Proofs.Ytgechlgdnnpoeaa
open Go.RowKit Go

theorem zeroCells_one (z : Array Value) (hz : ∀ v ∈ z, v.oneCell' = true) (hs : 0 < z.size) (n : Nat) : ∀ v ∈ (Builtin.zeroCells z n).toList, v.oneCell' = true := by
  intro v hv
  unfold Builtin.zeroCells at hv
  simp only [Array.toList_map, Array.toList_range, List.mem_map, List.mem_range] at hv
  obtain ⟨i, _, rfl⟩ := hv
  have hlt : i % z.size < z.size := Nat.mod_lt _ hs
  rw [getElem!_pos z _ hlt]
  exact hz _ (Array.getElem_mem hlt)
set_option maxRecDepth 100000 in
theorem run_clearB {w : World} {B rc n g i m c : Nat} {L : List Bd} (h : RowE eltB w B 56 (some ⟨g, 0, none⟩) rc n L) (hm : i + m = n) (h0 : 0 < m) (ty : TypeId) : ∃ vs, (Builtin.clear_ #[23] ty #[.slice (some ⟨g, 0 + i * 3, none⟩) m c]).run Try.prog w = .ok (.tuple #[]) (w.setCells g (0 + i * 3) vs) := by
  obtain ⟨cur, ds, h1, rfl, h3, h4, h5, h6, h7, h8, h9⟩ := h.open3
  refine ⟨(Builtin.zeroCells #[.int .i64 0, .int .i64 0, .slice none 0 0] m).toList, ?_⟩
  have hst := run_storeCells_cells (P := Try.prog) g (0 + i * 3) (Builtin.zeroCells #[.int .i64 0, .int .i64 0, .slice none 0 0] m).toList 0 w
    (fun j hj => by rw [h1.cell, Array.getElem?_eq_getElem (by simp [Builtin.zeroCells] at hj; omega)]; rfl) (fun j hj => h1.frozen _) (zeroCells_one _ (by simp [Value.oneCell']) (by decide) m)
  rw [Nat.add_zero] at hst
  have hz : ∀ w, (zeroValue 56).run Try.prog w = .ok (.agg #[.int .i64 0, .int .i64 0, .slice none 0 0]) w := fun w => rfl
  have hu : ∀ w, (underlying 23).run Try.prog w = .ok (.slice 56) w := fun w => rfl
  obtain ⟨m', rfl⟩ : ∃ m', m = m' + 1 := ⟨m - 1, by omega⟩
  generalize 0 + i * 3 = q at *
  simp [Builtin.clear_, hu, hz, hst, Value.cells]
theorem wp_clearB {o : Oper} {x : Operand} {a : Act} {w : World} {K : Act → World → Prop} {Q : Exit → Act → World → Prop} {B rc n g i m c : Nat} {L : List Bd} (ho : o.op = .call { callee := .builtin .clear, args := #[x], argTypes := #[23] }) (hx : a.eval x = .slice (some ⟨g, 0 + i * 3, none⟩) m c)
    (h : RowE eltB w B 56 (some ⟨g, 0, none⟩) rc n L) (hm : i + m = n) (h0 : 0 < m) (hK : ∀ w', Upd g w w' → RowE eltB w' B 56 (some ⟨g, 0, none⟩) rc i (L.take i) → K (a.put o.dst (.tuple #[])) w') : o.wp Try.prog a w K Q := by
  obtain ⟨vs, hcl⟩ := run_clearB (c := c) h hm h0 o.type
  obtain ⟨h1, h2⟩ := h.cut3 (i := i) (by omega) vs
  unfold Oper.wp execOp
  simp only [ho, resolve, invoke, builtin, Sem.run_bind, Sem.run_pure, Result.andThen_ok, List.map_toArray, List.map_cons, List.map_nil, hx, hcl]
  exact hK _ h2 h1

end Go.Proofs.Ytgechlgdnnpoeaa

namespace Go.Proofs.Ytgechlgdnnpoeaa
open Go.RowKit Go.Sort Go.Shelf Go

set_option maxHeartbeats 1000000 in
theorem comp1_any (x y : BdV) (W : World) : Calls Try.prog 37 #[.agg #[.int .i64 x.1.var, normB x.2.1, normB x.2.2], .agg #[.int .i64 y.1.var, normB y.2.1, normB y.2.2]] W fun e w' => e = .returned (.int .i64 (cmpB x y)) ∧ ∃ q os', w' = grow (W.drewN q) os' := by
  have hcon := fun W' => AnyG.cmp_Compare_int Try.lCmpInt x.1.var y.1.var W'
  change ∀ W', Calls Try.prog 38 _ _ _ at hcon
  unfold cmpB
  have o1 := normB_one x.2.1
  have o2 := normB_one x.2.2
  have o3 := normB_one y.2.1
  have o4 := normB_one y.2.2
  generalize Lib.compareInt x.1.var y.1.var = r at hcon ⊢
  generalize normB x.2.1 = a1 at *
  generalize normB x.2.2 = a2 at *
  generalize normB y.2.1 = a3 at *
  generalize normB y.2.2 = a4 at *
  go_enter Try.func37, Try.ntmps37
  go_wp2_with (go_at_call 38; refine (hcon _).mono ?_; rintro e w' ⟨rfl, rfl⟩)
  go_ret
  exact ⟨rfl, 0, _, by rw [alloc_eq_grow, alloc_eq_grow, grow_grow]; rfl⟩
theorem cmpIs_comp : CmpIs 37 := ⟨enters_of Try.func37 (by kernel_rfl) rfl, fun x y W => comp1_any x y W⟩

end Go.Proofs.Ytgechlgdnnpoeaa
