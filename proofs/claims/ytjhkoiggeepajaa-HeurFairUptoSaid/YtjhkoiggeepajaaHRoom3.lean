/- A room: whose turn it is. -/
import Derived.Test.YtjhkoiggeepajaaHRoom2
import Derived.Test.YtjhkoiggeepajaaBoxC
namespace Go.Proofs.Ytjhkoiggeepajaa
open Go.RowKit Go
set_option linter.unusedVariables false
set_option linter.unusedSimpArgs false

theorem remn_3 {w : World} {a : Act} {K : Act → World → Prop} {Q : Exit → Act → World → Prop} {o : Oper} {x y : Operand} {m n : Nat} (ho : o.op = .binOp .rem 3 x y 3) (hx : a.eval x = .int .i64 (m : Int)) (hy : a.eval y = .int .i64 (n : Int)) (h0 : 0 < n) (hK : K (a.put o.dst (.int .i64 ((m % n : Nat) : Int))) w) : o.wp Try.prog a w K Q :=
  rem_3 ho hx hy (by omega) (by rw [show ((m : Nat) : Int).tmod (n : Int) = ((m % n : Nat) : Int) from by rw [Int.tmod_eq_emod_of_nonneg (by omega)]; omega]; exact hK)
/-- What stands of the room's box, by how many have been stored. -/
def RV (r : Nat) (Cs : List (Array Value)) (vals : List Value) (w : World) : Prop := Blk w r 72 (Cs.getD vals.length #[])
theorem RV.below {r : Nat} {Cs : List (Array Value)} (vals : List Value) (w w' : World) (hb : Below w.heap.size w w') (h : RV r Cs vals w) : RV r Cs vals w' := Blk.below h hb
set_option maxRecDepth 100000 in
theorem next_any (r : Nat) (Z : Nat → Prop) (q : List Qu) (ws : List Wt) (times at_ dn : Nat) (w : World) (hR0 : RoomIs w r Z q ws times at_ dn) (htm : times < 100000000) :
    Calls Try.prog 13 #[.pointer (some ⟨r, 0, none⟩)] w (Ret fun v' w' => (ws = [] ∧ v' = .tuple #[.int .i64 0, .bool false] ∧ Below w.heap.size w w') ∨ (∃ x ∈ ws, (∀ x' ∈ ws, (itemOf (qget q at_).by_ x).le (itemOf (qget q at_).by_ x')) ∧ v' = .tuple #[.int .i64 x.id, .bool true] ∧ RoomIs w' r (fun b => Z b ∨ w.heap.size ≤ b) q (dropW ws x.id) times (tick q at_ dn).1 (tick q at_ dn).2 ∧ Chg Z w w')) := by
  obtain ⟨mb, gq, gh, qc, hcp, hb, S, Ls, es, cl, hB, hQ, hH, hM, hE, hP, ⟨zr1, zr2, zr3, zr4, zr5, zr6⟩, hR⟩ := hR0.ex
  have hok := hR0.ok
  obtain ⟨hq1, hq8, hqk⟩ := qsOk_at hR0.qs
  have hat := hR0.at_lt
  have hdn := hR0.dn_lt
  have hrm := hM.neBlk hB
  have hrq : r ≠ gq := by obtain ⟨c1, q⟩ := hQ.blk; exact blk_ne hB q (by decide)
  have hrh : r ≠ gh := by obtain ⟨c1, q⟩ := hH.blk; exact blk_ne hB q (by decide)
  have hqm : gq ≠ mb := by obtain ⟨c1, q⟩ := hQ.blk; exact hM.neBlk q
  have hhm : gh ≠ mb := by obtain ⟨c1, q⟩ := hH.blk; exact hM.neBlk q
  have hC0 := Chg.refl Z w
  refine Calls.walk (l := [.pointer (some ⟨r, 0, none⟩)]) Try.func13 rfl (by kernel_rfl) ?_
  refine WC.sub (K' := [(0, .pointer (some ⟨r, 0, none⟩))]) ⟨rfl, trivial⟩ ?_
  refine WC.seq ?_
  refine WC.region ?_
  refine WL.val (.int .i64 0) rfl rfl rfl (fun za zC zh zk => wp_assign rfl (zh.ev rfl) zk) ?_
  refine WL.val (.bool false) rfl rfl rfl (fun za zC zh zk => wp_assign rfl (zh.ev rfl) zk) ?_
  refine WL.nil (WE.sub (K' := [(0, .pointer (some ⟨r, 0, none⟩)), (2, .int .i64 0), (3, .bool false)]) ⟨rfl, rfl, rfl, trivial⟩ ?_)
  refine WE.next ?_
  refine WC.seq ?_
  refine WC.seq ?_
  refine WC.region ?_
  refine WL.val (.pointer (some ⟨r, 0, none⟩)) rfl rfl rfl (fun za zC zh zk => wp_move rfl (zh.ev rfl) zk) ?_
  refine WL.val (.bool false) rfl rfl rfl (fun za zC zh zk => eqlp_33 rfl (zh.ev rfl) (zh.ev rfl) zk) ?_
  refine WL.val (.bool false) rfl rfl rfl (fun za zC zh zk => wp_move rfl (zh.ev rfl) zk) ?_
  refine WL.want (d := 8) rfl rfl rfl ?_
  refine WL.val (.pointer (some ⟨r, 0, none⟩)) rfl rfl rfl (fun za zC zh zk => wp_move rfl (zh.ev rfl) zk) ?_
  refine WL.want (d := 8) rfl rfl rfl ?_
  refine WL.val (.pointer (some ⟨r, 0, none⟩)) rfl rfl rfl (fun za zC zh zk => nilCheck_ rfl (zh.ev rfl) zk) ?_
  refine WL.want (d := 8) rfl rfl rfl ?_
  refine WL.val (.pointer (some ⟨r, 2, none⟩)) rfl rfl rfl (fun za zC zh zk => fld_72_2 rfl (zh.ev rfl) zk) ?_
  refine WL.want (d := 8) rfl rfl rfl ?_
  refine WL.val (.map ((some mb))) rfl rfl rfl (fun za zC zh zk => ld_69 rfl (zh.ev rfl) ((hB.cell 2).trans rfl) zk) ?_
  refine WL.want (d := 8) rfl rfl rfl ?_
  refine WL.val (.int .i64 ((((wmM ws).length : Nat) : Int))) rfl rfl rfl (fun za zC zh zk => wp_lenMap_im Try.underlying69 hM hE rfl (zh.ev rfl) zk) ?_
  refine WL.want (d := 8) rfl rfl rfl ?_
  refine WL.val (.bool ((((((wmM ws).length : Nat) : Int) : Int) == (0 : Int)))) rfl rfl rfl (fun za zC zh zk => eql_3 rfl (zh.ev rfl) (zh.ev rfl) zk) ?_
  refine WL.val (.bool ((((((wmM ws).length : Nat) : Int) : Int) == (0 : Int)))) rfl rfl rfl (fun za zC zh zk => wp_pickF rfl (zh.ev rfl) (zh.ev rfl) zk) ?_
  refine WL.nil (WE.sub (K' := [(0, .pointer (some ⟨r, 0, none⟩)), (2, .int .i64 0), (3, .bool false), (15, .bool ((((((wmM ws).length : Nat) : Int) : Int) == (0 : Int))))]) ⟨rfl, rfl, rfl, rfl, trivial⟩ ?_)
  refine WE.next ?_
  refine WC.cond rfl (fun h1 => ?_) (fun h1 => ?_)
  · have h1 : ((((wmM ws).length : Nat) : Int) : Int) = (0 : Int) := by simpa using h1
    have hwl : (wmM ws).length = ws.length := by simp [wmM]
    refine WC.seq ?_
    refine WC.region ?_
    refine WL.val (.int .i64 0) rfl rfl rfl (fun za zC zh zk => wp_assign rfl (zh.ev rfl) zk) ?_
    refine WL.val (.bool false) rfl rfl rfl (fun za zC zh zk => wp_assign rfl (zh.ev rfl) zk) ?_
    refine WL.nil (WE.sub (K' := [(0, .pointer (some ⟨r, 0, none⟩)), (2, .int .i64 0), (3, .bool false), (15, .bool ((((((wmM ws).length : Nat) : Int) : Int) == (0 : Int))))]) ⟨rfl, rfl, rfl, rfl, trivial⟩ ?_)
    refine WE.next ?_
    refine WC.ret ?_
    refine WE.thenRet ?_
    refine WE.ret2 rfl rfl rfl ?_
    exact ⟨_, rfl, .inl ⟨List.eq_nil_of_length_eq_zero (by omega), rfl, (Below.refl _ _)⟩⟩
  · have h1 : ¬ (((((wmM ws).length : Nat) : Int) : Int) = (0 : Int)) := by simpa using h1
    have hwl : (wmM ws).length = ws.length := by simp [wmM]
    have hw0 : 0 < ws.length := by omega
    refine WC.skip ?_
    refine WE.next ?_
    refine WC.block ?_
    refine WC.loop (X := (Nat → Nat → Prop) × (Nat → List It)) (fun y => (y.2 at_).length) (fun y => [(0, .pointer (some ⟨r, 0, none⟩)), (15, .bool ((((((wmM ws).length : Nat) : Int) : Int) == (0 : Int))))]) (fun y w2 => Hps w2 [r, mb, gq, gh] q.length hb y.1 y.2 ∧ (∀ k b, k < q.length → y.1 k b → Z b ∨ w.heap.size ≤ b) ∧ (∀ k, k < q.length → Rel (qget q k).by_ ws (y.2 k) times) ∧ Chg Z w w2 ∧ Blk w2 r 72 #[.slice ((some ⟨gq, 0, none⟩)) q.length qc, .slice ((some ⟨gh, 0, none⟩)) q.length hcp, .map ((some mb)), .int .i64 (((times : Nat) : Int)), .int .i64 (((at_ : Nat) : Int)), .int .i64 (((dn : Nat) : Int))] ∧ ObjAt (w2) mb (.map es cl) ∧ QB (w2) gq q ∧ HB (w2) gh q.length hb) (⟨S, Ls⟩) ⟨rfl, rfl, trivial⟩ ?_ ?_
    · exact ⟨hP, fun k b hk hS => .inl (zr6 k b hk hS), hR, hC0, hB, hM, hQ, hH⟩
    · rintro y w2 ⟨hP, hzs, hRl, hC, hB3, ho4, ho5, ho6⟩
      refine WC.block ?_
      refine WC.seq ?_
      have hLpos : 0 < (y.2 at_).length := List.length_pos_of_mem ((hRl at_ hat).has _ (List.getElem_mem hw0))
      have hCw := hC
      have hln := (hRl at_ hat).len
      have hbl : ∀ b, (b = hb at_ ∨ y.1 at_ b) → b < w2.heap.size := fun b z => Or.elim z (fun e => e ▸ (hP.at_ at_ hat).lt) (fun e => hP.lt at_ b hat e)
      have hnr : ¬ (r = hb at_ ∨ y.1 at_ r) := hP.no hat (by simp)
      have hnh : ¬ (gh = hb at_ ∨ y.1 at_ gh) := hP.no hat (by simp)
      have hnq : ¬ (gq = hb at_ ∨ y.1 at_ gq) := hP.no hat (by simp)
      have hnm : ¬ (mb = hb at_ ∨ y.1 at_ mb) := hP.no hat (by simp)
      refine WC.boxC ((fun b => b = hb at_ ∨ y.1 at_ b)) hbl ((fun w' v => v = .tuple #[.agg #[.int .i64 ((hget (y.2 at_) 0).b0), .int .i64 ((hget (y.2 at_) 0).b1), .int .i64 ((hget (y.2 at_) 0).id), .int .i64 ((hget (y.2 at_) 0).tm)], .bool true] ∧ ∃ M, ((hget (y.2 at_) 0) :: M).Perm (y.2 at_) ∧ IsHeap M ∧ HeapAt w' (hb at_) (y.1 at_) M)) ((fun w1 w2 v h z => by obtain ⟨e, M, m1, m2, m3⟩ := z; exact ⟨e, M, m1, m2, m3.chg h (fun u => by have z2 := hbl (hb at_) (.inl rfl); omega) (fun b u1 u2 => by have z2 := hbl b (.inr u1); omega)⟩)) [(true, .pointer (some ⟨r, 0, none⟩)), (true, .pointer (some ⟨r, 0, none⟩)), (true, .pointer (some ⟨r, 1, none⟩)), (true, .slice ((some ⟨gh, 0, none⟩)) q.length hcp), (true, .pointer (some ⟨r, 0, none⟩)), (true, .pointer (some ⟨r, 0, none⟩)), (true, .pointer (some ⟨r, 4, none⟩)), (true, .int .i64 (((at_ : Nat) : Int))), (true, .pointer (some ⟨gh, 0 + at_, none⟩)), (true, .pointer (some ⟨(hb at_), 0, none⟩)), (true, undef), (true, .tuple #[.agg #[.int .i64 ((hget (y.2 at_) 0).b0), .int .i64 ((hget (y.2 at_) 0).b1), .int .i64 ((hget (y.2 at_) 0).id), .int .i64 ((hget (y.2 at_) 0).tm)], .bool true]), (true, .agg #[.int .i64 ((hget (y.2 at_) 0).b0), .int .i64 ((hget (y.2 at_) 0).b1), .int .i64 ((hget (y.2 at_) 0).id), .int .i64 ((hget (y.2 at_) 0).tm)]), (true, .bool true), (true, undef), (true, undef), (true, .bool true)] [(0, .pointer (some ⟨r, 0, none⟩)), (15, .bool ((((((wmM ws).length : Nat) : Int) : Int) == (0 : Int))))] (t := 75) (z := #[.int .i64 0, .int .i64 0, .int .i64 0, .int .i64 0]) (.agg #[.int .i64 ((hget (y.2 at_) 0).b0), .int .i64 ((hget (y.2 at_) 0).b1), .int .i64 ((hget (y.2 at_) 0).id), .int .i64 ((hget (y.2 at_) 0).tm)]) 10 14 15 4 (by decide) (by kernel_rfl) rfl ⟨rfl, rfl, trivial⟩ (by kernel_rfl) (by kernel_rfl) (by kernel_rfl) ?_ ?_
      · refine ⟨.inl ⟨rfl, rfl, fun za zw zc => ?_⟩, ?_⟩
        · exact wp_move rfl (zc.kn.ev rfl) ⟨_, rfl, Below.refl _ _, fun _ => rfl⟩
        refine ⟨.inl ⟨rfl, rfl, fun za zw zc => ?_⟩, ?_⟩
        · exact nilCheck_ rfl ((show za.eval (.tmp 17) = za.tmps.getD 17 undef from rfl).trans (valVal1 (zc.dep 0 17 (by kernel_rfl) (by decide)) rfl rfl)) ⟨_, rfl, Below.refl _ _, fun _ => rfl⟩
        refine ⟨.inl ⟨rfl, rfl, fun za zw zc => ?_⟩, ?_⟩
        · exact fld_72_1 rfl ((show za.eval (.tmp 18) = za.tmps.getD 18 undef from rfl).trans (valVal1 (zc.dep 1 18 (by kernel_rfl) (by decide)) rfl rfl)) ⟨_, rfl, Below.refl _ _, fun _ => rfl⟩
        refine ⟨.inl ⟨rfl, rfl, fun za zw zc => ?_⟩, ?_⟩
        · exact ld_70 rfl ((show za.eval (.tmp 19) = za.tmps.getD 19 undef from rfl).trans (valVal1 (zc.dep 2 19 (by kernel_rfl) (by decide)) rfl rfl)) (bkeeps (zc.below (.inr (by kernel_rfl))) _ _ ((hB3.cell 1).trans rfl)) ⟨_, rfl, Below.refl _ _, fun _ => rfl⟩
        refine ⟨.inl ⟨rfl, rfl, fun za zw zc => ?_⟩, ?_⟩
        · exact wp_move rfl (zc.kn.ev rfl) ⟨_, rfl, Below.refl _ _, fun _ => rfl⟩
        refine ⟨.inl ⟨rfl, rfl, fun za zw zc => ?_⟩, ?_⟩
        · exact nilCheck_ rfl ((show za.eval (.tmp 21) = za.tmps.getD 21 undef from rfl).trans (valVal1 (zc.dep 4 21 (by kernel_rfl) (by decide)) rfl rfl)) ⟨_, rfl, Below.refl _ _, fun _ => rfl⟩
        refine ⟨.inl ⟨rfl, rfl, fun za zw zc => ?_⟩, ?_⟩
        · exact fld_72_4 rfl ((show za.eval (.tmp 22) = za.tmps.getD 22 undef from rfl).trans (valVal1 (zc.dep 5 22 (by kernel_rfl) (by decide)) rfl rfl)) ⟨_, rfl, Below.refl _ _, fun _ => rfl⟩
        refine ⟨.inl ⟨rfl, rfl, fun za zw zc => ?_⟩, ?_⟩
        · exact ld_3 rfl ((show za.eval (.tmp 23) = za.tmps.getD 23 undef from rfl).trans (valVal1 (zc.dep 6 23 (by kernel_rfl) (by decide)) rfl rfl)) (bkeeps (zc.below (.inr (by kernel_rfl))) _ _ ((hB3.cell 4).trans rfl)) ⟨_, rfl, Below.refl _ _, fun _ => rfl⟩
        refine ⟨.inl ⟨rfl, rfl, fun za zw zc => ?_⟩, ?_⟩
        · exact ix_70 (k := at_) rfl ((show za.eval (.tmp 20) = za.tmps.getD 20 undef from rfl).trans (valVal1 (zc.dep 3 20 (by kernel_rfl) (by decide)) rfl rfl)) rfl ((show za.eval (.tmp 24) = za.tmps.getD 24 undef from rfl).trans (valVal1 (zc.dep 7 24 (by kernel_rfl) (by decide)) rfl rfl)) (by first | omega | (simp; omega)) ⟨_, rfl, Below.refl _ _, fun _ => rfl⟩
        refine ⟨.inl ⟨rfl, rfl, fun za zw zc => ?_⟩, ?_⟩
        · exact ld_73 rfl ((show za.eval (.tmp 25) = za.tmps.getD 25 undef from rfl).trans (valVal1 (zc.dep 8 25 (by kernel_rfl) (by decide)) rfl rfl)) (bkeeps (zc.below (.inr (by kernel_rfl))) _ _ (ho6.row at_ (by first | omega | (simp; omega)))) ⟨_, rfl, Below.refl _ _, fun _ => rfl⟩
        refine ⟨.inr (.inl ⟨rfl, rfl, fun za zw zc => ?_⟩), ?_⟩
        · exact wp_call (by kernel_rfl) rfl (hv1 ((show za.eval (.tmp 26) = za.tmps.getD 26 undef from rfl).trans (valVal1 (zc.dep 9 26 (by kernel_rfl) (by decide)) rfl rfl))) (pop_any (y.2 at_) zw (hb at_) (y.1 at_) ((hP.at_ at_ hat).below (zc.below (.inl rfl))) (hP.heap at_ hat) (hP.sep at_ at_ hat hat) (by omega)) (fun v w2 h => by
            rcases h with ⟨e, _⟩ | ⟨_, e, M, m1, m2, m3, m4⟩
            · rw [e] at hLpos; simp at hLpos
            · exact ⟨v, rfl, m4, e, M, m1, m2, m3⟩)
        refine ⟨.inl ⟨rfl, rfl, fun za zw zc => ?_⟩, ?_⟩
        · exact wp_move rfl ((show za.eval (.tmp 27) = za.tmps.getD 27 undef from rfl).trans (zc.made 27 (by kernel_rfl)).1) ⟨_, rfl, Below.refl _ _, fun _ => rfl⟩
        refine ⟨.inl ⟨rfl, rfl, fun za zw zc => ?_⟩, ?_⟩
        · exact ext2_0 rfl ((show za.eval (.tmp 16) = za.tmps.getD 16 undef from rfl).trans (valVal1 (zc.dep 11 16 (by kernel_rfl) (by decide)) rfl rfl)) ⟨_, rfl, Below.refl _ _, fun _ => rfl⟩
        refine ⟨.inl ⟨rfl, rfl, fun za zw zc => ?_⟩, ?_⟩
        · exact ext2_1 rfl ((show za.eval (.tmp 16) = za.tmps.getD 16 undef from rfl).trans (valVal1 (zc.dep 11 16 (by kernel_rfl) (by decide)) rfl rfl)) ⟨_, rfl, Below.refl _ _, fun _ => rfl⟩
        refine ⟨.inr (.inr (.inl ⟨rfl, rfl, fun za zw zc => ?_⟩)), ?_⟩
        · exact alloc_75 rfl ⟨rfl, rfl⟩
        refine ⟨.inr (.inr (.inr ⟨rfl, rfl, 4, by kernel_rfl, fun za zw g zc z1 zB => ?_⟩)), ?_⟩
        · exact st_75 rfl ((show za.eval (.tmp 4) = za.tmps.getD 4 undef from rfl).trans z1) ((show za.eval (.tmp 28) = za.tmps.getD 28 undef from rfl).trans (valVal1 (zc.dep 12 28 (by kernel_rfl) (by decide)) rfl rfl)) rfl rfl rfl rfl zB (by first | decide | simp) (fun v => ⟨v, rfl, (((Upd.at_ _ _ _ _).trans (Upd.at_ _ _ _ _)).trans (Upd.at_ _ _ _ _)).trans (Upd.at_ _ _ _ _), (((zB.set_ 0 _).set_ 1 _).set_ 2 _).set_ 3 _⟩)
        refine ⟨.inl ⟨rfl, rfl, fun za zw zc => ?_⟩, ?_⟩
        · exact wp_assign rfl ((show za.eval (.tmp 29) = za.tmps.getD 29 undef from rfl).trans (valVal1 (zc.dep 13 29 (by kernel_rfl) (by decide)) rfl rfl)) ⟨_, rfl, Below.refl _ _, fun _ => rfl⟩
        exact trivial
      · intro za w7 gz8 v9 zh hc10 hq11 hg12 hB13 hp14 zu
        have hl15 : r < gz8 := by have z1 := hB3.lt; omega
        have hl16 : mb < gz8 := by have z1 := ho4.lt; omega
        have hl17 : gq < gz8 := by have z1 := ho5.lt; omega
        have hl18 : gh < gz8 := by have z1 := ho6.lt; omega
        have hB19 := chg_blk hB3 hc10 (by first | exact hnr | exact hnh | exact hnq | exact hnm)
        have ho20 := ho4.chg hc10 (by first | exact hnr | exact hnh | exact hnq | exact hnm)
        have ho21 := ho5.chg hc10 (by first | exact hnr | exact hnh | exact hnq | exact hnm)
        have ho22 := ho6.chg hc10 (by first | exact hnr | exact hnh | exact hnq | exact hnm)
        have zh := zh.cons (d := 4) hp14
        have zh := zh.cons (d := 5) (v := .bool true) (valVal1 (zu 16 5 (by kernel_rfl) (by decide)) rfl rfl)
        clear zu
        obtain ⟨_, M, hM1, hM2, hM3⟩ := hq11
        have hP23 := Hps.step hP hat hM2 (hM3.mono (fun b z _ => .inl z)) hc10
        have hC24 : Chg Z w w7 := Chg.trans2 hCw hc10 (fun i hi z => Or.elim z (fun e => e ▸ zr5 _ hat) (fun e => Or.elim (hzs _ _ hat e) id (fun u => by omega)))
        have hz25 : ∀ k b, k < q.length → (fun i b => if i = at_ then y.1 at_ b ∨ (w2.heap.size ≤ b ∧ b < w7.heap.size) else y.1 i b) k b → Z b ∨ w.heap.size ≤ b := fun k b hk2 z => by
          dsimp only at z
          split at z
          · rcases z with z | z
            · exact hzs _ _ hat z
            · have u := hCw.size; exact .inr (by omega)
          · exact hzs _ _ hk2 z
        refine (show WE _ [(0, .pointer (some ⟨r, 0, none⟩)), (4, .pointer (some ⟨gz8, 0, none⟩)), (5, .bool true), (15, .bool ((((((wmM ws).length : Nat) : Int) : Int) == (0 : Int))))] w7 _ .normal from ?_) za (zh.sub ⟨rfl, rfl, rfl, rfl, trivial⟩)
        refine WE.next ?_
        refine WC.seq ?_
        refine WC.seq ?_
        refine WC.region ?_
        refine WL.val (.bool true) rfl rfl rfl (fun za zC zh zk => wp_move rfl (zh.ev rfl) zk) ?_
        refine WL.val (.bool false) rfl rfl rfl (fun za zC zh zk => wp_not rfl (zh.ev rfl) zk) ?_
        refine WL.nil (WE.sub (K' := [(0, .pointer (some ⟨r, 0, none⟩)), (4, .pointer (some ⟨gz8, 0, none⟩)), (5, .bool true), (15, .bool ((((((wmM ws).length : Nat) : Int) : Int) == (0 : Int)))), (31, .bool false)]) ⟨rfl, rfl, rfl, rfl, rfl, trivial⟩ ?_)
        refine WE.next ?_
        refine WC.condF rfl rfl ?_
        refine WC.skip ?_
        refine WE.next ?_
        refine WC.seq ?_
        refine WC.seq ?_
        refine WC.opt [(true, .val (.pointer (some ⟨r, 0, none⟩))), (true, .val (.pointer (some ⟨r, 0, none⟩))), (true, .val (.pointer (some ⟨r, 2, none⟩))), (true, .val (.map ((some mb)))), (true, .val (.pointer (some ⟨gz8, 2, none⟩))), (true, .val (.int .i64 ((hget (y.2 at_) 0).id))), (true, .val (.int .i64 ((((tmOf ws ((hget (y.2 at_) 0).id)) : Nat) : Int)))), (true, .val (.pointer (some ⟨gz8, 3, none⟩))), (true, .val (.int .i64 ((hget (y.2 at_) 0).tm))), (true, .val (.bool ((((((tmOf ws ((hget (y.2 at_) 0).id)) : Nat) : Int) : Int) != ((hget (y.2 at_) 0).tm : Int)))))] [(0, .pointer (some ⟨r, 0, none⟩)), (4, .pointer (some ⟨gz8, 0, none⟩)), (5, .bool true), (15, .bool ((((((wmM ws).length : Nat) : Int) : Int) == (0 : Int)))), (31, .bool false)] ⟨rfl, rfl, rfl, rfl, rfl, trivial⟩ (by kernel_rfl) (by kernel_rfl) (by kernel_rfl) ?_ ?_
        · refine ⟨⟨true, .none rfl, fun h w => optUndef h, fun zβ za zw zc => ?_⟩, ?_⟩
          · exact wp_move rfl (zc.kn.ev rfl) ⟨_, rfl, Below.refl _ _, optDef zβ rfl⟩
          refine ⟨⟨true, .none rfl, fun h w => optUndef h, fun zβ za zw zc => ?_⟩, ?_⟩
          · exact nilCheck_ rfl ((show za.eval (.tmp 32) = za.tmps.getD 32 undef from rfl).trans (optVal (zc.dep 0 32 (by kernel_rfl)) rfl rfl)) ⟨_, rfl, Below.refl _ _, optDef zβ rfl⟩
          refine ⟨⟨true, .none rfl, fun h w => optUndef h, fun zβ za zw zc => ?_⟩, ?_⟩
          · exact fld_72_2 rfl ((show za.eval (.tmp 33) = za.tmps.getD 33 undef from rfl).trans (optVal (zc.dep 1 33 (by kernel_rfl)) rfl rfl)) ⟨_, rfl, Below.refl _ _, optDef zβ rfl⟩
          refine ⟨⟨true, .none rfl, fun h w => optUndef h, fun zβ za zw zc => ?_⟩, ?_⟩
          · exact ld_69 rfl ((show za.eval (.tmp 34) = za.tmps.getD 34 undef from rfl).trans (optVal (zc.dep 2 34 (by kernel_rfl)) rfl rfl)) (bkeeps zc.below _ _ ((hB19.cell 2).trans rfl)) ⟨_, rfl, Below.refl _ _, optDef zβ rfl⟩
          refine ⟨⟨true, .none rfl, fun h w => optUndef h, fun zβ za zw zc => ?_⟩, ?_⟩
          · exact fld_75_1 rfl (zc.kn.ev rfl) ⟨_, rfl, Below.refl _ _, optDef zβ rfl⟩
          refine ⟨⟨true, .none rfl, fun h w => optUndef h, fun zβ za zw zc => ?_⟩, ?_⟩
          · exact ld_3 rfl ((show za.eval (.tmp 36) = za.tmps.getD 36 undef from rfl).trans (optVal (zc.dep 4 36 (by kernel_rfl)) rfl rfl)) (bkeeps zc.below _ _ ((hB13.cell 2).trans rfl)) ⟨_, rfl, Below.refl _ _, optDef zβ rfl⟩
          refine ⟨⟨true, .none rfl, fun h w => optUndef h, fun zβ za zw zc => ?_⟩, ?_⟩
          · exact wp_look_im Try.underlying69 Try.underlying3 (zero3 _) (ho20.below zc.below) hE rfl ((show za.eval (.tmp 35) = za.tmps.getD 35 undef from rfl).trans (optVal (zc.dep 3 35 (by kernel_rfl)) rfl rfl)) ((show za.eval (.tmp 37) = za.tmps.getD 37 undef from rfl).trans (optVal (zc.dep 5 37 (by kernel_rfl)) rfl rfl)) (by rw [look_wm]; exact ⟨_, rfl, Below.refl _ _, optDef zβ rfl⟩)
          refine ⟨⟨true, .none rfl, fun h w => optUndef h, fun zβ za zw zc => ?_⟩, ?_⟩
          · exact fld_75_2 rfl (zc.kn.ev rfl) ⟨_, rfl, Below.refl _ _, optDef zβ rfl⟩
          refine ⟨⟨true, .none rfl, fun h w => optUndef h, fun zβ za zw zc => ?_⟩, ?_⟩
          · exact ld_3 rfl ((show za.eval (.tmp 39) = za.tmps.getD 39 undef from rfl).trans (optVal (zc.dep 7 39 (by kernel_rfl)) rfl rfl)) (bkeeps zc.below _ _ ((hB13.cell 3).trans rfl)) ⟨_, rfl, Below.refl _ _, optDef zβ rfl⟩
          refine ⟨⟨true, .none rfl, fun h w => optUndef h, fun zβ za zw zc => ?_⟩, ?_⟩
          · exact neq_3 rfl ((show za.eval (.tmp 38) = za.tmps.getD 38 undef from rfl).trans (optVal (zc.dep 6 38 (by kernel_rfl)) rfl rfl)) ((show za.eval (.tmp 40) = za.tmps.getD 40 undef from rfl).trans (optVal (zc.dep 8 40 (by kernel_rfl)) rfl rfl)) ⟨_, rfl, Below.refl _ _, optDef zβ rfl⟩
          exact trivial
        · intro za w26 zh hb27 zu
          have zh := zh.cons (d := 41) (v := .bool ((((((tmOf ws ((hget (y.2 at_) 0).id)) : Nat) : Int) : Int) != ((hget (y.2 at_) 0).tm : Int)))) (optVal (zu 9 41 (by kernel_rfl)) rfl rfl)
          clear zu
          refine (show WE _ [(0, .pointer (some ⟨r, 0, none⟩)), (4, .pointer (some ⟨gz8, 0, none⟩)), (5, .bool true), (15, .bool ((((((wmM ws).length : Nat) : Int) : Int) == (0 : Int)))), (31, .bool false), (41, .bool ((((((tmOf ws ((hget (y.2 at_) 0).id)) : Nat) : Int) : Int) != ((hget (y.2 at_) 0).tm : Int))))] w26 _ .normal from ?_) za (zh.sub ⟨rfl, rfl, rfl, rfl, rfl, rfl, trivial⟩)
          refine WE.next ?_
          refine WC.cond rfl (fun h28 => ?_) (fun h28 => ?_)
          · have h28 : ((((tmOf ws ((hget (y.2 at_) 0).id)) : Nat) : Int) : Int) ≠ ((hget (y.2 at_) 0).tm : Int) := by simpa using h28
            refine WC.exit ?_
            refine WE.thenExit ?_
            refine WE.blockIs rfl ?_
            have hP29 := hP23.below hb27
            have hC30 := Chg.trans hC24 (.ofBelow hb27)
            refine WE.round (⟨(fun i b => if i = at_ then y.1 at_ b ∨ (w2.heap.size ≤ b ∧ b < w7.heap.size) else y.1 i b), (fun i => if i = at_ then M else y.2 i)⟩) ⟨rfl, rfl, trivial⟩ ?_ ?_
            · have hB31 := hB19.below hb27
              have ho32 := ho20.below hb27
              have ho33 := ho21.below hb27
              have ho34 := ho22.below hb27
              exact ⟨hP29, hz25, fun k hk => by
                  (try dsimp only)
                  by_cases e : k = at_
                  · subst e
                    rw [if_pos rfl]; exact (hRl k hk).stale hok hM1 (by omega)
                  · rw [if_neg e]; exact hRl k hk, hC30, hB31, ho32, ho33, ho34⟩
            · have z := hM1.length_eq
              simp only [if_true]
              simp only [List.length_cons] at z
              omega
          · have h28 : ¬ (((((tmOf ws ((hget (y.2 at_) 0).id)) : Nat) : Int) : Int) ≠ ((hget (y.2 at_) 0).tm : Int)) := by simpa using h28
            obtain ⟨⟨x, hx, e1, e2⟩, hrel⟩ := (hRl at_ hat).taken hok hM1 (by omega)
            refine WC.skip ?_
            refine WE.next ?_
            refine WC.seq ?_
            have hC35 := Chg.trans hC24 (.ofBelow hb27)
            have hP36 := hP23.below hb27
            have ho37 := ho21.below hb27
            have ho38 := ho22.below hb27
            have hB39 := hB19.below hb27
            have hB40 := hB13.below hb27
            have ho41 := ho20.below hb27
            refine WC.seqV (S := ((fun b => b = mb))) [(true, .val (.pointer (some ⟨r, 0, none⟩))), (true, .val (.pointer (some ⟨r, 0, none⟩))), (true, .val (.pointer (some ⟨r, 2, none⟩))), (true, .val (.map ((some mb)))), (true, .val (.pointer (some ⟨gz8, 2, none⟩))), (true, .val (.int .i64 ((hget (y.2 at_) 0).id))), (true, .val undef)] [(0, .pointer (some ⟨r, 0, none⟩)), (4, .pointer (some ⟨gz8, 0, none⟩)), (5, .bool true), (15, .bool ((((((wmM ws).length : Nat) : Int) : Int) == (0 : Int)))), (31, .bool false), (41, .bool ((((((tmOf ws ((hget (y.2 at_) 0).id)) : Nat) : Int) : Int) != ((hget (y.2 at_) 0).tm : Int))))] [6] [none] (fun vals w => ∃ es cl, ObjAt w mb (.map es cl) ∧ ImE es cl (List.getD [wmM ws, imDel (wmM ws) (hget (y.2 at_) 0).id] vals.length [])) ((fun _ _ _ hb h => by obtain ⟨e, c, h1, h2⟩ := h; exact ⟨e, c, h1.below hb, h2⟩)) (by decide) ⟨rfl, rfl, rfl, rfl, rfl, rfl, trivial⟩ (by kernel_rfl) (by kernel_rfl) (by kernel_rfl) (by kernel_rfl) (⟨_, _, ho41, hE⟩) ?_ ?_
            · refine ⟨.inl ⟨rfl, true, .none rfl, (fun gg b h => by cases h), fun h w => optUndef h, fun zβ za zw zc => ?_⟩, ?_⟩
              · exact wp_move rfl (zc.kn.ev rfl) ⟨_, rfl, Below.refl _ _, optDef zβ rfl⟩
              refine ⟨.inl ⟨rfl, true, .none rfl, (fun gg b h => by cases h), fun h w => optUndef h, fun zβ za zw zc => ?_⟩, ?_⟩
              · exact nilCheck_ rfl ((show za.eval (.tmp 42) = za.tmps.getD 42 undef from rfl).trans (optSVal (zc.dep 0 42 (by kernel_rfl) (by decide)) rfl rfl)) ⟨_, rfl, Below.refl _ _, optDef zβ rfl⟩
              refine ⟨.inl ⟨rfl, true, .none rfl, (fun gg b h => by cases h), fun h w => optUndef h, fun zβ za zw zc => ?_⟩, ?_⟩
              · exact fld_72_2 rfl ((show za.eval (.tmp 43) = za.tmps.getD 43 undef from rfl).trans (optSVal (zc.dep 1 43 (by kernel_rfl) (by decide)) rfl rfl)) ⟨_, rfl, Below.refl _ _, optDef zβ rfl⟩
              refine ⟨.inl ⟨rfl, true, .none rfl, (fun gg b h => by cases h), fun h w => optUndef h, fun zβ za zw zc => ?_⟩, ?_⟩
              · exact ld_69 rfl ((show za.eval (.tmp 44) = za.tmps.getD 44 undef from rfl).trans (optSVal (zc.dep 2 44 (by kernel_rfl) (by decide)) rfl rfl)) (chg_cell zc.chg (by (try dsimp only at *); omega) ((hB39.cell 2).trans rfl)) ⟨_, rfl, Below.refl _ _, optDef zβ rfl⟩
              refine ⟨.inl ⟨rfl, true, .none rfl, (fun gg b h => by cases h), fun h w => optUndef h, fun zβ za zw zc => ?_⟩, ?_⟩
              · exact fld_75_1 rfl (zc.kn.ev rfl) ⟨_, rfl, Below.refl _ _, optDef zβ rfl⟩
              refine ⟨.inl ⟨rfl, true, .none rfl, (fun gg b h => by cases h), fun h w => optUndef h, fun zβ za zw zc => ?_⟩, ?_⟩
              · exact ld_3 rfl ((show za.eval (.tmp 46) = za.tmps.getD 46 undef from rfl).trans (optSVal (zc.dep 4 46 (by kernel_rfl) (by decide)) rfl rfl)) (chg_cell zc.chg (by (try dsimp only at *); omega) ((hB40.cell 2).trans rfl)) ⟨_, rfl, Below.refl _ _, optDef zβ rfl⟩
              refine ⟨.inr ⟨0, rfl, by kernel_rfl, true, .none rfl, (fun gg b h => by cases h), (fun h => (nomatch h)), fun zβ za zw zvals zc => ?_⟩, ?_⟩
              · obtain rfl := vlen0 zc.len
                have zn := zc.now
                obtain ⟨es1, cl1, zM, zE⟩ := zn
                exact wp_del_im Try.underlying69 Try.underlying3 zM zE rfl ((show za.eval (.tmp 45) = za.tmps.getD 45 undef from rfl).trans (optSVal (zc.dep 3 45 (by kernel_rfl) (by decide)) rfl rfl)) ((show za.eval (.tmp 47) = za.tmps.getD 47 undef from rfl).trans (optSVal (zc.dep 5 47 (by kernel_rfl) (by decide)) rfl rfl)) (fun w2 es2 cl2 h1 h2 h3 => ⟨_, rfl, .ofUpd h3 rfl, ⟨es2, cl2, h1, h2⟩, fun b x e _ => by cases e⟩)
              exact trivial
            · intro za w42 zvals zh zl hG43 hc44 zu zw zk
              obtain ⟨z0, rfl⟩ := vlen1 zl
              obtain ⟨es45, cl46, hM47, hE48⟩ := hG43
              have hB51 := chg_blk hB39 hc44 (by (try dsimp only at *); omega)
              have hB52 := chg_blk hB40 hc44 (by (try dsimp only at *); omega)
              have ho53 := ho37.chg hc44 (by (try dsimp only at *); omega)
              have ho54 := ho38.chg hc44 (by (try dsimp only at *); omega)
              have hE48' : ImE es45 cl46 (wmM ((dropW ws (hget (y.2 at_) 0).id))) := by rw [← del_wm (hget (y.2 at_) 0).id ws hok.nd]; exact hE48
              have hP49 := hP36.chg hc44 ⟨fun k hk e => (hP36.ap mb (by simp)).2.1 k hk e.symm, fun k b hk hS e => (hP36.ap mb (by simp)).2.2 k hk (e ▸ hS)⟩
              have hC50 := Chg.trans2 hC35 hc44 (fun i _ q => q ▸ zr2)
              clear zu zw zk
              refine (show WE _ [(0, .pointer (some ⟨r, 0, none⟩)), (4, .pointer (some ⟨gz8, 0, none⟩)), (5, .bool true), (15, .bool ((((((wmM ws).length : Nat) : Int) : Int) == (0 : Int)))), (31, .bool false), (41, .bool ((((((tmOf ws ((hget (y.2 at_) 0).id)) : Nat) : Int) : Int) != ((hget (y.2 at_) 0).tm : Int))))] w42 _ .normal from ?_) za (zh.sub ⟨rfl, rfl, rfl, rfl, rfl, rfl, trivial⟩)
              refine WE.next ?_
              refine WC.seq ?_
              refine WC.seq ?_
              refine WC.region ?_
              refine WL.val (.pointer (some ⟨r, 0, none⟩)) rfl rfl rfl (fun za zC zh zk => wp_move rfl (zh.ev rfl) zk) ?_
              refine WL.val (.pointer (some ⟨r, 0, none⟩)) rfl rfl rfl (fun za zC zh zk => nilCheck_ rfl (zh.ev rfl) zk) ?_
              refine WL.val (.pointer (some ⟨r, 5, none⟩)) rfl rfl rfl (fun za zC zh zk => fld_72_5 rfl (zh.ev rfl) zk) ?_
              refine WL.val (.int .i64 (((dn : Nat) : Int))) rfl rfl rfl (fun za zC zh zk => ld_3 rfl (zh.ev rfl) ((hB51.cell 5).trans rfl) zk) ?_
              refine WL.val (.int .i64 ((((dn + 1) : Nat) : Int))) rfl rfl rfl (fun za zC zh zk => addb_3 rfl (zh.ev rfl) (zh.ev rfl) (wrap_eq (by omega) (by omega) (by omega)) zk) ?_
              refine WL.val (.pointer (some ⟨r, 0, none⟩)) rfl rfl rfl (fun za zC zh zk => nilCheck_ rfl (zh.ev rfl) zk) ?_
              refine WL.val (.pointer (some ⟨r, 5, none⟩)) rfl rfl rfl (fun za zC zh zk => fld_72_5 rfl (zh.ev rfl) zk) ?_
              refine WL.step (post := fun _ w' => Upd r w42 w' ∧ Blk w' r 72 #[.slice ((some ⟨gq, 0, none⟩)) q.length qc, .slice ((some ⟨gh, 0, none⟩)) q.length hcp, .map ((some mb)), .int .i64 (((times : Nat) : Int)), .int .i64 (((at_ : Nat) : Int)), .int .i64 ((((dn + 1) : Nat) : Int))]) rfl rfl rfl (fun za zC zh zk => st_3 rfl (zh.ev rfl) (zh.ev rfl) hB51 (by first | decide | simp) (fun v => zk v _ ⟨Upd.at_ _ _ _ _, hB51.set_ 5 _⟩)) ?_
              rintro v58 w55 ⟨hu56, hB57⟩
              have hB59 := upd_blk hB52 hu56 (by omega)
              have ho60 := ho53.upd hu56 (by omega)
              have ho61 := ho54.upd hu56 (by omega)
              have ho62 := hM47.upd hu56 (by omega)
              have hP63 := hP49.upd hu56 (by simp)
              have hC64 := Chg.trans2 hC50 (.ofUpd (S := fun b => b = r) hu56 rfl) (fun i _ q => q ▸ zr1)
              refine WL.nil (WE.sub (K' := [(0, .pointer (some ⟨r, 0, none⟩)), (4, .pointer (some ⟨gz8, 0, none⟩)), (5, .bool true), (15, .bool ((((((wmM ws).length : Nat) : Int) : Int) == (0 : Int)))), (31, .bool false), (41, .bool ((((((tmOf ws ((hget (y.2 at_) 0).id)) : Nat) : Int) : Int) != ((hget (y.2 at_) 0).tm : Int))))]) ⟨rfl, rfl, rfl, rfl, rfl, rfl, trivial⟩ ?_)
              refine WE.next ?_
              refine WC.seq ?_
              refine WC.opt [(true, .val (.pointer (some ⟨r, 0, none⟩))), (true, .val (.pointer (some ⟨r, 0, none⟩))), (true, .val (.pointer (some ⟨r, 5, none⟩))), (true, .val (.int .i64 ((((dn + 1) : Nat) : Int)))), (true, .val (.pointer (some ⟨r, 0, none⟩))), (true, .val (.pointer (some ⟨r, 0, none⟩))), (true, .val (.pointer (some ⟨r, 0, none⟩))), (true, .val (.slice ((some ⟨gq, 0, none⟩)) q.length qc)), (true, .val (.pointer (some ⟨r, 0, none⟩))), (true, .val (.pointer (some ⟨r, 0, none⟩))), (true, .val (.pointer (some ⟨r, 4, none⟩))), (true, .val (.int .i64 (((at_ : Nat) : Int)))), (true, .val (.pointer (some ⟨gq, 0 + at_ * 2, none⟩))), (true, .val (.pointer (some ⟨gq, 0 + at_ * 2 + 1, none⟩))), (true, .val (.int .i64 ((qget q at_).take))), (true, .val (.bool ((decide (((qget q at_).take : Int) ≤ ((((dn + 1) : Nat) : Int) : Int))))))] [(0, .pointer (some ⟨r, 0, none⟩)), (4, .pointer (some ⟨gz8, 0, none⟩)), (5, .bool true), (15, .bool ((((((wmM ws).length : Nat) : Int) : Int) == (0 : Int)))), (31, .bool false), (41, .bool ((((((tmOf ws ((hget (y.2 at_) 0).id)) : Nat) : Int) : Int) != ((hget (y.2 at_) 0).tm : Int))))] ⟨rfl, rfl, rfl, rfl, rfl, rfl, trivial⟩ (by kernel_rfl) (by kernel_rfl) (by kernel_rfl) ?_ ?_
              · refine ⟨⟨true, .none rfl, fun h w => optUndef h, fun zβ za zw zc => ?_⟩, ?_⟩
                · exact wp_move rfl (zc.kn.ev rfl) ⟨_, rfl, Below.refl _ _, optDef zβ rfl⟩
                refine ⟨⟨true, .none rfl, fun h w => optUndef h, fun zβ za zw zc => ?_⟩, ?_⟩
                · exact nilCheck_ rfl ((show za.eval (.tmp 55) = za.tmps.getD 55 undef from rfl).trans (optVal (zc.dep 0 55 (by kernel_rfl)) rfl rfl)) ⟨_, rfl, Below.refl _ _, optDef zβ rfl⟩
                refine ⟨⟨true, .none rfl, fun h w => optUndef h, fun zβ za zw zc => ?_⟩, ?_⟩
                · exact fld_72_5 rfl ((show za.eval (.tmp 56) = za.tmps.getD 56 undef from rfl).trans (optVal (zc.dep 1 56 (by kernel_rfl)) rfl rfl)) ⟨_, rfl, Below.refl _ _, optDef zβ rfl⟩
                refine ⟨⟨true, .none rfl, fun h w => optUndef h, fun zβ za zw zc => ?_⟩, ?_⟩
                · exact ld_3 rfl ((show za.eval (.tmp 57) = za.tmps.getD 57 undef from rfl).trans (optVal (zc.dep 2 57 (by kernel_rfl)) rfl rfl)) (bkeeps zc.below _ _ ((hB57.cell 5).trans rfl)) ⟨_, rfl, Below.refl _ _, optDef zβ rfl⟩
                refine ⟨⟨true, .none rfl, fun h w => optUndef h, fun zβ za zw zc => ?_⟩, ?_⟩
                · exact wp_move rfl (zc.kn.ev rfl) ⟨_, rfl, Below.refl _ _, optDef zβ rfl⟩
                refine ⟨⟨true, .none rfl, fun h w => optUndef h, fun zβ za zw zc => ?_⟩, ?_⟩
                · exact nilCheck_ rfl ((show za.eval (.tmp 59) = za.tmps.getD 59 undef from rfl).trans (optVal (zc.dep 4 59 (by kernel_rfl)) rfl rfl)) ⟨_, rfl, Below.refl _ _, optDef zβ rfl⟩
                refine ⟨⟨true, .none rfl, fun h w => optUndef h, fun zβ za zw zc => ?_⟩, ?_⟩
                · exact fld_72_0 rfl ((show za.eval (.tmp 60) = za.tmps.getD 60 undef from rfl).trans (optVal (zc.dep 5 60 (by kernel_rfl)) rfl rfl)) ⟨_, rfl, Below.refl _ _, optDef zβ rfl⟩
                refine ⟨⟨true, .none rfl, fun h w => optUndef h, fun zβ za zw zc => ?_⟩, ?_⟩
                · exact ld_30 rfl ((show za.eval (.tmp 61) = za.tmps.getD 61 undef from rfl).trans (optVal (zc.dep 6 61 (by kernel_rfl)) rfl rfl)) (bkeeps zc.below _ _ ((hB57.cell 0).trans rfl)) ⟨_, rfl, Below.refl _ _, optDef zβ rfl⟩
                refine ⟨⟨true, .none rfl, fun h w => optUndef h, fun zβ za zw zc => ?_⟩, ?_⟩
                · exact wp_move rfl (zc.kn.ev rfl) ⟨_, rfl, Below.refl _ _, optDef zβ rfl⟩
                refine ⟨⟨true, .none rfl, fun h w => optUndef h, fun zβ za zw zc => ?_⟩, ?_⟩
                · exact nilCheck_ rfl ((show za.eval (.tmp 63) = za.tmps.getD 63 undef from rfl).trans (optVal (zc.dep 8 63 (by kernel_rfl)) rfl rfl)) ⟨_, rfl, Below.refl _ _, optDef zβ rfl⟩
                refine ⟨⟨true, .none rfl, fun h w => optUndef h, fun zβ za zw zc => ?_⟩, ?_⟩
                · exact fld_72_4 rfl ((show za.eval (.tmp 64) = za.tmps.getD 64 undef from rfl).trans (optVal (zc.dep 9 64 (by kernel_rfl)) rfl rfl)) ⟨_, rfl, Below.refl _ _, optDef zβ rfl⟩
                refine ⟨⟨true, .none rfl, fun h w => optUndef h, fun zβ za zw zc => ?_⟩, ?_⟩
                · exact ld_3 rfl ((show za.eval (.tmp 65) = za.tmps.getD 65 undef from rfl).trans (optVal (zc.dep 10 65 (by kernel_rfl)) rfl rfl)) (bkeeps zc.below _ _ ((hB57.cell 4).trans rfl)) ⟨_, rfl, Below.refl _ _, optDef zβ rfl⟩
                refine ⟨⟨true, .none rfl, fun h w => optUndef h, fun zβ za zw zc => ?_⟩, ?_⟩
                · exact ix_30 (k := at_) rfl ((show za.eval (.tmp 62) = za.tmps.getD 62 undef from rfl).trans (optVal (zc.dep 7 62 (by kernel_rfl)) rfl rfl)) rfl ((show za.eval (.tmp 66) = za.tmps.getD 66 undef from rfl).trans (optVal (zc.dep 11 66 (by kernel_rfl)) rfl rfl)) (by first | omega | (simp; omega)) ⟨_, rfl, Below.refl _ _, optDef zβ rfl⟩
                refine ⟨⟨true, .none rfl, fun h w => optUndef h, fun zβ za zw zc => ?_⟩, ?_⟩
                · exact fld_38_1 rfl ((show za.eval (.tmp 67) = za.tmps.getD 67 undef from rfl).trans (optVal (zc.dep 12 67 (by kernel_rfl)) rfl rfl)) ⟨_, rfl, Below.refl _ _, optDef zβ rfl⟩
                refine ⟨⟨true, .none rfl, fun h w => optUndef h, fun zβ za zw zc => ?_⟩, ?_⟩
                · exact ld_3 rfl ((show za.eval (.tmp 68) = za.tmps.getD 68 undef from rfl).trans (optVal (zc.dep 13 68 (by kernel_rfl)) rfl rfl)) (bkeeps zc.below _ _ ((ho60.row at_ (by first | omega | (simp; omega))).2)) ⟨_, rfl, Below.refl _ _, optDef zβ rfl⟩
                refine ⟨⟨true, .none rfl, fun h w => optUndef h, fun zβ za zw zc => ?_⟩, ?_⟩
                · exact geq_3 rfl ((show za.eval (.tmp 58) = za.tmps.getD 58 undef from rfl).trans (optVal (zc.dep 3 58 (by kernel_rfl)) rfl rfl)) ((show za.eval (.tmp 69) = za.tmps.getD 69 undef from rfl).trans (optVal (zc.dep 14 69 (by kernel_rfl)) rfl rfl)) ⟨_, rfl, Below.refl _ _, optDef zβ rfl⟩
                exact trivial
              · intro za w65 zh hb66 zu
                have zh := zh.cons (d := 70) (v := .bool ((decide (((qget q at_).take : Int) ≤ ((((dn + 1) : Nat) : Int) : Int))))) (optVal (zu 15 70 (by kernel_rfl)) rfl rfl)
                clear zu
                refine (show WE _ [(0, .pointer (some ⟨r, 0, none⟩)), (4, .pointer (some ⟨gz8, 0, none⟩)), (5, .bool true), (15, .bool ((((((wmM ws).length : Nat) : Int) : Int) == (0 : Int)))), (31, .bool false), (41, .bool ((((((tmOf ws ((hget (y.2 at_) 0).id)) : Nat) : Int) : Int) != ((hget (y.2 at_) 0).tm : Int)))), (70, .bool ((decide (((qget q at_).take : Int) ≤ ((((dn + 1) : Nat) : Int) : Int)))))] w65 _ .normal from ?_) za (zh.sub ⟨rfl, rfl, rfl, rfl, rfl, rfl, rfl, trivial⟩)
                refine WE.next ?_
                refine WC.cond rfl (fun h67 => ?_) (fun h67 => ?_)
                · have h67 : ((qget q at_).take : Int) ≤ ((((dn + 1) : Nat) : Int) : Int) := by simpa using h67
                  have htk : tick q at_ dn = ((at_ + 1) % q.length, 0) := if_pos h67
                  have hC68 := Chg.trans hC64 (.ofBelow hb66)
                  have hP69 := hP63.below hb66
                  have hB70 := hB57.below hb66
                  have ho71 := ho60.below hb66
                  have ho72 := ho61.below hb66
                  have ho73 := ho62.below hb66
                  refine WC.seqV (S := ((fun b => b = r))) [(true, .val (.pointer (some ⟨r, 0, none⟩))), (true, .val (.pointer (some ⟨r, 0, none⟩))), (true, .val (.pointer (some ⟨r, 0, none⟩))), (true, .val (.pointer (some ⟨r, 0, none⟩))), (true, .val (.pointer (some ⟨r, 4, none⟩))), (true, .val (.int .i64 (((at_ : Nat) : Int)))), (true, .val (.int .i64 ((((at_ + 1) : Nat) : Int)))), (true, .val (.pointer (some ⟨r, 0, none⟩))), (true, .val (.pointer (some ⟨r, 0, none⟩))), (true, .val (.pointer (some ⟨r, 0, none⟩))), (true, .val (.slice ((some ⟨gq, 0, none⟩)) q.length qc)), (true, .val (.int .i64 (((q.length : Nat) : Int)))), (true, .val (.int .i64 (((((at_ + 1) % q.length) : Nat) : Int)))), (true, .val (.pointer (some ⟨r, 0, none⟩))), (true, .val (.pointer (some ⟨r, 5, none⟩))), (true, .val undef), (true, .val (.pointer (some ⟨r, 0, none⟩))), (true, .val (.pointer (some ⟨r, 4, none⟩))), (true, .val undef)] [(0, .pointer (some ⟨r, 0, none⟩)), (4, .pointer (some ⟨gz8, 0, none⟩)), (5, .bool true), (15, .bool ((((((wmM ws).length : Nat) : Int) : Int) == (0 : Int)))), (31, .bool false), (41, .bool ((((((tmOf ws ((hget (y.2 at_) 0).id)) : Nat) : Int) : Int) != ((hget (y.2 at_) 0).tm : Int)))), (70, .bool ((decide (((qget q at_).take : Int) ≤ ((((dn + 1) : Nat) : Int) : Int)))))] [15, 18] [none, none] (RV r [#[.slice ((some ⟨gq, 0, none⟩)) q.length qc, .slice ((some ⟨gh, 0, none⟩)) q.length hcp, .map ((some mb)), .int .i64 (((times : Nat) : Int)), .int .i64 (((at_ : Nat) : Int)), .int .i64 ((((dn + 1) : Nat) : Int))], #[.slice ((some ⟨gq, 0, none⟩)) q.length qc, .slice ((some ⟨gh, 0, none⟩)) q.length hcp, .map ((some mb)), .int .i64 (((times : Nat) : Int)), .int .i64 (((at_ : Nat) : Int)), .int .i64 0], #[.slice ((some ⟨gq, 0, none⟩)) q.length qc, .slice ((some ⟨gh, 0, none⟩)) q.length hcp, .map ((some mb)), .int .i64 (((times : Nat) : Int)), .int .i64 (((((at_ + 1) % q.length) : Nat) : Int)), .int .i64 0]]) RV.below (by decide) ⟨rfl, rfl, rfl, rfl, rfl, rfl, rfl, trivial⟩ (by kernel_rfl) (by kernel_rfl) (by kernel_rfl) (by kernel_rfl) hB70 ?_ ?_
                  · refine ⟨.inl ⟨rfl, true, .none rfl, (fun gg b h => by cases h), fun h w => optUndef h, fun zβ za zw zc => ?_⟩, ?_⟩
                    · exact wp_move rfl (zc.kn.ev rfl) ⟨_, rfl, Below.refl _ _, optDef zβ rfl⟩
                    refine ⟨.inl ⟨rfl, true, .none rfl, (fun gg b h => by cases h), fun h w => optUndef h, fun zβ za zw zc => ?_⟩, ?_⟩
                    · exact wp_move rfl (zc.kn.ev rfl) ⟨_, rfl, Below.refl _ _, optDef zβ rfl⟩
                    refine ⟨.inl ⟨rfl, true, .none rfl, (fun gg b h => by cases h), fun h w => optUndef h, fun zβ za zw zc => ?_⟩, ?_⟩
                    · exact wp_move rfl (zc.kn.ev rfl) ⟨_, rfl, Below.refl _ _, optDef zβ rfl⟩
                    refine ⟨.inl ⟨rfl, true, .none rfl, (fun gg b h => by cases h), fun h w => optUndef h, fun zβ za zw zc => ?_⟩, ?_⟩
                    · exact nilCheck_ rfl ((show za.eval (.tmp 73) = za.tmps.getD 73 undef from rfl).trans (optSVal (zc.dep 2 73 (by kernel_rfl) (by decide)) rfl rfl)) ⟨_, rfl, Below.refl _ _, optDef zβ rfl⟩
                    refine ⟨.inl ⟨rfl, true, .none rfl, (fun gg b h => by cases h), fun h w => optUndef h, fun zβ za zw zc => ?_⟩, ?_⟩
                    · exact fld_72_4 rfl ((show za.eval (.tmp 74) = za.tmps.getD 74 undef from rfl).trans (optSVal (zc.dep 3 74 (by kernel_rfl) (by decide)) rfl rfl)) ⟨_, rfl, Below.refl _ _, optDef zβ rfl⟩
                    refine ⟨.inl ⟨rfl, true, .none rfl, (fun gg b h => by cases h), fun h w => optUndef h, fun zβ za zw zc => ?_⟩, ?_⟩
                    · obtain ⟨vals, hle, hgv, _⟩ := zc.early 1 18 rfl (by kernel_rfl)
                      have zv : zw.cell? ⟨r, 4, none⟩ = some (.int .i64 (((at_ : Nat) : Int))) := by
                        match vals, hle, hgv with
                        | [], _, hg => exact (Blk.cell (show Blk zw r 72 #[.slice ((some ⟨gq, 0, none⟩)) q.length qc, .slice ((some ⟨gh, 0, none⟩)) q.length hcp, .map ((some mb)), .int .i64 (((times : Nat) : Int)), .int .i64 (((at_ : Nat) : Int)), .int .i64 ((((dn + 1) : Nat) : Int))] from hg) 4).trans rfl
                        | [_], _, hg => exact (Blk.cell (show Blk zw r 72 #[.slice ((some ⟨gq, 0, none⟩)) q.length qc, .slice ((some ⟨gh, 0, none⟩)) q.length hcp, .map ((some mb)), .int .i64 (((times : Nat) : Int)), .int .i64 (((at_ : Nat) : Int)), .int .i64 0] from hg) 4).trans rfl
                      exact ld_3 rfl ((show za.eval (.tmp 75) = za.tmps.getD 75 undef from rfl).trans (optSVal (zc.dep 4 75 (by kernel_rfl) (by decide)) rfl rfl)) zv ⟨_, rfl, Below.refl _ _, optDef zβ rfl⟩
                    refine ⟨.inl ⟨rfl, true, .none rfl, (fun gg b h => by cases h), fun h w => optUndef h, fun zβ za zw zc => ?_⟩, ?_⟩
                    · exact addb_3 rfl ((show za.eval (.tmp 76) = za.tmps.getD 76 undef from rfl).trans (optSVal (zc.dep 5 76 (by kernel_rfl) (by decide)) rfl rfl)) (zc.kn.ev rfl) (wrap_eq (by omega) (by omega) (by omega)) ⟨_, rfl, Below.refl _ _, optDef zβ rfl⟩
                    refine ⟨.inl ⟨rfl, true, .none rfl, (fun gg b h => by cases h), fun h w => optUndef h, fun zβ za zw zc => ?_⟩, ?_⟩
                    · exact wp_move rfl (zc.kn.ev rfl) ⟨_, rfl, Below.refl _ _, optDef zβ rfl⟩
                    refine ⟨.inl ⟨rfl, true, .none rfl, (fun gg b h => by cases h), fun h w => optUndef h, fun zβ za zw zc => ?_⟩, ?_⟩
                    · exact nilCheck_ rfl ((show za.eval (.tmp 78) = za.tmps.getD 78 undef from rfl).trans (optSVal (zc.dep 7 78 (by kernel_rfl) (by decide)) rfl rfl)) ⟨_, rfl, Below.refl _ _, optDef zβ rfl⟩
                    refine ⟨.inl ⟨rfl, true, .none rfl, (fun gg b h => by cases h), fun h w => optUndef h, fun zβ za zw zc => ?_⟩, ?_⟩
                    · exact fld_72_0 rfl ((show za.eval (.tmp 79) = za.tmps.getD 79 undef from rfl).trans (optSVal (zc.dep 8 79 (by kernel_rfl) (by decide)) rfl rfl)) ⟨_, rfl, Below.refl _ _, optDef zβ rfl⟩
                    refine ⟨.inl ⟨rfl, true, .none rfl, (fun gg b h => by cases h), fun h w => optUndef h, fun zβ za zw zc => ?_⟩, ?_⟩
                    · obtain ⟨vals, hle, hgv, _⟩ := zc.early 1 18 rfl (by kernel_rfl)
                      have zv : zw.cell? ⟨r, 0, none⟩ = some (.slice ((some ⟨gq, 0, none⟩)) q.length qc) := by
                        match vals, hle, hgv with
                        | [], _, hg => exact (Blk.cell (show Blk zw r 72 #[.slice ((some ⟨gq, 0, none⟩)) q.length qc, .slice ((some ⟨gh, 0, none⟩)) q.length hcp, .map ((some mb)), .int .i64 (((times : Nat) : Int)), .int .i64 (((at_ : Nat) : Int)), .int .i64 ((((dn + 1) : Nat) : Int))] from hg) 0).trans rfl
                        | [_], _, hg => exact (Blk.cell (show Blk zw r 72 #[.slice ((some ⟨gq, 0, none⟩)) q.length qc, .slice ((some ⟨gh, 0, none⟩)) q.length hcp, .map ((some mb)), .int .i64 (((times : Nat) : Int)), .int .i64 (((at_ : Nat) : Int)), .int .i64 0] from hg) 0).trans rfl
                      exact ld_30 rfl ((show za.eval (.tmp 80) = za.tmps.getD 80 undef from rfl).trans (optSVal (zc.dep 9 80 (by kernel_rfl) (by decide)) rfl rfl)) zv ⟨_, rfl, Below.refl _ _, optDef zβ rfl⟩
                    refine ⟨.inl ⟨rfl, true, .none rfl, (fun gg b h => by cases h), fun h w => optUndef h, fun zβ za zw zc => ?_⟩, ?_⟩
                    · exact len_30 rfl ((show za.eval (.tmp 81) = za.tmps.getD 81 undef from rfl).trans (optSVal (zc.dep 10 81 (by kernel_rfl) (by decide)) rfl rfl)) ⟨_, rfl, Below.refl _ _, optDef zβ rfl⟩
                    refine ⟨.inl ⟨rfl, true, .none rfl, (fun gg b h => by cases h), fun h w => optUndef h, fun zβ za zw zc => ?_⟩, ?_⟩
                    · exact remn_3 rfl ((show za.eval (.tmp 77) = za.tmps.getD 77 undef from rfl).trans (optSVal (zc.dep 6 77 (by kernel_rfl) (by decide)) rfl rfl)) ((show za.eval (.tmp 82) = za.tmps.getD 82 undef from rfl).trans (optSVal (zc.dep 11 82 (by kernel_rfl) (by decide)) rfl rfl)) (by omega) ⟨_, rfl, Below.refl _ _, optDef zβ rfl⟩
                    refine ⟨.inl ⟨rfl, true, .none rfl, (fun gg b h => by cases h), fun h w => optUndef h, fun zβ za zw zc => ?_⟩, ?_⟩
                    · exact nilCheck_ rfl ((show za.eval (.tmp 71) = za.tmps.getD 71 undef from rfl).trans (optSVal (zc.dep 0 71 (by kernel_rfl) (by decide)) rfl rfl)) ⟨_, rfl, Below.refl _ _, optDef zβ rfl⟩
                    refine ⟨.inl ⟨rfl, true, .none rfl, (fun gg b h => by cases h), fun h w => optUndef h, fun zβ za zw zc => ?_⟩, ?_⟩
                    · exact fld_72_5 rfl ((show za.eval (.tmp 84) = za.tmps.getD 84 undef from rfl).trans (optSVal (zc.dep 13 84 (by kernel_rfl) (by decide)) rfl rfl)) ⟨_, rfl, Below.refl _ _, optDef zβ rfl⟩
                    refine ⟨.inr ⟨0, rfl, by kernel_rfl, true, .none rfl, (fun gg b h => by cases h), (fun h => (nomatch h)), fun zβ za zw zvals zc => ?_⟩, ?_⟩
                    · obtain rfl := vlen0 zc.len
                      have zn := zc.now
                      have zn2 : Blk zw r 72 #[.slice ((some ⟨gq, 0, none⟩)) q.length qc, .slice ((some ⟨gh, 0, none⟩)) q.length hcp, .map ((some mb)), .int .i64 (((times : Nat) : Int)), .int .i64 (((at_ : Nat) : Int)), .int .i64 ((((dn + 1) : Nat) : Int))] := zn
                      exact st_3 rfl ((show za.eval (.tmp 85) = za.tmps.getD 85 undef from rfl).trans (optSVal (zc.dep 14 85 (by kernel_rfl) (by decide)) rfl rfl)) (zc.kn.ev rfl) zn2 (by simp) (fun v => ⟨v, rfl, .ofUpd (Upd.at_ _ _ _ _) rfl, zn2.set_ 5 _, fun b x e _ => by cases e⟩)
                    refine ⟨.inl ⟨rfl, true, .none rfl, (fun gg b h => by cases h), fun h w => optUndef h, fun zβ za zw zc => ?_⟩, ?_⟩
                    · exact nilCheck_ rfl ((show za.eval (.tmp 72) = za.tmps.getD 72 undef from rfl).trans (optSVal (zc.dep 1 72 (by kernel_rfl) (by decide)) rfl rfl)) ⟨_, rfl, Below.refl _ _, optDef zβ rfl⟩
                    refine ⟨.inl ⟨rfl, true, .none rfl, (fun gg b h => by cases h), fun h w => optUndef h, fun zβ za zw zc => ?_⟩, ?_⟩
                    · exact fld_72_4 rfl ((show za.eval (.tmp 86) = za.tmps.getD 86 undef from rfl).trans (optSVal (zc.dep 16 86 (by kernel_rfl) (by decide)) rfl rfl)) ⟨_, rfl, Below.refl _ _, optDef zβ rfl⟩
                    refine ⟨.inr ⟨1, rfl, by kernel_rfl, true, .none rfl, (fun gg b h => by cases h), (fun h => (nomatch h)), fun zβ za zw zvals zc => ?_⟩, ?_⟩
                    · obtain ⟨z0, rfl⟩ := vlen1 zc.len
                      have zn := zc.now
                      have zn2 : Blk zw r 72 #[.slice ((some ⟨gq, 0, none⟩)) q.length qc, .slice ((some ⟨gh, 0, none⟩)) q.length hcp, .map ((some mb)), .int .i64 (((times : Nat) : Int)), .int .i64 (((at_ : Nat) : Int)), .int .i64 0] := zn
                      exact st_3 rfl ((show za.eval (.tmp 87) = za.tmps.getD 87 undef from rfl).trans (optSVal (zc.dep 17 87 (by kernel_rfl) (by decide)) rfl rfl)) ((show za.eval (.tmp 83) = za.tmps.getD 83 undef from rfl).trans (optSVal (zc.dep 12 83 (by kernel_rfl) (by decide)) rfl rfl)) zn2 (by simp) (fun v => ⟨v, rfl, .ofUpd (Upd.at_ _ _ _ _) rfl, zn2.set_ 4 _, fun b x e _ => by cases e⟩)
                    exact trivial
                  · intro za w74 zvals zh zl hG75 hc76 zu zw zk
                    obtain ⟨z0, z1, rfl⟩ := vlen2 zl
                    have hB80 := hB59.below hb66
                    have hB81 := chg_blk hB80 hc76 (by (try dsimp only at *); omega)
                    have ho82 := ho71.chg hc76 (by (try dsimp only at *); omega)
                    have ho83 := ho72.chg hc76 (by (try dsimp only at *); omega)
                    have ho84 := ho73.chg hc76 (by (try dsimp only at *); omega)
                    have hB79 : Blk w74 r 72 #[.slice ((some ⟨gq, 0, none⟩)) q.length qc, .slice ((some ⟨gh, 0, none⟩)) q.length hcp, .map ((some mb)), .int .i64 (((times : Nat) : Int)), .int .i64 (((((at_ + 1) % q.length) : Nat) : Int)), .int .i64 0] := hG75
                    have hP77 := hP69.chg hc76 ⟨fun k hk e => (hP69.ap r (by simp)).2.1 k hk e.symm, fun k b hk hS e => (hP69.ap r (by simp)).2.2 k hk (e ▸ hS)⟩
                    have hC78 := Chg.trans2 hC68 hc76 (fun i _ q => q ▸ zr1)
                    clear zu zw zk
                    refine (show WE _ [(0, .pointer (some ⟨r, 0, none⟩)), (4, .pointer (some ⟨gz8, 0, none⟩)), (5, .bool true), (15, .bool ((((((wmM ws).length : Nat) : Int) : Int) == (0 : Int)))), (31, .bool false), (41, .bool ((((((tmOf ws ((hget (y.2 at_) 0).id)) : Nat) : Int) : Int) != ((hget (y.2 at_) 0).tm : Int)))), (70, .bool ((decide (((qget q at_).take : Int) ≤ ((((dn + 1) : Nat) : Int) : Int)))))] w74 _ .normal from ?_) za (zh.sub ⟨rfl, rfl, rfl, rfl, rfl, rfl, rfl, trivial⟩)
                    refine WE.next ?_
                    refine WC.seq ?_
                    refine WC.region ?_
                    refine WL.val (.pointer (some ⟨gz8, 2, none⟩)) rfl rfl rfl (fun za zC zh zk => fld_75_1 rfl (zh.ev rfl) zk) ?_
                    refine WL.val (.int .i64 ((hget (y.2 at_) 0).id)) rfl rfl rfl (fun za zC zh zk => ld_3 rfl (zh.ev rfl) ((hB81.cell 2).trans rfl) zk) ?_
                    refine WL.val (.int .i64 ((hget (y.2 at_) 0).id)) rfl rfl rfl (fun za zC zh zk => wp_assign rfl (zh.ev rfl) zk) ?_
                    refine WL.val (.bool true) rfl rfl rfl (fun za zC zh zk => wp_assign rfl (zh.ev rfl) zk) ?_
                    refine WL.nil (WE.sub (K' := [(0, .pointer (some ⟨r, 0, none⟩)), (2, .int .i64 ((hget (y.2 at_) 0).id)), (3, .bool true), (4, .pointer (some ⟨gz8, 0, none⟩)), (5, .bool true), (15, .bool ((((((wmM ws).length : Nat) : Int) : Int) == (0 : Int)))), (31, .bool false), (41, .bool ((((((tmOf ws ((hget (y.2 at_) 0).id)) : Nat) : Int) : Int) != ((hget (y.2 at_) 0).tm : Int)))), (70, .bool ((decide (((qget q at_).take : Int) ≤ ((((dn + 1) : Nat) : Int) : Int)))))]) ⟨rfl, rfl, rfl, rfl, rfl, rfl, rfl, rfl, rfl, trivial⟩ ?_)
                    refine WE.next ?_
                    refine WC.ret ?_
                    refine WE.blockRet ?_
                    refine WE.thenRet ?_
                    refine WE.blockRet ?_
                    refine WE.ret2 rfl rfl rfl ?_
                    refine ⟨_, rfl, .inr ⟨x, hx, fun x2 hx2 => e2 ▸ (hP.heap at_ hat).least_mem _ ((hRl at_ hat).has x2 hx2), by rw [e1], ?_, hC78⟩⟩
                    rw [e1, htk]
                    exact ⟨⟨mb, gq, gh, qc, hcp, hb, _, _, es45, cl46, hB79, ho82, ho83, ho84, hE48', hP77, ⟨.inl zr1, .inl zr2, .inl zr3, .inl zr4, fun k hk => .inl (zr5 k hk), hz25⟩, fun k hk => by
                          (try dsimp only)
                          by_cases e : k = at_
                          · subst e
                            rw [if_pos rfl]; exact hrel
                          · rw [if_neg e]; exact (hRl k hk).drop _⟩, hok.drop _, hR0.qs, (Nat.mod_lt _ (by omega)), (by (try dsimp only); omega)⟩
                · have h67 : ¬ (((qget q at_).take : Int) ≤ ((((dn + 1) : Nat) : Int) : Int)) := by simpa using h67
                  have htk : tick q at_ dn = (at_, dn + 1) := if_neg h67
                  refine WC.skip ?_
                  refine WE.next ?_
                  refine WC.seq ?_
                  refine WC.region ?_
                  refine WL.val (.pointer (some ⟨gz8, 2, none⟩)) rfl rfl rfl (fun za zC zh zk => fld_75_1 rfl (zh.ev rfl) zk) ?_
                  have hB85 := hB59.below hb66
                  refine WL.val (.int .i64 ((hget (y.2 at_) 0).id)) rfl rfl rfl (fun za zC zh zk => ld_3 rfl (zh.ev rfl) ((hB85.cell 2).trans rfl) zk) ?_
                  refine WL.val (.int .i64 ((hget (y.2 at_) 0).id)) rfl rfl rfl (fun za zC zh zk => wp_assign rfl (zh.ev rfl) zk) ?_
                  refine WL.val (.bool true) rfl rfl rfl (fun za zC zh zk => wp_assign rfl (zh.ev rfl) zk) ?_
                  refine WL.nil (WE.sub (K' := [(0, .pointer (some ⟨r, 0, none⟩)), (2, .int .i64 ((hget (y.2 at_) 0).id)), (3, .bool true), (4, .pointer (some ⟨gz8, 0, none⟩)), (5, .bool true), (15, .bool ((((((wmM ws).length : Nat) : Int) : Int) == (0 : Int)))), (31, .bool false), (41, .bool ((((((tmOf ws ((hget (y.2 at_) 0).id)) : Nat) : Int) : Int) != ((hget (y.2 at_) 0).tm : Int)))), (70, .bool ((decide (((qget q at_).take : Int) ≤ ((((dn + 1) : Nat) : Int) : Int)))))]) ⟨rfl, rfl, rfl, rfl, rfl, rfl, rfl, rfl, rfl, trivial⟩ ?_)
                  refine WE.next ?_
                  refine WC.ret ?_
                  refine WE.blockRet ?_
                  refine WE.thenRet ?_
                  refine WE.blockRet ?_
                  refine WE.ret2 rfl rfl rfl ?_
                  have hC86 := Chg.trans hC64 (.ofBelow hb66)
                  have hB87 := hB57.below hb66
                  have ho88 := ho60.below hb66
                  have ho89 := ho61.below hb66
                  have ho90 := ho62.below hb66
                  have hP91 := hP63.below hb66
                  refine ⟨_, rfl, .inr ⟨x, hx, fun x2 hx2 => e2 ▸ (hP.heap at_ hat).least_mem _ ((hRl at_ hat).has x2 hx2), by rw [e1], ?_, hC86⟩⟩
                  rw [e1, htk]
                  exact ⟨⟨mb, gq, gh, qc, hcp, hb, _, _, es45, cl46, hB87, ho88, ho89, ho90, hE48', hP91, ⟨.inl zr1, .inl zr2, .inl zr3, .inl zr4, fun k hk => .inl (zr5 k hk), hz25⟩, fun k hk => by
                        (try dsimp only)
                        by_cases e : k = at_
                        · subst e
                          rw [if_pos rfl]; exact hrel
                        · rw [if_neg e]; exact (hRl k hk).drop _⟩, hok.drop _, hR0.qs, hat, (by (try dsimp only); have z := hqk at_ hat; omega)⟩

end Go.Proofs.Ytjhkoiggeepajaa
