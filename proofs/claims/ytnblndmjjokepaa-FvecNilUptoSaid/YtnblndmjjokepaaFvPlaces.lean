/- The symbols of a term, handed out one after the other. -/
import Derived.Test.YtnblndmjjokepaaFvPlain
import Derived.Test.YtnblndmjjokepaaInTO
import Derived.Test.YtnblndmjjokepaaKOps
import Derived.Test.YtnblndmjjokepaaElt
namespace Go.Proofs.Ytnblndmjjokepaa
open Go.RowKit Go
set_option linter.unusedVariables false
set_option linter.unusedSimpArgs false

def plEnc (x : Nat × Nat) : List Value := [.int .i64 (x.1 : Int), .int .i64 (x.2 : Int)]
theorem pl_head {f : Int} {l : List T} {d : Nat} : T.pl (.mk f l) d = (if 0 ≤ f then [(f.toNat, d)] else []) ++ T.plL l (d + 1) := by rw [T.pl]
theorem pl_parts (t : T) (d : Nat) : t.pl d = (if 0 ≤ t.f then [(t.f.toNat, d)] else []) ++ T.plL t.args (d + 1) := by cases t; exact pl_head
theorem pre_of {β : Type} {a b c : List β} (h : a <+: b ++ c) : a <+: b ++ c := h
theorem plL_take_len {l : List T} {k d : Nat} (h : k < l.length) : (T.plL (l.take k) d).length + ((tget l k).pl d).length ≤ (T.plL l d).length := by
  have h1 := T.plL_take (d := d) h
  have h2 := (T.plL_pre (l := l) (k := k + 1) (d := d)).length_le
  rw [h1, List.length_append] at h2; exact h2
section
variable {ly B M nb gy gw : Nat} {J Jx : List (Nat × Nat) → World → Prop} {S : Nat → Prop}
set_option maxRecDepth 100000 in
theorem walkpl_any (hY : Round Try.prog ly plEnc (Kpt S B) M J Jx) {B0 : Nat} (hA : AbidesFrom B0 J) (hS : ∀ b, nb ≤ b → ¬ S b) (hgY : ¬ S gy) (hgW : ¬ S gw) :
    ∀ (t : T) (d : Nat) (pre : List (Nat × Nat)) (w : World) (v : Value), nb ≤ w.heap.size → Blk w gy 95 #[.func (.yield ly) #[] #[]] → Blk w gw 96 #[.func (.func 46) #[] #[.pointer (some ⟨gy, 0, none⟩), .pointer (some ⟨gw, 0, none⟩)]] → InT (fun b => ¬ S b) w t v → J pre w → pre.length + (t.pl d).length ≤ M → d + t.size ≤ 1099511627776 →
      Calls Try.prog 46 #[v, .int .i64 (d : Int), .pointer (some ⟨gy, 0, none⟩), .pointer (some ⟨gw, 0, none⟩)] w (Ret fun v' w' => (v' = .bool true ∧ J (pre ++ t.pl d) w' ∧ Kpt S B w w') ∨ (v' = .bool false ∧ ∃ pre', pre' <+: pre ++ t.pl d ∧ Jx pre' w')) := by
  refine T.ind (fun f l ih => ?_)
  intro d pre w v hnb hBY hBW ht hJ hM hd
  rw [pl_head] at hM ⊢
  rw [List.length_append] at hM
  have hsz : d + 1 + T.sizeL l ≤ 1099511627776 := by rw [T.size] at hd; omega
  obtain ⟨hf, a, c, rfl, hlc, hcm, hts⟩ := ht.form
  simp only [T.f_mk, T.args_mk] at hf hlc hts ⊢
  unfold maxLen at hcm
  have hl2 := hBY.lt
  have hl3 := hBW.lt
  refine Calls.walk (l := [.agg #[.int .i64 f, .slice a l.length c], .int .i64 (((d : Nat) : Int)), .pointer (some ⟨gy, 0, none⟩), .pointer (some ⟨gw, 0, none⟩)]) Try.func46 rfl (by kernel_rfl) ?_
  refine WC.sub (K' := [(0, .agg #[.int .i64 f, .slice a l.length c]), (1, .int .i64 (((d : Nat) : Int))), (2, .pointer (some ⟨gy, 0, none⟩)), (3, .pointer (some ⟨gw, 0, none⟩))]) ⟨rfl, rfl, rfl, rfl, trivial⟩ ?_
  refine WC.seq ?_
  refine WC.region ?_
  refine WL.step (post := NewBlk w 32 #[.int .i64 f, .slice a l.length c]) rfl rfl rfl (fun za zC zh zk => box_32 rfl (zh.ev rfl) (zk _ _ (newBlk _ _ _))) ?_
  rintro _ w1 ⟨g2, rfl, hg3, hB4, hb5, hz6⟩
  have hl7 : gy < g2 := by have z1 := hBY.lt; omega
  have hl8 : gw < g2 := by have z1 := hBW.lt; omega
  have hl9 : w.heap.size ≤ g2 := by omega
  refine WL.val (.bool false) rfl rfl rfl (fun za zC zh zk => wp_assign rfl (zh.ev rfl) zk) ?_
  refine WL.nil (WE.sub (K' := [(0, .agg #[.int .i64 f, .slice a l.length c]), (1, .int .i64 (((d : Nat) : Int))), (2, .pointer (some ⟨gy, 0, none⟩)), (3, .pointer (some ⟨gw, 0, none⟩)), (4, .pointer (some ⟨g2, 0, none⟩)), (6, .bool false)]) ⟨rfl, rfl, rfl, rfl, rfl, rfl, trivial⟩ ?_)
  refine WE.next ?_
  refine WC.seq ?_
  refine WC.seq ?_
  refine WC.region ?_
  refine WL.val (.pointer (some ⟨g2, 0, none⟩)) rfl rfl rfl (fun za zC zh zk => fld_32_0 rfl (zh.ev rfl) zk) ?_
  refine WL.val (.int .i64 f) rfl rfl rfl (fun za zC zh zk => ld_3 rfl (zh.ev rfl) ((hB4.cell 0).trans rfl) zk) ?_
  refine WL.val (.bool ((decide ((0 : Int) ≤ (f : Int))))) rfl rfl rfl (fun za zC zh zk => geq_3 rfl (zh.ev rfl) (zh.ev rfl) zk) ?_
  refine WL.val (.bool ((decide ((0 : Int) ≤ (f : Int))))) rfl rfl rfl (fun za zC zh zk => wp_move rfl (zh.ev rfl) zk) ?_
  refine bool_split ((decide ((0 : Int) ≤ (f : Int)))) (fun h10 => ?_) (fun h10 => ?_)
  · refine WL.sub (K' := [(0, .agg #[.int .i64 f, .slice a l.length c]), (1, .int .i64 (((d : Nat) : Int))), (2, .pointer (some ⟨gy, 0, none⟩)), (3, .pointer (some ⟨gw, 0, none⟩)), (4, .pointer (some ⟨g2, 0, none⟩)), (6, .bool false), (9, .pointer (some ⟨g2, 0, none⟩)), (10, .int .i64 f), (11, .bool ((decide ((0 : Int) ≤ (f : Int))))), (12, .bool true)]) ⟨rfl, rfl, rfl, rfl, rfl, rfl, rfl, rfl, rfl, (by exact congrArg (fun z => some (Value.bool z)) h10), trivial⟩ ?_
    have h10 : (0 : Int) ≤ (f : Int) := by simpa using h10
    refine WL.want (d := 12) rfl rfl rfl ?_
    have hB11 := hBY.below hb5
    refine WL.val (.func (.yield ly) #[] #[]) rfl rfl rfl (fun za zC zh zk => ld_95 rfl (zh.ev rfl) ((hB11.cell 0).trans rfl) zk) ?_
    refine WL.want (d := 12) rfl rfl rfl ?_
    refine WL.val (.pointer (some ⟨g2, 0, none⟩)) rfl rfl rfl (fun za zC zh zk => fld_32_0 rfl (zh.ev rfl) zk) ?_
    refine WL.want (d := 12) rfl rfl rfl ?_
    refine WL.val (.int .i64 f) rfl rfl rfl (fun za zC zh zk => ld_3 rfl (zh.ev rfl) ((hB4.cell 0).trans rfl) zk) ?_
    refine WL.want (d := 12) rfl rfl rfl ?_
    refine WL.val (.int .i64 (((d : Nat) : Int))) rfl rfl rfl (fun za zC zh zk => wp_move rfl (zh.ev rfl) zk) ?_
    refine WL.want (d := 12) rfl rfl rfl ?_
    have hfn : (0 : Int) ≤ f := by have z := h10; omega
    rw [if_pos hfn] at hM ⊢
    simp only [List.length_cons, List.length_nil] at hM
    refine WL.stepIn (post := fun v w' => (v = .bool true ∧ J (pre ++ [(f.toNat, d)]) w' ∧ Kpt S B w1 w') ∨ (v = .bool false ∧ Jx (pre ++ [(f.toNat, d)]) w')) rfl rfl rfl (fun za zh => wp_yield rfl (zh.ev rfl) (hv2 ((zh.ev rfl).trans (by rw [show ((f.toNat : Nat) : Int) = f by omega])) (zh.ev rfl)) (hY pre (f.toNat, d) _ (abide_below hA hJ hb5) (by omega)) (by rintro e w' (⟨rfl, h1, h2⟩ | ⟨rfl, h1⟩) <;> first | exact ⟨_, rfl, _, rfl, .inl ⟨rfl, h1, h2⟩⟩ | exact ⟨_, rfl, _, rfl, .inr ⟨rfl, h1⟩⟩)) ?_
    rintro _ w12 (⟨rfl, hj, hkp⟩ | ⟨rfl, hj⟩)
    · have hkp13 := Kpt.trans (Kpt.trans (Kpt.refl (S := S) (B := B) (w := w)) (.ofBelow hb5)) hkp
      have hB14 := hBW.below hb5
      have hB15 := Kpt.blk hkp hB11 (hgY)
      have hB16 := Kpt.blk hkp hB14 (hgW)
      have hB17 := Kpt.blk hkp hB4 (hS _ (by omega))
      refine WL.want (d := 12) rfl rfl rfl ?_
      refine WL.val (.bool false) rfl rfl rfl (fun za zC zh zk => wp_not rfl (zh.ev rfl) zk) ?_
      refine WL.val (.bool false) rfl rfl rfl (fun za zC zh zk => wp_pickT rfl (zh.ev rfl) (zh.ev rfl) zk) ?_
      refine WL.nil (WE.sub (K' := [(0, .agg #[.int .i64 f, .slice a l.length c]), (1, .int .i64 (((d : Nat) : Int))), (2, .pointer (some ⟨gy, 0, none⟩)), (3, .pointer (some ⟨gw, 0, none⟩)), (4, .pointer (some ⟨g2, 0, none⟩)), (6, .bool false), (19, .bool false)]) ⟨rfl, rfl, rfl, rfl, rfl, rfl, rfl, trivial⟩ ?_)
      refine WE.next ?_
      refine WC.condF rfl rfl ?_
      refine WC.skip ?_
      refine WE.next ?_
      refine WC.seq ?_
      refine WC.seq ?_
      refine WC.region ?_
      refine WL.val (.pointer (some ⟨g2, 1, none⟩)) rfl rfl rfl (fun za zC zh zk => fld_32_1 rfl (zh.ev rfl) zk) ?_
      refine WL.val (.slice a l.length c) rfl rfl rfl (fun za zC zh zk => ld_30 rfl (zh.ev rfl) ((hB17.cell 1).trans rfl) zk) ?_
      refine WL.val (.int .i64 (((l.length : Nat) : Int))) rfl rfl rfl (fun za zC zh zk => len_30 rfl (zh.ev rfl) zk) ?_
      refine WL.val (.int .i64 0) rfl rfl rfl (fun za zC zh zk => wp_move rfl (zh.ev rfl) zk) ?_
      refine WL.nil (WE.sub (K' := [(0, .agg #[.int .i64 f, .slice a l.length c]), (1, .int .i64 (((d : Nat) : Int))), (2, .pointer (some ⟨gy, 0, none⟩)), (3, .pointer (some ⟨gw, 0, none⟩)), (4, .pointer (some ⟨g2, 0, none⟩)), (6, .bool false), (19, .bool false), (21, .slice a l.length c), (22, .int .i64 (((l.length : Nat) : Int))), (23, .int .i64 0)]) ⟨rfl, rfl, rfl, rfl, rfl, rfl, rfl, rfl, rfl, rfl, trivial⟩ ?_)
      refine WE.next ?_
      refine WC.block ?_
      have hts18 : InT (fun b => ¬ S b) w12 (.mk f l) (.agg #[.int .i64 f, .slice a l.length c]) := ht.kpt hkp13 (fun b q => q)
      refine WC.loop (X := Nat) (fun k => l.length - k) (fun k => [(0, .agg #[.int .i64 f, .slice a l.length c]), (1, .int .i64 (((d : Nat) : Int))), (2, .pointer (some ⟨gy, 0, none⟩)), (3, .pointer (some ⟨gw, 0, none⟩)), (4, .pointer (some ⟨g2, 0, none⟩)), (19, .bool false), (21, .slice a l.length c), (22, .int .i64 (((l.length : Nat) : Int))), (23, .int .i64 (((k : Nat) : Int)))]) (fun k w19 => k ≤ l.length ∧ J ((pre ++ [(f.toNat, d)]) ++ T.plL (l.take k) (d + 1)) w19 ∧ InT (fun b => ¬ S b) w19 (.mk f l) (.agg #[.int .i64 f, .slice a l.length c]) ∧ Kpt S B w w19 ∧ Blk w19 gy 95 #[.func (.yield ly) #[] #[]] ∧ Blk w19 gw 96 #[.func (.func 46) #[] #[.pointer (some ⟨gy, 0, none⟩), .pointer (some ⟨gw, 0, none⟩)]] ∧ Blk w19 g2 32 #[.int .i64 f, .slice a l.length c]) 0 ⟨rfl, rfl, rfl, rfl, rfl, rfl, rfl, rfl, rfl, trivial⟩ ?_ ?_
      · exact ⟨Nat.zero_le _, (by simpa [T.plL] using hj), hts18, hkp13, hB15, hB16, hB17⟩
      · rintro k w19 ⟨hk, hJJ, hTT, hkk, hB20, hB21, hB22⟩
        obtain ⟨_, a_, c_, e_, _, _, hts9⟩ := hTT.form
        simp only [T.f_mk, T.args_mk, Value.agg.injEq, Array.mk.injEq, List.cons.injEq, and_true, true_and, Value.slice.injEq] at e_ hts9
        obtain ⟨rfl, rfl⟩ := e_
        have hnb9 := hkk.size
        refine WC.seq ?_
        refine WC.region ?_
        refine WL.val (.bool ((decide ((((k : Nat) : Int) : Int) < (((l.length : Nat) : Int) : Int))))) rfl rfl rfl (fun za zC zh zk => lss_3 rfl (zh.ev rfl) (zh.ev rfl) zk) ?_
        refine WL.nil (WE.sub (K' := [(0, .agg #[.int .i64 f, .slice a l.length c]), (1, .int .i64 (((d : Nat) : Int))), (2, .pointer (some ⟨gy, 0, none⟩)), (3, .pointer (some ⟨gw, 0, none⟩)), (4, .pointer (some ⟨g2, 0, none⟩)), (19, .bool false), (21, .slice a l.length c), (22, .int .i64 (((l.length : Nat) : Int))), (23, .int .i64 (((k : Nat) : Int))), (24, .bool ((decide ((((k : Nat) : Int) : Int) < (((l.length : Nat) : Int) : Int)))))]) ⟨rfl, rfl, rfl, rfl, rfl, rfl, rfl, rfl, rfl, rfl, trivial⟩ ?_)
        refine WE.next ?_
        refine WC.seq ?_
        refine WC.cond rfl (fun h23 => ?_) (fun h23 => ?_)
        · have h23 : (((k : Nat) : Int) : Int) < (((l.length : Nat) : Int) : Int) := by simpa using h23
          refine WC.skip ?_
          refine WE.next ?_
          refine WC.seq ?_
          refine WC.block ?_
          refine WC.seq ?_
          refine WC.region ?_
          obtain ⟨b24, o25, A26, C27, ha28, hc29⟩ := InTs.open hts9
          refine WL.val (.pointer (some ⟨b24, o25 + k * 2, none⟩)) rfl rfl rfl (fun za zC zh zk => ix_30 (k := k) rfl (zh.ev rfl) (ha28 k (by first | omega | (simp; omega))) (zh.ev rfl) (by first | omega | (simp; omega)) zk) ?_
          refine WL.val (.agg #[.int .i64 ((tget l k).f), .slice ((A26 k)) ((tget l k).args.length) ((C27 k))]) rfl rfl rfl (fun za zC zh zk => ld_32 rfl (zh.ev rfl) (hc29 k (by first | omega | (simp; omega))).1 (hc29 k (by first | omega | (simp; omega))).2.1 zk) ?_
          refine WL.step (post := NewBlk w19 32 #[.int .i64 0, .slice none 0 0]) rfl rfl rfl (fun za zC zh zk => alloc_32 rfl (zk _ _ (newBlk _ _ _))) ?_
          rintro _ w30 ⟨g31, rfl, hg32, hB33, hb34, hz35⟩
          have hl36 : gy < g31 := by have z1 := hB20.lt; omega
          have hl37 : gw < g31 := by have z1 := hB21.lt; omega
          have hl38 : g2 < g31 := by have z1 := hB22.lt; omega
          have hl39 : w19.heap.size ≤ g31 := by omega
          refine WL.step (post := fun _ w' => Upd g31 w30 w' ∧ Blk w' g31 32 #[.int .i64 ((tget l k).f), .slice ((A26 k)) ((tget l k).args.length) ((C27 k))]) rfl rfl rfl (fun za zC zh zk => st_32 rfl (zh.ev rfl) (zh.ev rfl) rfl rfl hB33 (by first | decide | simp) (fun v => zk v _ ⟨(Upd.at_ _ _ _ _).trans (Upd.at_ _ _ _ _), (hB33.set_ 0 _).set_ 1 _⟩)) ?_
          rintro v43 w40 ⟨hu41, hB42⟩
          have hb44 := upd_below hb34 hu41 (by omega)
          have hB45 := hB20.below hb34
          have hB46 := upd_blk hB45 hu41 (by omega)
          have hB47 := hB21.below hb34
          have hB48 := upd_blk hB47 hu41 (by omega)
          have hB49 := hB22.below hb34
          have hB50 := upd_blk hB49 hu41 (by omega)
          refine WL.nil (WE.sub (K' := [(0, .agg #[.int .i64 f, .slice a l.length c]), (1, .int .i64 (((d : Nat) : Int))), (2, .pointer (some ⟨gy, 0, none⟩)), (3, .pointer (some ⟨gw, 0, none⟩)), (4, .pointer (some ⟨g2, 0, none⟩)), (8, .pointer (some ⟨g31, 0, none⟩)), (19, .bool false), (21, .slice a l.length c), (22, .int .i64 (((l.length : Nat) : Int))), (23, .int .i64 (((k : Nat) : Int))), (24, .bool ((decide ((((k : Nat) : Int) : Int) < (((l.length : Nat) : Int) : Int)))))]) ⟨rfl, rfl, rfl, rfl, rfl, rfl, rfl, rfl, rfl, rfl, rfl, trivial⟩ ?_)
          refine WE.next ?_
          refine WC.seq ?_
          refine WC.region ?_
          refine WL.val (.func (.func 46) #[] #[.pointer (some ⟨gy, 0, none⟩), .pointer (some ⟨gw, 0, none⟩)]) rfl rfl rfl (fun za zC zh zk => ld_96 rfl (zh.ev rfl) ((hB48.cell 0).trans rfl) zk) ?_
          refine WL.val (.agg #[.int .i64 ((tget l k).f), .slice ((A26 k)) ((tget l k).args.length) ((C27 k))]) rfl rfl rfl (fun za zC zh zk => ld_32 rfl (zh.ev rfl) ((hB42.cell 0).trans rfl) ((hB42.cell 1).trans rfl) zk) ?_
          refine WL.val (.int .i64 (((d : Nat) : Int))) rfl rfl rfl (fun za zC zh zk => wp_move rfl (zh.ev rfl) zk) ?_
          refine WL.val (.int .i64 ((((d + 1) : Nat) : Int))) rfl rfl rfl (fun za zC zh zk => addb_3 rfl (zh.ev rfl) (zh.ev rfl) (wrap_eq (by omega) (by omega) (by omega)) zk) ?_
          have hml := plL_take_len (l := l) (k := k) (d := d + 1) (by omega)
          have hms := T.size_le_sizeL (tget_mem (l := l) (k := k) (by omega))
          have hmp : ((pre ++ [(f.toNat, d)]) ++ T.plL (l.take k) (d + 1)).length = (pre ++ [(f.toNat, d)]).length + (T.plL (l.take k) (d + 1)).length := List.length_append
          have hmq : (pre ++ [(f.toNat, d)]).length = pre.length + 1 := by simp
          refine WL.call rfl rfl rfl (fun za zh zC => wp_callv (by kernel_rfl) rfl (zh.ev rfl) (hv2 (zh.ev rfl) (zh.ev rfl))) (ih (tget l k) (tget_mem (by omega)) (d + 1) ((pre ++ [(f.toNat, d)]) ++ T.plL (l.take k) (d + 1)) _ _ (by have z := hb44.size; omega) hB46 hB48 (InT.below hb44 (hc29 k (by first | omega | (simp; omega))).2.2) (abide_below hA hJJ hb44) (by omega) (by omega)) ?_
          rintro v w51 (⟨rfl, hj9, hkp9⟩ | ⟨rfl, pre9, hp9, hj9⟩)
          · have hkp52 := Kpt.trans (Kpt.trans hkk (.ofBelow hb44)) hkp9
            have hB53 := Kpt.blk hkp9 hB46 (hgY)
            have hB54 := Kpt.blk hkp9 hB48 (hgW)
            have hB55 := Kpt.blk hkp9 hB50 (hS _ (by omega))
            have hB56 := Kpt.blk hkp9 hB42 (hS _ (by omega))
            refine WL.val (.bool false) rfl rfl rfl (fun za zC zh zk => wp_not rfl (zh.ev rfl) zk) ?_
            refine WL.nil (WE.sub (K' := [(0, .agg #[.int .i64 f, .slice a l.length c]), (1, .int .i64 (((d : Nat) : Int))), (2, .pointer (some ⟨gy, 0, none⟩)), (3, .pointer (some ⟨gw, 0, none⟩)), (4, .pointer (some ⟨g2, 0, none⟩)), (8, .pointer (some ⟨g31, 0, none⟩)), (19, .bool false), (21, .slice a l.length c), (22, .int .i64 (((l.length : Nat) : Int))), (23, .int .i64 (((k : Nat) : Int))), (24, .bool ((decide ((((k : Nat) : Int) : Int) < (((l.length : Nat) : Int) : Int))))), (32, .bool false)]) ⟨rfl, rfl, rfl, rfl, rfl, rfl, rfl, rfl, rfl, rfl, rfl, rfl, trivial⟩ ?_)
            refine WE.next ?_
            refine WC.condF rfl rfl ?_
            refine WC.skip ?_
            refine WE.blockNormal ?_
            refine WE.next ?_
            refine WC.region ?_
            refine WL.val (.int .i64 ((((k + 1) : Nat) : Int))) rfl rfl rfl (fun za zC zh zk => addb_3 rfl (zh.ev rfl) (zh.ev rfl) (wrap_eq (by omega) (by omega) (by omega)) zk) ?_
            refine WL.val (.int .i64 ((((k + 1) : Nat) : Int))) rfl rfl rfl (fun za zC zh zk => wp_move rfl (zh.ev rfl) zk) ?_
            refine WL.nil (WE.sub (K' := [(0, .agg #[.int .i64 f, .slice a l.length c]), (1, .int .i64 (((d : Nat) : Int))), (2, .pointer (some ⟨gy, 0, none⟩)), (3, .pointer (some ⟨gw, 0, none⟩)), (4, .pointer (some ⟨g2, 0, none⟩)), (8, .pointer (some ⟨g31, 0, none⟩)), (19, .bool false), (21, .slice a l.length c), (22, .int .i64 (((l.length : Nat) : Int))), (23, .int .i64 ((((k + 1) : Nat) : Int))), (24, .bool ((decide ((((k : Nat) : Int) : Int) < (((l.length : Nat) : Int) : Int))))), (32, .bool false)]) ⟨rfl, rfl, rfl, rfl, rfl, rfl, rfl, rfl, rfl, rfl, rfl, rfl, trivial⟩ ?_)
            refine WE.round (k + 1) ⟨rfl, rfl, rfl, rfl, rfl, rfl, rfl, rfl, rfl, trivial⟩ ?_ ?_
            · exact ⟨by omega, (by rw [T.plL_take (by omega), ← List.append_assoc]; exact hj9), (hTT.kpt (Kpt.trans (.ofBelow hb44) hkp9) (fun b q => q)), hkp52, hB53, hB54, hB55⟩
            · omega
          · refine WL.val (.bool true) rfl rfl rfl (fun za zC zh zk => wp_not rfl (zh.ev rfl) zk) ?_
            refine WL.nil (WE.sub (K' := [(0, .agg #[.int .i64 f, .slice a l.length c]), (1, .int .i64 (((d : Nat) : Int))), (2, .pointer (some ⟨gy, 0, none⟩)), (3, .pointer (some ⟨gw, 0, none⟩)), (4, .pointer (some ⟨g2, 0, none⟩)), (8, .pointer (some ⟨g31, 0, none⟩)), (19, .bool false), (21, .slice a l.length c), (22, .int .i64 (((l.length : Nat) : Int))), (23, .int .i64 (((k : Nat) : Int))), (24, .bool ((decide ((((k : Nat) : Int) : Int) < (((l.length : Nat) : Int) : Int))))), (32, .bool true)]) ⟨rfl, rfl, rfl, rfl, rfl, rfl, rfl, rfl, rfl, rfl, rfl, rfl, trivial⟩ ?_)
            refine WE.next ?_
            refine WC.condT rfl rfl ?_
            refine WC.seq ?_
            refine WC.region ?_
            refine WL.val (.bool false) rfl rfl rfl (fun za zC zh zk => wp_assign rfl (zh.ev rfl) zk) ?_
            refine WL.nil (WE.sub (K' := [(0, .agg #[.int .i64 f, .slice a l.length c]), (1, .int .i64 (((d : Nat) : Int))), (2, .pointer (some ⟨gy, 0, none⟩)), (3, .pointer (some ⟨gw, 0, none⟩)), (4, .pointer (some ⟨g2, 0, none⟩)), (6, .bool false), (8, .pointer (some ⟨g31, 0, none⟩)), (19, .bool false), (21, .slice a l.length c), (22, .int .i64 (((l.length : Nat) : Int))), (23, .int .i64 (((k : Nat) : Int))), (24, .bool ((decide ((((k : Nat) : Int) : Int) < (((l.length : Nat) : Int) : Int))))), (32, .bool true)]) ⟨rfl, rfl, rfl, rfl, rfl, rfl, rfl, rfl, rfl, rfl, rfl, rfl, rfl, trivial⟩ ?_)
            refine WE.next ?_
            refine WC.ret ?_
            refine WE.blockRet ?_
            refine WE.thenRet ?_
            refine WE.thenRet ?_
            refine WE.blockRet ?_
            refine WE.thenRet ?_
            refine WE.ret1 rfl rfl ?_
            exact ⟨_, rfl, .inr ⟨rfl, pre9, hp9.trans (by rw [← List.append_assoc]; have z := T.plL_take (l := l) (k := k) (d := d + 1) (by omega); rw [List.append_assoc, ← z]; exact (List.prefix_append_right_inj _).2 T.plL_pre), hj9⟩⟩
        · have h23 : ¬ ((((k : Nat) : Int) : Int) < (((l.length : Nat) : Int) : Int)) := by simpa using h23
          refine WC.exit ?_
          refine WE.thenExit ?_
          refine WE.thenExit ?_
          refine WE.blockIs rfl ?_
          refine WE.next ?_
          refine WC.seq ?_
          refine WC.region ?_
          refine WL.val (.bool true) rfl rfl rfl (fun za zC zh zk => wp_assign rfl (zh.ev rfl) zk) ?_
          refine WL.nil (WE.sub (K' := [(0, .agg #[.int .i64 f, .slice a l.length c]), (1, .int .i64 (((d : Nat) : Int))), (2, .pointer (some ⟨gy, 0, none⟩)), (3, .pointer (some ⟨gw, 0, none⟩)), (4, .pointer (some ⟨g2, 0, none⟩)), (6, .bool true), (19, .bool false), (21, .slice a l.length c), (22, .int .i64 (((l.length : Nat) : Int))), (23, .int .i64 (((k : Nat) : Int))), (24, .bool ((decide ((((k : Nat) : Int) : Int) < (((l.length : Nat) : Int) : Int)))))]) ⟨rfl, rfl, rfl, rfl, rfl, rfl, rfl, rfl, rfl, rfl, rfl, trivial⟩ ?_)
          refine WE.next ?_
          refine WC.ret ?_
          refine WE.ret1 rfl rfl ?_
          refine ⟨_, rfl, .inl ⟨rfl, ?_, hkk⟩⟩
          have z := hJJ
          rw [List.take_of_length_le (by omega)] at z
          rw [← List.append_assoc]; exact z
    · refine WL.want (d := 12) rfl rfl rfl ?_
      refine WL.val (.bool true) rfl rfl rfl (fun za zC zh zk => wp_not rfl (zh.ev rfl) zk) ?_
      refine WL.val (.bool true) rfl rfl rfl (fun za zC zh zk => wp_pickT rfl (zh.ev rfl) (zh.ev rfl) zk) ?_
      refine WL.nil (WE.sub (K' := [(0, .agg #[.int .i64 f, .slice a l.length c]), (1, .int .i64 (((d : Nat) : Int))), (2, .pointer (some ⟨gy, 0, none⟩)), (3, .pointer (some ⟨gw, 0, none⟩)), (4, .pointer (some ⟨g2, 0, none⟩)), (6, .bool false), (19, .bool true)]) ⟨rfl, rfl, rfl, rfl, rfl, rfl, rfl, trivial⟩ ?_)
      refine WE.next ?_
      refine WC.condT rfl rfl ?_
      refine WC.seq ?_
      refine WC.region ?_
      refine WL.val (.bool false) rfl rfl rfl (fun za zC zh zk => wp_assign rfl (zh.ev rfl) zk) ?_
      refine WL.nil (WE.sub (K' := [(0, .agg #[.int .i64 f, .slice a l.length c]), (1, .int .i64 (((d : Nat) : Int))), (2, .pointer (some ⟨gy, 0, none⟩)), (3, .pointer (some ⟨gw, 0, none⟩)), (4, .pointer (some ⟨g2, 0, none⟩)), (6, .bool false), (19, .bool true)]) ⟨rfl, rfl, rfl, rfl, rfl, rfl, rfl, trivial⟩ ?_)
      refine WE.next ?_
      refine WC.ret ?_
      refine WE.thenRet ?_
      refine WE.ret1 rfl rfl ?_
      exact ⟨_, rfl, .inr ⟨rfl, _, ⟨_, List.append_assoc _ _ _⟩, hj⟩⟩
  · refine WL.sub (K' := [(0, .agg #[.int .i64 f, .slice a l.length c]), (1, .int .i64 (((d : Nat) : Int))), (2, .pointer (some ⟨gy, 0, none⟩)), (3, .pointer (some ⟨gw, 0, none⟩)), (4, .pointer (some ⟨g2, 0, none⟩)), (6, .bool false), (9, .pointer (some ⟨g2, 0, none⟩)), (10, .int .i64 f), (11, .bool ((decide ((0 : Int) ≤ (f : Int))))), (12, .bool false)]) ⟨rfl, rfl, rfl, rfl, rfl, rfl, rfl, rfl, rfl, (by exact congrArg (fun z => some (Value.bool z)) h10), trivial⟩ ?_
    have h10 : ¬ ((0 : Int) ≤ (f : Int)) := by simpa using h10
    refine WL.skip (d := 12) rfl rfl rfl rfl rfl ?_
    refine WL.skip (d := 12) rfl rfl rfl rfl rfl ?_
    refine WL.skip (d := 12) rfl rfl rfl rfl rfl ?_
    refine WL.skip (d := 12) rfl rfl rfl rfl rfl ?_
    refine WL.skip (d := 12) rfl rfl rfl rfl rfl ?_
    refine WL.skip (d := 12) rfl rfl rfl rfl rfl ?_
    refine WL.val (.bool false) rfl rfl rfl (fun za zC zh zk => wp_pickF rfl (zh.ev rfl) (zh.ev rfl) zk) ?_
    refine WL.nil (WE.sub (K' := [(0, .agg #[.int .i64 f, .slice a l.length c]), (1, .int .i64 (((d : Nat) : Int))), (2, .pointer (some ⟨gy, 0, none⟩)), (3, .pointer (some ⟨gw, 0, none⟩)), (4, .pointer (some ⟨g2, 0, none⟩)), (6, .bool false), (19, .bool false)]) ⟨rfl, rfl, rfl, rfl, rfl, rfl, rfl, trivial⟩ ?_)
    refine WE.next ?_
    refine WC.condF rfl rfl ?_
    refine WC.skip ?_
    refine WE.next ?_
    refine WC.seq ?_
    refine WC.seq ?_
    refine WC.region ?_
    refine WL.val (.pointer (some ⟨g2, 1, none⟩)) rfl rfl rfl (fun za zC zh zk => fld_32_1 rfl (zh.ev rfl) zk) ?_
    refine WL.val (.slice a l.length c) rfl rfl rfl (fun za zC zh zk => ld_30 rfl (zh.ev rfl) ((hB4.cell 1).trans rfl) zk) ?_
    refine WL.val (.int .i64 (((l.length : Nat) : Int))) rfl rfl rfl (fun za zC zh zk => len_30 rfl (zh.ev rfl) zk) ?_
    refine WL.val (.int .i64 0) rfl rfl rfl (fun za zC zh zk => wp_move rfl (zh.ev rfl) zk) ?_
    refine WL.nil (WE.sub (K' := [(0, .agg #[.int .i64 f, .slice a l.length c]), (1, .int .i64 (((d : Nat) : Int))), (2, .pointer (some ⟨gy, 0, none⟩)), (3, .pointer (some ⟨gw, 0, none⟩)), (4, .pointer (some ⟨g2, 0, none⟩)), (6, .bool false), (19, .bool false), (21, .slice a l.length c), (22, .int .i64 (((l.length : Nat) : Int))), (23, .int .i64 0)]) ⟨rfl, rfl, rfl, rfl, rfl, rfl, rfl, rfl, rfl, rfl, trivial⟩ ?_)
    refine WE.next ?_
    refine WC.block ?_
    have hts57 : InT (fun b => ¬ S b) w1 (.mk f l) (.agg #[.int .i64 f, .slice a l.length c]) := ht.kpt (Kpt.trans (Kpt.refl (S := S) (B := B) (w := w)) (.ofBelow hb5)) (fun b q => q)
    have hneg : ¬ (0 : Int) ≤ f := by have z := h10; omega
    rw [if_neg hneg] at hM ⊢
    simp only [List.length_nil, List.nil_append] at hM ⊢
    refine WC.loop (X := Nat) (fun k => l.length - k) (fun k => [(0, .agg #[.int .i64 f, .slice a l.length c]), (1, .int .i64 (((d : Nat) : Int))), (2, .pointer (some ⟨gy, 0, none⟩)), (3, .pointer (some ⟨gw, 0, none⟩)), (4, .pointer (some ⟨g2, 0, none⟩)), (19, .bool false), (21, .slice a l.length c), (22, .int .i64 (((l.length : Nat) : Int))), (23, .int .i64 (((k : Nat) : Int)))]) (fun k w58 => k ≤ l.length ∧ J (pre ++ T.plL (l.take k) (d + 1)) w58 ∧ InT (fun b => ¬ S b) w58 (.mk f l) (.agg #[.int .i64 f, .slice a l.length c]) ∧ Kpt S B w w58 ∧ Blk w58 gy 95 #[.func (.yield ly) #[] #[]] ∧ Blk w58 gw 96 #[.func (.func 46) #[] #[.pointer (some ⟨gy, 0, none⟩), .pointer (some ⟨gw, 0, none⟩)]] ∧ Blk w58 g2 32 #[.int .i64 f, .slice a l.length c]) 0 ⟨rfl, rfl, rfl, rfl, rfl, rfl, rfl, rfl, rfl, trivial⟩ ?_ ?_
    · have hB59 := hBY.below hb5
      have hB60 := hBW.below hb5
      exact ⟨Nat.zero_le _, (by simpa [T.plL] using (abide_below hA hJ hb5)), hts57, (Kpt.trans (Kpt.refl (S := S) (B := B) (w := w)) (.ofBelow hb5)), hB59, hB60, hB4⟩
    · rintro k w58 ⟨hk, hJJ, hTT, hkk, hB61, hB62, hB63⟩
      obtain ⟨_, a_, c_, e_, _, _, hts9⟩ := hTT.form
      simp only [T.f_mk, T.args_mk, Value.agg.injEq, Array.mk.injEq, List.cons.injEq, and_true, true_and, Value.slice.injEq] at e_ hts9
      obtain ⟨rfl, rfl⟩ := e_
      have hnb9 := hkk.size
      refine WC.seq ?_
      refine WC.region ?_
      refine WL.val (.bool ((decide ((((k : Nat) : Int) : Int) < (((l.length : Nat) : Int) : Int))))) rfl rfl rfl (fun za zC zh zk => lss_3 rfl (zh.ev rfl) (zh.ev rfl) zk) ?_
      refine WL.nil (WE.sub (K' := [(0, .agg #[.int .i64 f, .slice a l.length c]), (1, .int .i64 (((d : Nat) : Int))), (2, .pointer (some ⟨gy, 0, none⟩)), (3, .pointer (some ⟨gw, 0, none⟩)), (4, .pointer (some ⟨g2, 0, none⟩)), (19, .bool false), (21, .slice a l.length c), (22, .int .i64 (((l.length : Nat) : Int))), (23, .int .i64 (((k : Nat) : Int))), (24, .bool ((decide ((((k : Nat) : Int) : Int) < (((l.length : Nat) : Int) : Int)))))]) ⟨rfl, rfl, rfl, rfl, rfl, rfl, rfl, rfl, rfl, rfl, trivial⟩ ?_)
      refine WE.next ?_
      refine WC.seq ?_
      refine WC.cond rfl (fun h64 => ?_) (fun h64 => ?_)
      · have h64 : (((k : Nat) : Int) : Int) < (((l.length : Nat) : Int) : Int) := by simpa using h64
        refine WC.skip ?_
        refine WE.next ?_
        refine WC.seq ?_
        refine WC.block ?_
        refine WC.seq ?_
        refine WC.region ?_
        obtain ⟨b65, o66, A67, C68, ha69, hc70⟩ := InTs.open hts9
        refine WL.val (.pointer (some ⟨b65, o66 + k * 2, none⟩)) rfl rfl rfl (fun za zC zh zk => ix_30 (k := k) rfl (zh.ev rfl) (ha69 k (by first | omega | (simp; omega))) (zh.ev rfl) (by first | omega | (simp; omega)) zk) ?_
        refine WL.val (.agg #[.int .i64 ((tget l k).f), .slice ((A67 k)) ((tget l k).args.length) ((C68 k))]) rfl rfl rfl (fun za zC zh zk => ld_32 rfl (zh.ev rfl) (hc70 k (by first | omega | (simp; omega))).1 (hc70 k (by first | omega | (simp; omega))).2.1 zk) ?_
        refine WL.step (post := NewBlk w58 32 #[.int .i64 0, .slice none 0 0]) rfl rfl rfl (fun za zC zh zk => alloc_32 rfl (zk _ _ (newBlk _ _ _))) ?_
        rintro _ w71 ⟨g72, rfl, hg73, hB74, hb75, hz76⟩
        have hl77 : gy < g72 := by have z1 := hB61.lt; omega
        have hl78 : gw < g72 := by have z1 := hB62.lt; omega
        have hl79 : g2 < g72 := by have z1 := hB63.lt; omega
        have hl80 : w58.heap.size ≤ g72 := by omega
        refine WL.step (post := fun _ w' => Upd g72 w71 w' ∧ Blk w' g72 32 #[.int .i64 ((tget l k).f), .slice ((A67 k)) ((tget l k).args.length) ((C68 k))]) rfl rfl rfl (fun za zC zh zk => st_32 rfl (zh.ev rfl) (zh.ev rfl) rfl rfl hB74 (by first | decide | simp) (fun v => zk v _ ⟨(Upd.at_ _ _ _ _).trans (Upd.at_ _ _ _ _), (hB74.set_ 0 _).set_ 1 _⟩)) ?_
        rintro v84 w81 ⟨hu82, hB83⟩
        have hb85 := upd_below hb75 hu82 (by omega)
        have hB86 := hB61.below hb75
        have hB87 := upd_blk hB86 hu82 (by omega)
        have hB88 := hB62.below hb75
        have hB89 := upd_blk hB88 hu82 (by omega)
        have hB90 := hB63.below hb75
        have hB91 := upd_blk hB90 hu82 (by omega)
        refine WL.nil (WE.sub (K' := [(0, .agg #[.int .i64 f, .slice a l.length c]), (1, .int .i64 (((d : Nat) : Int))), (2, .pointer (some ⟨gy, 0, none⟩)), (3, .pointer (some ⟨gw, 0, none⟩)), (4, .pointer (some ⟨g2, 0, none⟩)), (8, .pointer (some ⟨g72, 0, none⟩)), (19, .bool false), (21, .slice a l.length c), (22, .int .i64 (((l.length : Nat) : Int))), (23, .int .i64 (((k : Nat) : Int))), (24, .bool ((decide ((((k : Nat) : Int) : Int) < (((l.length : Nat) : Int) : Int)))))]) ⟨rfl, rfl, rfl, rfl, rfl, rfl, rfl, rfl, rfl, rfl, rfl, trivial⟩ ?_)
        refine WE.next ?_
        refine WC.seq ?_
        refine WC.region ?_
        refine WL.val (.func (.func 46) #[] #[.pointer (some ⟨gy, 0, none⟩), .pointer (some ⟨gw, 0, none⟩)]) rfl rfl rfl (fun za zC zh zk => ld_96 rfl (zh.ev rfl) ((hB89.cell 0).trans rfl) zk) ?_
        refine WL.val (.agg #[.int .i64 ((tget l k).f), .slice ((A67 k)) ((tget l k).args.length) ((C68 k))]) rfl rfl rfl (fun za zC zh zk => ld_32 rfl (zh.ev rfl) ((hB83.cell 0).trans rfl) ((hB83.cell 1).trans rfl) zk) ?_
        refine WL.val (.int .i64 (((d : Nat) : Int))) rfl rfl rfl (fun za zC zh zk => wp_move rfl (zh.ev rfl) zk) ?_
        refine WL.val (.int .i64 ((((d + 1) : Nat) : Int))) rfl rfl rfl (fun za zC zh zk => addb_3 rfl (zh.ev rfl) (zh.ev rfl) (wrap_eq (by omega) (by omega) (by omega)) zk) ?_
        have hml := plL_take_len (l := l) (k := k) (d := d + 1) (by omega)
        have hms := T.size_le_sizeL (tget_mem (l := l) (k := k) (by omega))
        have hmp : (pre ++ T.plL (l.take k) (d + 1)).length = pre.length + (T.plL (l.take k) (d + 1)).length := List.length_append
        skip
        refine WL.call rfl rfl rfl (fun za zh zC => wp_callv (by kernel_rfl) rfl (zh.ev rfl) (hv2 (zh.ev rfl) (zh.ev rfl))) (ih (tget l k) (tget_mem (by omega)) (d + 1) (pre ++ T.plL (l.take k) (d + 1)) _ _ (by have z := hb85.size; omega) hB87 hB89 (InT.below hb85 (hc70 k (by first | omega | (simp; omega))).2.2) (abide_below hA hJJ hb85) (by omega) (by omega)) ?_
        rintro v w92 (⟨rfl, hj9, hkp9⟩ | ⟨rfl, pre9, hp9, hj9⟩)
        · have hkp93 := Kpt.trans (Kpt.trans hkk (.ofBelow hb85)) hkp9
          have hB94 := Kpt.blk hkp9 hB87 (hgY)
          have hB95 := Kpt.blk hkp9 hB89 (hgW)
          have hB96 := Kpt.blk hkp9 hB91 (hS _ (by omega))
          have hB97 := Kpt.blk hkp9 hB83 (hS _ (by omega))
          refine WL.val (.bool false) rfl rfl rfl (fun za zC zh zk => wp_not rfl (zh.ev rfl) zk) ?_
          refine WL.nil (WE.sub (K' := [(0, .agg #[.int .i64 f, .slice a l.length c]), (1, .int .i64 (((d : Nat) : Int))), (2, .pointer (some ⟨gy, 0, none⟩)), (3, .pointer (some ⟨gw, 0, none⟩)), (4, .pointer (some ⟨g2, 0, none⟩)), (8, .pointer (some ⟨g72, 0, none⟩)), (19, .bool false), (21, .slice a l.length c), (22, .int .i64 (((l.length : Nat) : Int))), (23, .int .i64 (((k : Nat) : Int))), (24, .bool ((decide ((((k : Nat) : Int) : Int) < (((l.length : Nat) : Int) : Int))))), (32, .bool false)]) ⟨rfl, rfl, rfl, rfl, rfl, rfl, rfl, rfl, rfl, rfl, rfl, rfl, trivial⟩ ?_)
          refine WE.next ?_
          refine WC.condF rfl rfl ?_
          refine WC.skip ?_
          refine WE.blockNormal ?_
          refine WE.next ?_
          refine WC.region ?_
          refine WL.val (.int .i64 ((((k + 1) : Nat) : Int))) rfl rfl rfl (fun za zC zh zk => addb_3 rfl (zh.ev rfl) (zh.ev rfl) (wrap_eq (by omega) (by omega) (by omega)) zk) ?_
          refine WL.val (.int .i64 ((((k + 1) : Nat) : Int))) rfl rfl rfl (fun za zC zh zk => wp_move rfl (zh.ev rfl) zk) ?_
          refine WL.nil (WE.sub (K' := [(0, .agg #[.int .i64 f, .slice a l.length c]), (1, .int .i64 (((d : Nat) : Int))), (2, .pointer (some ⟨gy, 0, none⟩)), (3, .pointer (some ⟨gw, 0, none⟩)), (4, .pointer (some ⟨g2, 0, none⟩)), (8, .pointer (some ⟨g72, 0, none⟩)), (19, .bool false), (21, .slice a l.length c), (22, .int .i64 (((l.length : Nat) : Int))), (23, .int .i64 ((((k + 1) : Nat) : Int))), (24, .bool ((decide ((((k : Nat) : Int) : Int) < (((l.length : Nat) : Int) : Int))))), (32, .bool false)]) ⟨rfl, rfl, rfl, rfl, rfl, rfl, rfl, rfl, rfl, rfl, rfl, rfl, trivial⟩ ?_)
          refine WE.round (k + 1) ⟨rfl, rfl, rfl, rfl, rfl, rfl, rfl, rfl, rfl, trivial⟩ ?_ ?_
          · exact ⟨by omega, (by rw [T.plL_take (by omega), ← List.append_assoc]; exact hj9), (hTT.kpt (Kpt.trans (.ofBelow hb85) hkp9) (fun b q => q)), hkp93, hB94, hB95, hB96⟩
          · omega
        · refine WL.val (.bool true) rfl rfl rfl (fun za zC zh zk => wp_not rfl (zh.ev rfl) zk) ?_
          refine WL.nil (WE.sub (K' := [(0, .agg #[.int .i64 f, .slice a l.length c]), (1, .int .i64 (((d : Nat) : Int))), (2, .pointer (some ⟨gy, 0, none⟩)), (3, .pointer (some ⟨gw, 0, none⟩)), (4, .pointer (some ⟨g2, 0, none⟩)), (8, .pointer (some ⟨g72, 0, none⟩)), (19, .bool false), (21, .slice a l.length c), (22, .int .i64 (((l.length : Nat) : Int))), (23, .int .i64 (((k : Nat) : Int))), (24, .bool ((decide ((((k : Nat) : Int) : Int) < (((l.length : Nat) : Int) : Int))))), (32, .bool true)]) ⟨rfl, rfl, rfl, rfl, rfl, rfl, rfl, rfl, rfl, rfl, rfl, rfl, trivial⟩ ?_)
          refine WE.next ?_
          refine WC.condT rfl rfl ?_
          refine WC.seq ?_
          refine WC.region ?_
          refine WL.val (.bool false) rfl rfl rfl (fun za zC zh zk => wp_assign rfl (zh.ev rfl) zk) ?_
          refine WL.nil (WE.sub (K' := [(0, .agg #[.int .i64 f, .slice a l.length c]), (1, .int .i64 (((d : Nat) : Int))), (2, .pointer (some ⟨gy, 0, none⟩)), (3, .pointer (some ⟨gw, 0, none⟩)), (4, .pointer (some ⟨g2, 0, none⟩)), (6, .bool false), (8, .pointer (some ⟨g72, 0, none⟩)), (19, .bool false), (21, .slice a l.length c), (22, .int .i64 (((l.length : Nat) : Int))), (23, .int .i64 (((k : Nat) : Int))), (24, .bool ((decide ((((k : Nat) : Int) : Int) < (((l.length : Nat) : Int) : Int))))), (32, .bool true)]) ⟨rfl, rfl, rfl, rfl, rfl, rfl, rfl, rfl, rfl, rfl, rfl, rfl, rfl, trivial⟩ ?_)
          refine WE.next ?_
          refine WC.ret ?_
          refine WE.blockRet ?_
          refine WE.thenRet ?_
          refine WE.thenRet ?_
          refine WE.blockRet ?_
          refine WE.thenRet ?_
          refine WE.ret1 rfl rfl ?_
          exact ⟨_, rfl, .inr ⟨rfl, pre9, hp9.trans (by have z := T.plL_take (l := l) (k := k) (d := d + 1) (by omega); rw [List.append_assoc, ← z]; exact (List.prefix_append_right_inj _).2 T.plL_pre), hj9⟩⟩
      · have h64 : ¬ ((((k : Nat) : Int) : Int) < (((l.length : Nat) : Int) : Int)) := by simpa using h64
        refine WC.exit ?_
        refine WE.thenExit ?_
        refine WE.thenExit ?_
        refine WE.blockIs rfl ?_
        refine WE.next ?_
        refine WC.seq ?_
        refine WC.region ?_
        refine WL.val (.bool true) rfl rfl rfl (fun za zC zh zk => wp_assign rfl (zh.ev rfl) zk) ?_
        refine WL.nil (WE.sub (K' := [(0, .agg #[.int .i64 f, .slice a l.length c]), (1, .int .i64 (((d : Nat) : Int))), (2, .pointer (some ⟨gy, 0, none⟩)), (3, .pointer (some ⟨gw, 0, none⟩)), (4, .pointer (some ⟨g2, 0, none⟩)), (6, .bool true), (19, .bool false), (21, .slice a l.length c), (22, .int .i64 (((l.length : Nat) : Int))), (23, .int .i64 (((k : Nat) : Int))), (24, .bool ((decide ((((k : Nat) : Int) : Int) < (((l.length : Nat) : Int) : Int)))))]) ⟨rfl, rfl, rfl, rfl, rfl, rfl, rfl, rfl, rfl, rfl, rfl, trivial⟩ ?_)
        refine WE.next ?_
        refine WC.ret ?_
        refine WE.ret1 rfl rfl ?_
        refine ⟨_, rfl, .inl ⟨rfl, ?_, hkk⟩⟩
        have z := hJJ
        rw [List.take_of_length_le (by omega)] at z
        exact z

end
set_option maxRecDepth 100000 in
theorem places_any (t : T) (w : World) (a : Option Addr) (c : Nat) : Calls Try.prog 29 #[.agg #[.int .i64 t.f, .slice a t.args.length c]] w (Ret fun v' w' => (∃ gt, v' = .func (.func 45) #[] #[.pointer (some ⟨gt, 0, none⟩)] ∧ w.heap.size ≤ gt ∧ Blk w' gt 32 #[.int .i64 t.f, .slice a t.args.length c]) ∧ Below w.heap.size w w') := by
  refine Calls.walk (l := [.agg #[.int .i64 t.f, .slice a t.args.length c]]) Try.func29 rfl (by kernel_rfl) ?_
  refine WC.sub (K' := [(0, .agg #[.int .i64 t.f, .slice a t.args.length c])]) ⟨rfl, trivial⟩ ?_
  refine WC.seq ?_
  refine WC.region ?_
  refine WL.step (post := NewBlk w 32 #[.int .i64 t.f, .slice a t.args.length c]) rfl rfl rfl (fun za zC zh zk => box_32 rfl (zh.ev rfl) (zk _ _ (newBlk _ _ _))) ?_
  rintro _ w1 ⟨g2, rfl, hg3, hB4, hb5, hz6⟩
  have hl7 : w.heap.size ≤ g2 := by omega
  refine WL.val (.nilFunc) rfl rfl rfl (fun za zC zh zk => wp_assign rfl (zh.ev rfl) zk) ?_
  refine WL.nil (WE.sub (K' := [(0, .agg #[.int .i64 t.f, .slice a t.args.length c]), (1, .pointer (some ⟨g2, 0, none⟩)), (2, .nilFunc)]) ⟨rfl, rfl, rfl, trivial⟩ ?_)
  refine WE.next ?_
  refine WC.seq ?_
  refine WC.region ?_
  refine WL.val (.func (Fn.func 45) #[] #[.pointer (some ⟨g2, 0, none⟩)]) rfl rfl rfl (fun za zC zh zk => mkfn rfl (hv0) (hv1 (zh.ev rfl)) zk) ?_
  refine WL.val (.func (Fn.func 45) #[] #[.pointer (some ⟨g2, 0, none⟩)]) rfl rfl rfl (fun za zC zh zk => wp_assign rfl (zh.ev rfl) zk) ?_
  refine WL.nil (WE.sub (K' := [(0, .agg #[.int .i64 t.f, .slice a t.args.length c]), (1, .pointer (some ⟨g2, 0, none⟩)), (2, .func (Fn.func 45) #[] #[.pointer (some ⟨g2, 0, none⟩)])]) ⟨rfl, rfl, rfl, trivial⟩ ?_)
  refine WE.next ?_
  refine WC.ret ?_
  refine WE.ret1 rfl rfl ?_
  exact ⟨_, rfl, ⟨g2, rfl, by omega, hB4⟩, hb5⟩

set_option maxRecDepth 100000 in
theorem places_seq {w0 : World} {gt B : Nat} {t : T} {a : Option Addr} {c : Nat} (S : Nat → Prop) (hS : ∀ b, w0.heap.size ≤ b → ¬ S b) (hgT : ¬ S gt) (hBT : Blk w0 gt 32 #[.int .i64 t.f, .slice a t.args.length c]) (ht : InT (fun b => ¬ S b) w0 t (.agg #[.int .i64 t.f, .slice a t.args.length c])) (hz : t.size ≤ 4294967296) :
    SeqStopsK Fence.wide 0 Try.prog 45 #[.pointer (some ⟨gt, 0, none⟩)] (fun x => (plEnc x).toArray) (Kpt S B) (fun xs => xs = t.pl 1) (fun pre => pre <+: t.pl 1) (t.pl 1).length w0 := by
  refine seq_walk (lb := [.pointer (some ⟨gt, 0, none⟩)]) Try.func45 rfl (by kernel_rfl) ?_
  intro ly J Jx w hw0 hY hJ hJx
  have hB := hBT.below hw0
  have hT := InT.below hw0 ht
  have hsz := hw0.size
  have hl1 := hB.lt
  refine WC.sub (K' := [(0, .func (.yield ly) #[] #[]), (1, .pointer (some ⟨gt, 0, none⟩))]) ⟨rfl, rfl, trivial⟩ ?_
  refine WC.seq ?_
  refine WC.region ?_
  refine WL.step (post := NewBlk w 95 #[.func (.yield ly) #[] #[]]) rfl rfl rfl (fun za zC zh zk => box_95 rfl (zh.ev rfl) (zk _ _ (newBlk _ _ _))) ?_
  rintro _ w1 ⟨g2, rfl, hg3, hB4, hb5, hz6⟩
  have hl7 : gt < g2 := by have z1 := hB.lt; omega
  have hl8 : w.heap.size ≤ g2 := by omega
  refine WL.nil (WE.sub (K' := [(0, .func (.yield ly) #[] #[]), (1, .pointer (some ⟨gt, 0, none⟩)), (2, .pointer (some ⟨g2, 0, none⟩))]) ⟨rfl, rfl, rfl, trivial⟩ ?_)
  refine WE.next ?_
  refine WC.seq ?_
  refine WC.region ?_
  refine WL.step (post := NewBlk w1 96 #[.nilFunc]) rfl rfl rfl (fun za zC zh zk => alloc_96 rfl (zk _ _ (newBlk _ _ _))) ?_
  rintro _ w9 ⟨g10, rfl, hg11, hB12, hb13, hz14⟩
  have hl15 : gt < g10 := by have z1 := hB.lt; have z2 := (hb5).size; omega
  have hl16 : g2 < g10 := by have z1 := hB4.lt; omega
  have hl17 : w.heap.size ≤ g10 := by have z2 := (hb5).size; omega
  refine WL.nil (WE.sub (K' := [(0, .func (.yield ly) #[] #[]), (1, .pointer (some ⟨gt, 0, none⟩)), (2, .pointer (some ⟨g2, 0, none⟩)), (3, .pointer (some ⟨g10, 0, none⟩))]) ⟨rfl, rfl, rfl, rfl, trivial⟩ ?_)
  refine WE.next ?_
  refine WC.seq ?_
  refine WC.region ?_
  refine WL.val (.func (Fn.func 46) #[] #[.pointer (some ⟨g2, 0, none⟩), .pointer (some ⟨g10, 0, none⟩)]) rfl rfl rfl (fun za zC zh zk => mkfn rfl (hv0) (hv2 (zh.ev rfl) (zh.ev rfl)) zk) ?_
  refine WL.step (post := fun _ w' => Upd g10 w9 w' ∧ Blk w' g10 96 #[.func (Fn.func 46) #[] #[.pointer (some ⟨g2, 0, none⟩), .pointer (some ⟨g10, 0, none⟩)]]) rfl rfl rfl (fun za zC zh zk => st_96 rfl (zh.ev rfl) (zh.ev rfl) hB12 (by first | decide | simp) (fun v => zk v _ ⟨Upd.at_ _ _ _ _, hB12.set_ 0 _⟩)) ?_
  rintro v21 w18 ⟨hu19, hB20⟩
  have hb22 : Below w.heap.size w w9 := (bstep hb5 hb13)
  have hb23 := upd_below hb22 hu19 (by omega)
  have hB24 := hB.below hb22
  have hB25 := upd_blk hB24 hu19 (by omega)
  have hB26 := hB4.below hb13
  have hB27 := upd_blk hB26 hu19 (by omega)
  refine WL.nil (WE.sub (K' := [(0, .func (.yield ly) #[] #[]), (1, .pointer (some ⟨gt, 0, none⟩)), (2, .pointer (some ⟨g2, 0, none⟩)), (3, .pointer (some ⟨g10, 0, none⟩))]) ⟨rfl, rfl, rfl, rfl, trivial⟩ ?_)
  refine WE.next ?_
  refine WC.region ?_
  refine WL.val (.func (Fn.func 46) #[] #[.pointer (some ⟨g2, 0, none⟩), .pointer (some ⟨g10, 0, none⟩)]) rfl rfl rfl (fun za zC zh zk => ld_96 rfl (zh.ev rfl) ((hB20.cell 0).trans rfl) zk) ?_
  refine WL.val (.agg #[.int .i64 t.f, .slice a t.args.length c]) rfl rfl rfl (fun za zC zh zk => ld_32 rfl (zh.ev rfl) ((hB25.cell 0).trans rfl) ((hB25.cell 1).trans rfl) zk) ?_
  refine WL.call rfl rfl rfl (fun za zh zC => wp_callv (by kernel_rfl) rfl (zh.ev rfl) (hv2 (zh.ev rfl) (zh.ev rfl))) (walkpl_any (S := S) (nb := w0.heap.size) hY hJ.abide hS (hS _ (by omega)) (hS _ (by omega)) t 1 [] _ _ (by have z := hb23.size; omega) hB27 hB20 (InT.below hb23 hT) (abide_below hJ.abide hJ.now hb23) (by simp) (by omega)) ?_
  rintro v w28 hor
  refine WL.nil (WE.sub (K' := [(0, .func (.yield ly) #[] #[]), (1, .pointer (some ⟨gt, 0, none⟩)), (2, .pointer (some ⟨g2, 0, none⟩)), (3, .pointer (some ⟨g10, 0, none⟩))]) ⟨rfl, rfl, rfl, rfl, trivial⟩ ?_)
  refine WE.end0 rfl ?_
  refine ⟨⟨_, rfl⟩, ?_⟩
  rcases hor with ⟨_, h1, _⟩ | ⟨_, pre9, h1, h2⟩
  · exact .inl ⟨_, rfl, by simpa using h1⟩
  · exact .inr ⟨pre9, by simpa using h1, h2⟩

end Go.Proofs.Ytnblndmjjokepaa
