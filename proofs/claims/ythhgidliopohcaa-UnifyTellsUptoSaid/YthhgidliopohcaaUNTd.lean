/- Copies of terms: the program and the document. -/
import Derived.Test.YthhgidliopohcaaUNTc
import Derived.Test.YthhgidliopohcaaUNTb
import Derived.Test.YthhgidliopohcaaUNTa

/- Loops over functions that lay boxes of their own: a round leaves all cells outside 'S' as they are. -/
namespace Go.Proofs.Ythhgidliopohcaa
open Go.RowKit Go
set_option linter.unusedVariables false
set_option linter.unusedSimpArgs false
/-- What is cells, outside 'S', stays; so does all below 'B', outside 'S'. -/
structure Kpt (S : Nat → Prop) (B : Nat) (w w' : World) : Prop where
  os : w'.os = w.os
  tape : w'.tape = w.tape
  output : w'.output = w.output
  size : w.heap.size ≤ w'.heap.size
  block : ∀ (k : Nat) (o : Obj), w.heap[k]? = some o → (o.isCells = true ∨ k < B) → ¬ S k → w'.heap[k]? = some o
theorem Chg.toBelow {w w' : World} (h : Chg (fun b => b < 0) w w') : Below w.heap.size w w' := ⟨h.os, h.tape, h.output, h.size, fun k hk => h.block k hk (fun q => by omega)⟩
section
variable {S : Nat → Prop} {B : Nat} {w w' w'' : World}
theorem Kpt.refl : Kpt S B w w := ⟨rfl, rfl, rfl, Nat.le_refl _, fun _ _ h _ _ => h⟩
theorem Kpt.trans (h : Kpt S B w w') (k : Kpt S B w' w'') : Kpt S B w w'' :=
  ⟨k.os.trans h.os, k.tape.trans h.tape, k.output.trans h.output, Nat.le_trans h.size k.size, fun i o hi ho hS => k.block i o (h.block i o hi ho hS) ho hS⟩
theorem Kpt.ofChg (h : Chg S w w') : Kpt S B w w' := ⟨h.os, h.tape, h.output, h.size, fun k o hk _ hS => (h.block k (Array.getElem?_eq_some_iff.1 hk).1 hS).trans hk⟩
theorem Kpt.ofBelow (h : Below w.heap.size w w') : Kpt S B w w' := Kpt.ofChg (.ofBelow h)
theorem Kpt.put {l : Nat} {o o' : Obj} (hl : B ≤ l) (h : w.heap[l]? = some o) (ho : o.isCells = false) : Kpt S B w (w.putObj l o') := by
  have hg := grownBy_putObj' w l o'
  refine ⟨hg.os, hg.tape, hg.output, hg.size, fun k u hk hu hS => (hg.block k (Array.getElem?_eq_some_iff.1 hk).1 (fun e => ?_)).trans hk⟩
  obtain rfl : k = l := Option.some.inj e
  rw [h] at hk; obtain rfl := Option.some.inj hk
  rcases hu with hu | hu
  · rw [ho] at hu; cases hu
  · omega
theorem Kpt.blk {b : Nat} {t : TypeId} {cs : Array Value} (k : Kpt S B w w') (h : Blk w b t cs) (hS : ¬ S b) : Blk w' b t cs := k.block b _ h (.inl rfl) hS
theorem Kpt.below {w0 : World} (k : Kpt S B w w') (h : Below w0.heap.size w0 w) (hB : w0.heap.size ≤ B) (hS : ∀ b, b < w0.heap.size → ¬ S b) : Below w0.heap.size w0 w' :=
  ⟨k.os.trans h.os, k.tape.trans h.tape, k.output.trans h.output, Nat.le_trans h.size k.size, fun i hi => by
    have := h.block i hi
    rw [Array.getElem?_eq_getElem hi] at this ⊢
    exact k.block i _ this (.inr (by omega)) (hS i hi)⟩
theorem Kpt.cell {p : Addr} {v : Value} (k : Kpt S B w w') (hS : ¬ S p.block) (h : w.cell? p = some v) : w'.cell? p = some v := by
  have hlt := World.block_lt_of_cell? _ _ h
  have hh := h
  unfold World.cell? at h ⊢
  rw [Array.getElem?_eq_getElem hlt] at h
  have hc : (w.heap[p.block]).isCells = true := by
    cases hx : w.heap[p.block] with
    | cells a b c => rfl
    | _ => simp [hx] at h
  rw [k.block p.block _ (Array.getElem?_eq_getElem hlt) (.inl hc) hS]
  exact h
end
section
variable {P : Program} {N : Nat} {ds : List Deferred}
end
structure Marks (B : Nat) (w : World) (l : List Nat) : Prop where
  nodup : l.Nodup
  at_ : ∀ D, D ∈ l → B ≤ D ∧ Mk w D
section
variable {B : Nat} {w w' : World} {l : List Nat}
theorem Marks.nil : Marks B w [] := ⟨List.nodup_nil, fun D h => by simp at h⟩
theorem Marks.base (h : Marks B w l) {D : Nat} (hD : D ∈ l) : B ≤ D := (h.at_ D hD).1
theorem Marks.lt (h : Marks B w l) {D : Nat} (hD : D ∈ l) : D < w.heap.size := (h.at_ D hD).2.lt
theorem Marks.below (h : Marks B w l) (hb : Below w.heap.size w w') : Marks B w' l := ⟨h.nodup, fun D hD => ⟨h.base hD, (h.at_ D hD).2.below hb⟩⟩
theorem Marks.upd {g : Nat} (h : Marks B w l) (hu : Upd g w w') (hg : ∃ o : Obj, w.heap[g]? = some o ∧ o.isCells = true) : Marks B w' l := ⟨h.nodup, fun D hD => ⟨h.base hD, (h.at_ D hD).2.upd hu (fun e => by
  obtain ⟨o, h1, h2⟩ := hg
  have h3 := (h.at_ D hD).2
  subst e
  unfold Mk at h3
  rw [h1] at h3
  obtain rfl := Option.some.inj h3
  cases h2)⟩⟩
theorem Marks.chg {S : Nat → Prop} (h : Marks B w l) (hc : Chg S w w') (hS : ∀ D, D ∈ l → ¬ S D) : Marks B w' l := ⟨h.nodup, fun D hD => ⟨h.base hD, (h.at_ D hD).2.chg hc (hS D hD)⟩⟩
theorem Marks.turn {Bt : Nat} (h : Marks B w l) (t : Turn Bt w w') (hl : ∀ D, D ∈ l → D < Bt) : Marks B w' l := ⟨h.nodup, fun D hD => ⟨h.base hD, t.block D _ (h.at_ D hD).2 (.inr (hl D hD))⟩⟩
theorem Marks.cons {D : Nat} (h : Marks B w l) (hw : Mk w D) (hB : B ≤ D) (hn : ∀ D', D' ∈ l → D' < D) : Marks B w (D :: l) :=
  ⟨List.nodup_cons.2 ⟨fun q => Nat.lt_irrefl _ (hn D q), h.nodup⟩, fun D' hD' => by
    rcases List.mem_cons.1 hD' with rfl | q
    · exact ⟨hB, hw⟩
    · exact h.at_ D' q⟩
end
section
variable {P : Program} {n : Fr} {K : Known} {w : World} {c : Code} {Q : Exit → Act → World → Prop}
end
end Go.Proofs.Ythhgidliopohcaa

/- What a part becomes is measured: the program. -/
namespace Go.Proofs.Ythhgidliopohcaa
open Go.RowKit Go
set_option linter.unusedVariables false
set_option linter.unusedSimpArgs false
theorem args_le : ∀ {N : List Pt} {r : Nat}, r < N.length → (pget N r).args.length ≤ argN N
 | x :: N, 0, _ => by show x.args.length ≤ _; unfold argN; rw [List.map_cons, List.sum_cons]; omega
 | x :: N, r + 1, h => by
  have := args_le (N := N) (r := r) (by simpa using h)
  have e : pget (x :: N) (r + 1) = pget N r := rfl
  rw [e]; unfold argN at *; rw [List.map_cons, List.sum_cons]; omega
/-- How measuring stands. -/
structure AS where
 k : Nat
 U : List Nat
 ms : List Ms
set_option maxRecDepth 100000 in
theorem pask_any (κ d : Nat → Nat) (N : List Pt) (V : Nat → Nat) (g : Nat) (S : Nat → Prop) (ub uc : Nat) (oa : Option Addr) (oc mb mc : Nat) (hk : KOk N κ) (hN : NOk N) (hn : N.length ≤ 1048576) (hs : argN N ≤ 1048576) (n : Nat) : ∀ (ms : List Ms) (U : List Nat) (i : Nat) (w : World), unS ms ≤ n → PN w g S (some ⟨ub, 0, none⟩) uc oa oc U N V → Reps U κ d → AskOk N κ ms → MB w mb ms → ¬ PZ g S (some ⟨ub, 0, none⟩) uc oa oc N.length mb → i < N.length →
  Calls Try.prog 45 #[.pointer (some ⟨g, 0, none⟩), .slice (some ⟨mb, 0, none⟩) N.length mc, .int .i64 (i : Int)] w (Ret fun v' w' => ∃ bb : Bool, v' = .bool bb ∧ Chg (fun b => b = ub ∨ b = mb) w w' ∧ (bb = true → ∃ U' ms', Reps U' κ d ∧ PN w' g S (some ⟨ub, 0, none⟩) uc oa oc U' N V ∧ MB w' mb ms' ∧ AskOk N κ ms' ∧ MExt ms ms' ∧ 0 < (mget ms' (κ i)).sz) ∧ (bb = false → NoMeas N κ ms i)) := by
 induction n using Nat.strongRecOn with
 | _ n ih => ?_
 intro ms U i w hun hP hR hA hM hmZ hi
 have hC0 := Chg.refl (fun b => b = ub ∨ b = mb) w
 have hubZ : PZ g S (some ⟨ub, 0, none⟩) uc oa oc N.length ub := .inr (.inl rfl)
 have hum : mb ≠ ub := fun e => hmZ (e ▸ hubZ)
 have hlr : κ i < N.length := hk.lt _ hi
 have hkr : κ (κ i) = κ i := hk.idem _
 have hml := hA.len
 have hal9 := args_le hlr
 have hubl := hP.lt ub hubZ
 have hSub : ∀ b, S b → ¬ (b = ub ∨ b = mb) := fun b q e => e.elim (fun e => (hP.uS ub rfl).1 (e ▸ q)) (fun e => hmZ (e ▸ .inr (.inr (.inr q))))
 refine Calls.walk (l := [.pointer (some ⟨g, 0, none⟩), .slice ((some ⟨mb, 0, none⟩)) N.length mc, .int .i64 (((i : Nat) : Int))]) Try.func45 rfl (by kernel_rfl) ?_
 refine WC.sub (K' := [(0, .pointer (some ⟨g, 0, none⟩)), (1, .slice ((some ⟨mb, 0, none⟩)) N.length mc), (2, .int .i64 (((i : Nat) : Int)))]) ⟨rfl, rfl, rfl, trivial⟩ ?_
 refine WC.seq (WC.region (WL.asg rfl rfl rfl rfl rfl (WL.nil (WE.next (WC.seq (WC.region (WL.mv rfl rfl rfl rfl rfl ?_)))))))
 refine WL.val _ rfl rfl rfl (fun za zC zh zk => nilCheck_ rfl (zh.ev rfl) zk) ?_
 refine WL.val _ rfl rfl rfl (fun za zC zh zk => fld_54_0 rfl (zh.ev rfl) zk) ?_
 refine WL.mv rfl rfl rfl rfl rfl ?_
 refine WL.call rfl rfl rfl (fun za zh zC => wp_call (by kernel_rfl) rfl (hv2 (zh.ev rfl) (zh.ev rfl))) (ptop_pn κ d U N V g S ub uc _ oc i _ hP hR hi hn) ?_
 rintro _ w5 ⟨rfl, ⟨U1, hR2, hP3⟩, hc4⟩
 have hM6 := hM.chg hc4 (fun e => hum e)
 have hC7 := Chg.trans hC0 (Chg.mono (S' := (fun b => b = ub ∨ b = mb)) hc4 (fun b e => .inl e))
 refine WL.asg rfl rfl rfl rfl rfl (WL.nil (WE.next (WC.seq (WC.block (WC.seq (WC.region (WL.mv rfl rfl rfl rfl rfl (WL.mv rfl rfl rfl rfl rfl ?_))))))))
 refine WL.val _ rfl rfl rfl (fun za zC zh zk => ix_45 (k := (κ i)) rfl (zh.ev rfl) rfl (zh.ev rfl) (by first | omega | (simp; omega)) zk) ?_
 refine WL.val _ rfl rfl rfl (fun za zC zh zk => fld_59_2 rfl (zh.ev rfl) zk) ?_
 refine WL.val _ rfl rfl rfl (fun za zC zh zk => ld_4 rfl (zh.ev rfl) (hM6.c2 (by first | omega | (simp only [List.length_set]; omega))) zk) ?_
 refine WL.asg rfl rfl rfl rfl rfl (WL.nil (WE.next ?_))
 refine WC.cond rfl (fun h8 => ?_) (fun h8 => ?_)
 ·skip
  refine WC.seq (WC.region (WL.asg rfl rfl rfl rfl rfl (WL.nil (WE.next (WC.ret (WE.blockRet (WE.thenRet (WE.ret1 rfl rfl ?_))))))))
  exact ⟨_, rfl, false, rfl, hC7, (fun e => nomatch e), (fun _ sz dp hm => ⟨κ i, by simpa using h8, Nat.le_refl _⟩)⟩
 ·skip
  refine WC.seq (WC.region (WL.mv rfl rfl rfl rfl rfl (WL.mv rfl rfl rfl rfl rfl ?_)))
  refine WL.val _ rfl rfl rfl (fun za zC zh zk => ix_45 (k := (κ i)) rfl (zh.ev rfl) rfl (zh.ev rfl) (by first | omega | (simp; omega)) zk) ?_
  refine WL.val _ rfl rfl rfl (fun za zC zh zk => fld_59_0 rfl (zh.ev rfl) zk) ?_
  refine WL.val _ rfl rfl rfl (fun za zC zh zk => ld_3 rfl (zh.ev rfl) (hM6.c0 (by first | omega | (simp only [List.length_set]; omega))) zk) ?_
  refine WL.val (.bool ((decide ((0 : Int) < ((((mget ms ((κ i))).sz : Nat) : Int) : Int))))) rfl rfl rfl (fun za zC zh zk => gtr_3 rfl (zh.ev rfl) (zh.ev rfl) zk) ?_
  refine WL.asg rfl rfl rfl rfl rfl (WL.nil (WE.next ?_))
  refine WC.cond rfl (fun h9 => ?_) (fun h9 => ?_)
  ·have h9 : (0 : Int) < ((((mget ms ((κ i))).sz : Nat) : Int) : Int) := by simpa using h9
   refine WC.seq (WC.region (WL.asg rfl rfl rfl rfl rfl (WL.nil (WE.next (WC.ret (WE.blockRet (WE.thenRet (WE.ret1 rfl rfl ?_))))))))
   exact ⟨_, rfl, true, rfl, hC7, (fun _ => ⟨U1, ms, hR2, hP3, hM6, hA, MExt.refl _, by omega⟩), (fun e => nomatch e)⟩
  ·have h9 : ¬ ((0 : Int) < ((((mget ms ((κ i))).sz : Nat) : Int) : Int)) := by simpa using h9
   refine WC.skip (WE.blockNormal (WE.next (WC.seq (WC.region (WL.mv rfl rfl rfl rfl rfl (WL.mv rfl rfl rfl rfl rfl ?_))))))
   refine WL.val _ rfl rfl rfl (fun za zC zh zk => ix_45 (k := (κ i)) rfl (zh.ev rfl) rfl (zh.ev rfl) (by first | omega | (simp; omega)) zk) ?_
   refine WL.val _ rfl rfl rfl (fun za zC zh zk => fld_59_2 rfl (zh.ev rfl) zk) ?_
   have hz0 : (mget ms (κ i)).sz = 0 := by omega
   have hz1 : (mget ms (κ i)).op = false := by simpa using h8
   obtain ⟨hA1, hu1⟩ := hA.opn hlr hz0 hz1
   obtain ⟨⟨cs10, hB11, hs12⟩, hM13⟩ := hM6.setOp (r := κ i) (by first | omega | (simp only [List.length_set]; omega))
   refine WL.step (post := fun _ w' => Upd mb w5 w' ∧ MB w' mb (ms.set (κ i) ⟨(mget ms (κ i)).sz, (mget ms (κ i)).dp, true⟩)) rfl rfl rfl (fun za zC zh zk => st_4 rfl (zh.ev rfl) (zh.ev rfl) hB11 hs12 (fun v => zk v _ ⟨Upd.at_ _ _ _ _, hM13⟩)) ?_
   rintro u14 w15 ⟨hu16, hM17⟩
   have hc19 : Chg (fun b => b = mb) w5 w15 := .ofUpd hu16 rfl
   have hP18 := PN.upd hP3 hu16 hmZ
   have hC20 := Chg.trans hC7 (Chg.mono (S' := (fun b => b = ub ∨ b = mb)) hc19 (fun b e => .inr e))
   refine WL.nil (WE.sub (K' := [(0, .pointer (some ⟨g, 0, none⟩)), (1, .slice ((some ⟨mb, 0, none⟩)) N.length mc), (2, .int .i64 ((((κ i) : Nat) : Int))), (6, .bool false), (17, .bool ((mget ms ((κ i))).op)), (23, .bool ((decide ((0 : Int) < ((((mget ms ((κ i))).sz : Nat) : Int) : Int)))))]) ⟨rfl, rfl, rfl, rfl, rfl, rfl, trivial⟩ ?_)
   refine WE.next (WC.seq (WC.region (WL.asg rfl rfl rfl rfl rfl (WL.asg rfl rfl rfl rfl rfl (WL.nil (WE.next (WC.seq (WC.seq ?_))))))))
   obtain ⟨ob, A9, C9, rfl, hob, hcP⟩ := hP18.ofP (by omega)
   refine WC.region (WL.mv rfl rfl rfl rfl rfl ?_)
   refine WL.val _ rfl rfl rfl (fun za zC zh zk => nilCheck_ rfl (zh.ev rfl) zk) ?_
   refine WL.val _ rfl rfl rfl (fun za zC zh zk => fld_54_0 rfl (zh.ev rfl) zk) ?_
   refine WL.val _ rfl rfl rfl (fun za zC zh zk => fld_51_1 rfl (zh.ev rfl) zk) ?_
   refine WL.val _ rfl rfl rfl (fun za zC zh zk => ld_49 rfl (zh.ev rfl) hP18.c1 zk) ?_
   refine WL.mv rfl rfl rfl rfl rfl ?_
   refine WL.val _ rfl rfl rfl (fun za zC zh zk => ix_49 (k := (κ i)) rfl (zh.ev rfl) rfl (zh.ev rfl) (by first | omega | (simp; omega)) zk) ?_
   refine WL.val _ rfl rfl rfl (fun za zC zh zk => fld_57_1 rfl (zh.ev rfl) zk) ?_
   refine WL.val _ rfl rfl rfl (fun za zC zh zk => ld_48 rfl (zh.ev rfl) (hcP ((κ i)) (by first | omega | (simp; omega))).2.1 zk) ?_
   refine WL.val (.int .i64 ((((pget N ((κ i))).args.length : Nat) : Int))) rfl rfl rfl (fun za zC zh zk => len_48 rfl (zh.ev rfl) zk) ?_
   refine WL.mv rfl rfl rfl rfl rfl (WL.nil (WE.next (WC.block ?_)))
   refine WC.loop (X := AS) (fun x => (pget N (κ i)).args.length - x.k) (fun x => [(0, .pointer (some ⟨g, 0, none⟩)), (1, .slice ((some ⟨mb, 0, none⟩)) N.length mc), (2, .int .i64 ((((κ i) : Nat) : Int))), (7, .int .i64 ((((szF κ (msz x.ms) ((pget N (κ i)).args.take x.k)) : Nat) : Int))), (8, .int .i64 ((((dpF κ (mdp x.ms) ((pget N (κ i)).args.take x.k)) : Nat) : Int))), (17, .bool ((mget ms ((κ i))).op)), (23, .bool ((decide ((0 : Int) < ((((mget ms ((κ i))).sz : Nat) : Int) : Int))))), (42, .slice ((A9 ((κ i)))) ((pget N ((κ i))).args.length) ((C9 ((κ i))))), (43, .int .i64 ((((pget N ((κ i))).args.length : Nat) : Int))), (44, .int .i64 (((x.k : Nat) : Int)))]) (fun x w21 => x.k ≤ (pget N (κ i)).args.length ∧ Reps x.U κ d ∧ AskOk N κ x.ms ∧ MExt (ms.set (κ i) ⟨(mget ms (κ i)).sz, (mget ms (κ i)).dp, true⟩) x.ms ∧ (∀ a ∈ (pget N (κ i)).args.take x.k, 0 < (mget x.ms (κ a)).sz) ∧ Chg (fun b => b = ub ∨ b = mb) w w21 ∧ PN (w21) g S (some ⟨ub, 0, none⟩) uc (some ⟨ob, 0, none⟩) oc x.U N V ∧ MB (w21) mb x.ms ∧ InRow eltN S (w21) (pget N (κ i)).args (A9 (κ i))) (⟨0, U1, (ms.set (κ i) ⟨(mget ms (κ i)).sz, (mget ms (κ i)).dp, true⟩)⟩) ⟨rfl, rfl, rfl, rfl, rfl, rfl, rfl, rfl, rfl, rfl, trivial⟩ ?_ ?_
   ·exact ⟨Nat.zero_le _, hR2, hA1, MExt.refl _, (fun a h9 => by simp at h9), hC20, hP18, hM17, (hcP (κ i) hlr).2.2⟩
   ·rintro x w21 ⟨hkx, hRx, hAx, hEx, hDx, hCx, ho22, ho23, ho24⟩
    have hmx := hAx.len
    refine WC.seq (WC.region ?_)
    refine WL.val (.bool ((decide ((((x.k : Nat) : Int) : Int) < ((((pget N ((κ i))).args.length : Nat) : Int) : Int))))) rfl rfl rfl (fun za zC zh zk => lss_3 rfl (zh.ev rfl) (zh.ev rfl) zk) ?_
    refine WL.nil (WE.next (WC.seq ?_))
    refine WC.cond rfl (fun h25 => ?_) (fun h25 => ?_)
    ·have h25 : (((x.k : Nat) : Int) : Int) < ((((pget N ((κ i))).args.length : Nat) : Int) : Int) := by simpa using h25
     refine WC.skip (WE.next (WC.seq (WC.block (WC.seq (WC.region ?_)))))
     obtain ⟨b26, o27, ha28, hS29, hc30⟩ := InRow.openNS ho24
     have hSb31 := hS29 x.k (by first | omega | (simp; omega))
     refine WL.val _ rfl rfl rfl (fun za zC zh zk => ix_48 (k := x.k) rfl (zh.ev rfl) (ha28 x.k (by first | omega | (simp; omega))) (zh.ev rfl) (by first | omega | (simp; omega)) zk) ?_
     refine WL.val _ rfl rfl rfl (fun za zC zh zk => ld_3 rfl (zh.ev rfl) (hc30 x.k (by first | omega | (simp; omega))) zk) ?_
     refine WL.asg rfl rfl rfl rfl rfl (WL.nil (WE.next (WC.seq (WC.seq (WC.region (WL.mv rfl rfl rfl rfl rfl (WL.mv rfl rfl rfl rfl rfl (WL.mv rfl rfl rfl rfl rfl ?_))))))))
     have hkl : x.k < (pget N (κ i)).args.length := by omega
     have ham : (aget (pget N (κ i)).args x.k) ∈ (pget N (κ i)).args := aget_mem hkl
     have hal : (aget (pget N (κ i)).args x.k) < N.length := by have z := (hN (κ i) hlr).1 _ ham; omega
     have hux := hEx.un
     refine WL.call rfl rfl rfl (fun za zh zC => wp_call (by kernel_rfl) rfl (hv3 (zh.ev rfl) (zh.ev rfl) (zh.ev rfl))) (ih (n - 1) (by omega) x.ms x.U (aget (pget N (κ i)).args x.k) _ (by omega) ho22 hRx hAx ho23 hmZ hal) ?_
     rintro _ w36 ⟨bb32, rfl, hc33, h34, h35⟩
     have hC37 := Chg.trans hCx hc33
     have ha38 := ho24.chgS hc33 (fun q e h9 => hSub q e h9)
     refine WL.val (.bool ((!bb32))) rfl rfl rfl (fun za zC zh zk => wp_not rfl (zh.ev rfl) zk) ?_
     refine WL.nil (WE.next ?_)
     refine WC.cond rfl (fun h39 => ?_) (fun h39 => ?_)
     ·have h39 : ¬ (bb32 = true) := by simpa using h39
      refine WC.seq (WC.region (WL.asg rfl rfl rfl rfl rfl (WL.nil (WE.next (WC.ret (WE.thenRet (WE.blockRet (WE.thenRet (WE.thenRet (WE.blockRet (WE.thenRet (WE.ret1 rfl rfl ?_))))))))))))
      exact ⟨_, rfl, false, rfl, hC37, (fun e => nomatch e), fun _ => NoMeas.up hi hml hlr hEx ham (h35 (by simpa using h39))⟩
     ·have h39 : ¬ (¬ (bb32 = true)) := by simpa using h39
      refine WC.skip (WE.next (WC.seq ?_))
      obtain ⟨U3, ms3, hR3, hP3, hM3, hA3, hE3, hD3⟩ := h34 (by simpa using h39)
      have hE4 := hEx.trans hE3
      have hm3 := hA3.len
      have hka : κ (aget (pget N (κ i)).args x.k) < N.length := hk.lt _ hal
      have htk := List.take_succ_eq_append_getElem hkl
      rw [← aget_lt hkl] at htk
      have hD4 : ∀ a ∈ (pget N (κ i)).args.take (x.k + 1), 0 < (mget ms3 (κ a)).sz := fun a h9 => by
       rw [htk] at h9
       rcases List.mem_append.1 h9 with z | z
       ·rw [hE3.keep _ (.inr (hDx a z))]; exact hDx a z
       ·rw [List.mem_singleton.1 z]; exact hD3
      have hS4 : (szF κ (msz ms3) ((pget N (κ i)).args.take (x.k + 1))) = min ((szF κ (msz x.ms) ((pget N (κ i)).args.take x.k)) + (mget ms3 (κ (aget (pget N (κ i)).args x.k))).sz) capS := by rw [htk, szF_snoc, szF_congr (f := msz ms3) (g := msz x.ms) _ (fun a h9 => by show (mget ms3 (κ a)).sz = _; rw [hE3.keep _ (.inr (hDx a h9))])]
      have hD5 : (dpF κ (mdp ms3) ((pget N (κ i)).args.take (x.k + 1))) = max (dpF κ (mdp x.ms) ((pget N (κ i)).args.take x.k)) ((mget ms3 (κ (aget (pget N (κ i)).args x.k))).dp + 1) := by rw [htk, dpF_snoc, dpF_congr (f := mdp ms3) (g := mdp x.ms) _ (fun a h9 => by show (mget ms3 (κ a)).dp = _; rw [hE3.keep _ (.inr (hDx a h9))])]
      have hb3 := hA3.bnd _ hD3
      have hn3 := ndS_le ms3
      have hsp := szF_pos (κ := κ) (f := msz x.ms) ((pget N (κ i)).args.take x.k)
      unfold capS at hb3 hsp hS4
      refine WC.region (WL.mv rfl rfl rfl rfl rfl (WL.mv rfl rfl rfl rfl rfl ?_))
      refine WL.val _ rfl rfl rfl (fun za zC zh zk => nilCheck_ rfl (zh.ev rfl) zk) ?_
      refine WL.val _ rfl rfl rfl (fun za zC zh zk => fld_54_0 rfl (zh.ev rfl) zk) ?_
      refine WL.mv rfl rfl rfl rfl rfl ?_
      refine WL.call rfl rfl rfl (fun za zh zC => wp_call (by kernel_rfl) rfl (hv2 (zh.ev rfl) (zh.ev rfl))) (ptop_pn κ d U3 N V g S ub uc _ oc (aget (pget N (κ i)).args x.k) _ hP3 hR3 hal hn) ?_
      rintro _ w44 ⟨rfl, ⟨U40, hR41, hP42⟩, hc43⟩
      have hM45 := hM3.chg hc43 (fun e => hum e)
      have hC46 := Chg.trans hC37 (Chg.mono (S' := (fun b => b = ub ∨ b = mb)) hc43 (fun b e => .inl e))
      have ha47 := ha38.chgS (Chg.mono (S' := (fun b => b = ub ∨ b = mb)) hc43 (fun b e => .inl e)) (fun q e h9 => hSub q e h9)
      refine WL.val _ rfl rfl rfl (fun za zC zh zk => ix_45 (k := (κ (aget (pget N (κ i)).args x.k))) rfl (zh.ev rfl) rfl (zh.ev rfl) (by first | omega | (simp; omega)) zk) ?_
      refine WL.val _ rfl rfl rfl (fun za zC zh zk => ld_59 rfl (zh.ev rfl) (hM45.c0 (by first | omega | (simp only [List.length_set]; omega))) (hM45.c1 (by first | omega | (simp only [List.length_set]; omega))) (hM45.c2 (by first | omega | (simp only [List.length_set]; omega))) zk) ?_
      refine WL.step (post := NewBlk w44 59 #[.int .i64 0, .int .i64 0, .bool false]) rfl rfl rfl (fun za zC zh zk => alloc_59 rfl (zk _ _ (newBlk _ _ _))) ?_
      rintro _ w48 ⟨g49, rfl, hg50, hB51, hb52, hz53⟩
      have hl54 : w44.heap.size ≤ g49 := by omega
      refine WL.step (post := fun _ w' => Upd g49 w48 w' ∧ Blk w' g49 59 #[.int .i64 ((((mget ms3 ((κ (aget (pget N (κ i)).args x.k)))).sz : Nat) : Int)), .int .i64 ((((mget ms3 ((κ (aget (pget N (κ i)).args x.k)))).dp : Nat) : Int)), .bool ((mget ms3 ((κ (aget (pget N (κ i)).args x.k)))).op)]) rfl rfl rfl (fun za zC zh zk => st_59 rfl (zh.ev rfl) (zh.ev rfl) rfl rfl rfl hB51 (by first | decide | simp) (fun v => zk v _ ⟨((Upd.at_ _ _ _ _).trans (Upd.at_ _ _ _ _)).trans (Upd.at_ _ _ _ _), ((hB51.set_ 0 _).set_ 1 _).set_ 2 _⟩)) ?_
      rintro v58 w55 ⟨hu56, hB57⟩
      have hb59 := upd_below hb52 hu56 (by omega)
      refine WL.nil (WE.next ?_)
      refine WC.seqV (S := ((fun b => b < 0))) [(true, .val (.int .i64 ((((szF κ (msz x.ms) ((pget N (κ i)).args.take x.k)) : Nat) : Int)))), (true, .val (.pointer (some ⟨g49, 0, none⟩))), (true, .val (.int .i64 ((((mget ms3 ((κ (aget (pget N (κ i)).args x.k)))).sz : Nat) : Int)))), (true, .val (.int .i64 (((((szF κ (msz x.ms) ((pget N (κ i)).args.take x.k)) + (mget ms3 ((κ (aget (pget N (κ i)).args x.k)))).sz) : Nat) : Int)))), (true, .val (.int .i64 ((min (((((szF κ (msz x.ms) ((pget N (κ i)).args.take x.k)) + (mget ms3 ((κ (aget (pget N (κ i)).args x.k)))).sz) : Nat) : Int)) 1099511627776)))), (true, .val (.int .i64 ((((dpF κ (mdp x.ms) ((pget N (κ i)).args.take x.k)) : Nat) : Int)))), (true, .val (.pointer (some ⟨g49, 1, none⟩))), (true, .val (.int .i64 ((((mget ms3 ((κ (aget (pget N (κ i)).args x.k)))).dp : Nat) : Int)))), (true, .val (.int .i64 (((((mget ms3 ((κ (aget (pget N (κ i)).args x.k)))).dp + 1) : Nat) : Int)))), (true, .val (.int .i64 ((max ((((dpF κ (mdp x.ms) ((pget N (κ i)).args.take x.k)) : Nat) : Int)) (((((mget ms3 ((κ (aget (pget N (κ i)).args x.k)))).dp + 1) : Nat) : Int)))))), (true, .val undef), (true, .val undef)] [(0, .pointer (some ⟨g, 0, none⟩)), (1, .slice ((some ⟨mb, 0, none⟩)) N.length mc), (2, .int .i64 ((((κ i) : Nat) : Int))), (10, .int .i64 ((((aget ((pget N (κ i)).args) x.k) : Nat) : Int))), (11, .pointer (some ⟨g49, 0, none⟩)), (17, .bool ((mget ms ((κ i))).op)), (23, .bool ((decide ((0 : Int) < ((((mget ms ((κ i))).sz : Nat) : Int) : Int))))), (42, .slice ((A9 ((κ i)))) ((pget N ((κ i))).args.length) ((C9 ((κ i))))), (43, .int .i64 ((((pget N ((κ i))).args.length : Nat) : Int))), (44, .int .i64 (((x.k : Nat) : Int))), (45, .bool ((decide ((((x.k : Nat) : Int) : Int) < ((((pget N ((κ i))).args.length : Nat) : Int) : Int))))), (52, .bool ((!bb32)))] [10, 11] [some (true, .int .i64 ((((szF κ (msz ms3) ((pget N (κ i)).args.take (x.k + 1))) : Nat) : Int))), some (true, .int .i64 ((((dpF κ (mdp ms3) ((pget N (κ i)).args.take (x.k + 1))) : Nat) : Int)))] (fun _ _ => True) ((fun _ _ _ _ _ => trivial)) (by decide) ⟨rfl, rfl, rfl, rfl, rfl, rfl, rfl, rfl, rfl, rfl, rfl, rfl, trivial⟩ (by kernel_rfl) (by kernel_rfl) (by kernel_rfl) (by kernel_rfl) trivial ?_ ?_
      ·refine ⟨.inl ⟨rfl, true, .none rfl, (fun gg b h => by cases h), fun h w => optUndef h, fun zβ za zw zc => ?_⟩, ?_⟩
       ·exact wp_move rfl ((evt za 7).trans (zc.old 7 _ rfl (by kernel_rfl))) ⟨_, rfl, Below.refl _ _, optDef zβ rfl⟩
       refine ⟨.inl ⟨rfl, true, .none rfl, (fun gg b h => by cases h), fun h w => optUndef h, fun zβ za zw zc => ?_⟩, ?_⟩
       ·exact fld_59_0 rfl (zc.kn.ev rfl) ⟨_, rfl, Below.refl _ _, optDef zβ rfl⟩
       refine ⟨.inl ⟨rfl, true, .none rfl, (fun gg b h => by cases h), fun h w => optUndef h, fun zβ za zw zc => ?_⟩, ?_⟩
       ·exact ld_3 rfl ((evt za 62).trans (optSVal (zc.dep 1 62 (by kernel_rfl) (by decide)) rfl rfl)) (chg_cell zc.chg (by (try dsimp only at *); omega) ((hB57.cell 0).trans rfl)) ⟨_, rfl, Below.refl _ _, optDef zβ rfl⟩
       refine ⟨.inl ⟨rfl, true, .none rfl, (fun gg b h => by cases h), fun h w => optUndef h, fun zβ za zw zc => ?_⟩, ?_⟩
       ·exact addb_3 rfl ((evt za 61).trans (optSVal (zc.dep 0 61 (by kernel_rfl) (by decide)) rfl rfl)) ((evt za 63).trans (optSVal (zc.dep 2 63 (by kernel_rfl) (by decide)) rfl rfl)) (wrap_eq (by omega) (by omega) (by omega)) ⟨_, rfl, Below.refl _ _, optDef zβ rfl⟩
       refine ⟨.inl ⟨rfl, true, .none rfl, (fun gg b h => by cases h), fun h w => optUndef h, fun zβ za zw zc => ?_⟩, ?_⟩
       ·exact min_3 rfl ((evt za 64).trans (optSVal (zc.dep 3 64 (by kernel_rfl) (by decide)) rfl rfl)) (zc.kn.ev rfl) ⟨_, rfl, Below.refl _ _, optDef zβ rfl⟩
       refine ⟨.inl ⟨rfl, true, .none rfl, (fun gg b h => by cases h), fun h w => optUndef h, fun zβ za zw zc => ?_⟩, ?_⟩
       ·exact wp_move rfl ((evt za 8).trans (zc.old 8 _ rfl (by kernel_rfl))) ⟨_, rfl, Below.refl _ _, optDef zβ rfl⟩
       refine ⟨.inl ⟨rfl, true, .none rfl, (fun gg b h => by cases h), fun h w => optUndef h, fun zβ za zw zc => ?_⟩, ?_⟩
       ·exact fld_59_1 rfl (zc.kn.ev rfl) ⟨_, rfl, Below.refl _ _, optDef zβ rfl⟩
       refine ⟨.inl ⟨rfl, true, .none rfl, (fun gg b h => by cases h), fun h w => optUndef h, fun zβ za zw zc => ?_⟩, ?_⟩
       ·exact ld_3 rfl ((evt za 67).trans (optSVal (zc.dep 6 67 (by kernel_rfl) (by decide)) rfl rfl)) (chg_cell zc.chg (by (try dsimp only at *); omega) ((hB57.cell 1).trans rfl)) ⟨_, rfl, Below.refl _ _, optDef zβ rfl⟩
       refine ⟨.inl ⟨rfl, true, .none rfl, (fun gg b h => by cases h), fun h w => optUndef h, fun zβ za zw zc => ?_⟩, ?_⟩
       ·exact addb_3 rfl ((evt za 68).trans (optSVal (zc.dep 7 68 (by kernel_rfl) (by decide)) rfl rfl)) (zc.kn.ev rfl) (wrap_eq (by omega) (by omega) (by omega)) ⟨_, rfl, Below.refl _ _, optDef zβ rfl⟩
       refine ⟨.inl ⟨rfl, true, .none rfl, (fun gg b h => by cases h), fun h w => optUndef h, fun zβ za zw zc => ?_⟩, ?_⟩
       ·exact max_3 rfl ((evt za 66).trans (optSVal (zc.dep 5 66 (by kernel_rfl) (by decide)) rfl rfl)) ((evt za 69).trans (optSVal (zc.dep 8 69 (by kernel_rfl) (by decide)) rfl rfl)) ⟨_, rfl, Below.refl _ _, optDef zβ rfl⟩
       refine ⟨.inr ⟨0, rfl, by kernel_rfl, true, .none rfl, (fun gg b h => by cases h), (fun h => (nomatch h)), fun zβ za zw zvals zc => ?_⟩, ?_⟩
       ·obtain rfl := vlen0 zc.len
        have zn := zc.now
        exact wp_assign rfl ((((evt za 65).trans (optSVal (zc.dep 4 65 (by kernel_rfl) (by decide)) rfl rfl))).trans (congrArg (Value.int .i64) (by rw [hS4]; omega))) ⟨_, rfl, .ofBelow (Below.refl _ _), trivial, cvIs rfl⟩
       refine ⟨.inr ⟨1, rfl, by kernel_rfl, true, .none rfl, (fun gg b h => by cases h), (fun h => (nomatch h)), fun zβ za zw zvals zc => ?_⟩, ?_⟩
       ·obtain ⟨z0, rfl⟩ := vlen1 zc.len
        have zn := zc.now
        exact wp_assign rfl ((((evt za 70).trans (optSVal (zc.dep 9 70 (by kernel_rfl) (by decide)) rfl rfl))).trans (congrArg (Value.int .i64) (by rw [hD5]; omega))) ⟨_, rfl, .ofBelow (Below.refl _ _), trivial, cvIs rfl⟩
       exact trivial
      ·intro za w60 zvals zh zl hG61 hc62 zu zw zk
       obtain ⟨z0, z1, rfl⟩ := vlen2 zl
       have zh := zh.cons (d := 7) (v := .int .i64 ((((szF κ (msz ms3) ((pget N (κ i)).args.take (x.k + 1))) : Nat) : Int))) (zk 0 10 7 _ _ rfl (by kernel_rfl) rfl rfl)
       have zh := zh.cons (d := 8) (v := .int .i64 ((((dpF κ (mdp ms3) ((pget N (κ i)).args.take (x.k + 1))) : Nat) : Int))) (zk 1 11 8 _ _ rfl (by kernel_rfl) rfl rfl)
       have hb63 := Chg.toBelow hc62
       clear zu zw zk
       refine WE.go zh ?_
       refine WE.blockNormal (WE.next (WC.region ?_))
       refine WL.val (.int .i64 ((((x.k + 1) : Nat) : Int))) rfl rfl rfl (fun za zC zh zk => addb_3 rfl (zh.ev rfl) (zh.ev rfl) (wrap_eq (by omega) (by omega) (by omega)) zk) ?_
       refine WL.mv rfl rfl rfl rfl rfl ?_
       refine WL.nil (WE.sub (K' := [(0, .pointer (some ⟨g, 0, none⟩)), (1, .slice ((some ⟨mb, 0, none⟩)) N.length mc), (2, .int .i64 ((((κ i) : Nat) : Int))), (7, .int .i64 ((((szF κ (msz ms3) ((pget N (κ i)).args.take (x.k + 1))) : Nat) : Int))), (8, .int .i64 ((((dpF κ (mdp ms3) ((pget N (κ i)).args.take (x.k + 1))) : Nat) : Int))), (10, .int .i64 ((((aget ((pget N (κ i)).args) x.k) : Nat) : Int))), (11, .pointer (some ⟨g49, 0, none⟩)), (17, .bool ((mget ms ((κ i))).op)), (23, .bool ((decide ((0 : Int) < ((((mget ms ((κ i))).sz : Nat) : Int) : Int))))), (42, .slice ((A9 ((κ i)))) ((pget N ((κ i))).args.length) ((C9 ((κ i))))), (43, .int .i64 ((((pget N ((κ i))).args.length : Nat) : Int))), (44, .int .i64 ((((x.k + 1) : Nat) : Int))), (45, .bool ((decide ((((x.k : Nat) : Int) : Int) < ((((pget N ((κ i))).args.length : Nat) : Int) : Int))))), (52, .bool ((!bb32)))]) ⟨rfl, rfl, rfl, rfl, rfl, rfl, rfl, rfl, rfl, rfl, rfl, rfl, rfl, rfl, trivial⟩ ?_)
       have hb65 : Below w44.heap.size w44 w60 := (bstep hb59 hb63)
       have hC64 := Chg.trans hC46 (.ofBelow hb65)
       refine WE.round (⟨x.k + 1, U40, ms3⟩) ⟨rfl, rfl, rfl, rfl, rfl, rfl, rfl, rfl, rfl, rfl, trivial⟩ ?_ ?_
       ·have ho66 := hP42.below hb65
        have ho67 := hM45.below hb65
        have ho68 := ha47.below hb65
        exact ⟨(by (try dsimp only); omega), hR41, hA3, hE4, hD4, hC64, ho66, ho67, ho68⟩
       ·(try dsimp only); omega
    ·have h25 : ¬ ((((x.k : Nat) : Int) : Int) < ((((pget N ((κ i))).args.length : Nat) : Int) : Int)) := by simpa using h25
     refine WC.exit (WE.thenExit (WE.thenExit (WE.blockIs rfl (WE.next (WC.seq ?_)))))
     have hke : x.k = (pget N (κ i)).args.length := by omega
     have htl : (pget N (κ i)).args.take x.k = (pget N (κ i)).args := by rw [hke, List.take_length]
     obtain ⟨hA5, hE5, hz5⟩ := hAx.fin (ms := ms) hlr hz0 hz1 hml hEx (by rw [htl] at hDx; exact hDx)
     refine WC.region (WL.mv rfl rfl rfl rfl rfl (WL.mv rfl rfl rfl rfl rfl (WL.mv rfl rfl rfl rfl rfl (WL.mv rfl rfl rfl rfl rfl ?_))))
     refine WL.val (.agg #[.int .i64 ((((szF κ (msz x.ms) ((pget N (κ i)).args.take x.k)) : Nat) : Int)), .int .i64 ((((dpF κ (mdp x.ms) ((pget N (κ i)).args.take x.k)) : Nat) : Int)), .bool false]) rfl rfl rfl (fun za zC zh zk => build_59_0_1 rfl (zh.ev rfl) (zh.ev rfl) zk) ?_
     refine WL.val _ rfl rfl rfl (fun za zC zh zk => ix_45 (k := (κ i)) rfl (zh.ev rfl) rfl (zh.ev rfl) (by first | omega | (simp; omega)) zk) ?_
     obtain ⟨⟨cs69, hB70, hs71⟩, hM72⟩ := ho23.setAll (r := κ i) (by first | omega | (simp only [List.length_set]; omega))
     refine WL.step (post := fun _ w' => Upd mb w21 w' ∧ MB w' mb (x.ms.set (κ i) ⟨(szF κ (msz x.ms) ((pget N (κ i)).args.take x.k)), (dpF κ (mdp x.ms) ((pget N (κ i)).args.take x.k)), false⟩)) rfl rfl rfl (fun za zC zh zk => st_59 rfl (zh.ev rfl) (zh.ev rfl) rfl rfl rfl hB70 hs71 (fun v => zk v _ ⟨((Upd.at_ _ _ _ _).trans (Upd.at_ _ _ _ _)).trans (Upd.at_ _ _ _ _), hM72⟩)) ?_
     rintro u73 w74 ⟨hu75, hM76⟩
     have hc78 : Chg (fun b => b = mb) w21 w74 := .ofUpd hu75 rfl
     have hP77 := PN.upd ho22 hu75 hmZ
     have hC79 := Chg.trans hCx (Chg.mono (S' := (fun b => b = ub ∨ b = mb)) hc78 (fun b e => .inr e))
     have ha80 := ho24.chgS (Chg.mono (S' := (fun b => b = ub ∨ b = mb)) hc78 (fun b e => .inr e)) (fun q e h9 => hSub q e h9)
     refine WL.nil (WE.next (WC.seq (WC.region (WL.asg rfl rfl rfl rfl rfl (WL.nil (WE.next (WC.ret (WE.ret1 rfl rfl ?_))))))))
     have hfin := hM76
     rw [htl] at hfin
     exact ⟨_, rfl, true, rfl, hC79, (fun _ => ⟨x.U, _, hRx, hP77, hfin, hA5, hE5, hz5⟩), (fun e => nomatch e)⟩
end Go.Proofs.Ythhgidliopohcaa

/- Parts are made the same: the document's program. -/
namespace Go.Proofs.Ythhgidliopohcaa
open Go.RowKit Go
set_option linter.unusedVariables false
set_option linter.unusedSimpArgs false
theorem PR.ofP {w : World} {g : Nat} {S : Nat → Prop} {bl bu : Option Addr × Nat × Nat} {la ua : Option Addr} {lc uc vb vc : Nat} {U : List Nat} {N : List Pt} {V : Nat → Nat} (h : PR w g S bl bu la lc N ua uc U vb vc V) (h0 : 0 < N.length) : ∃ (b : Nat) (A : Nat → Option Addr) (C : Nat → Nat), la = some ⟨b, 0, none⟩ ∧ obk la N.length lc = some b ∧
  ∀ k, k < N.length → w.cell? ⟨b, 0 + k * 2, none⟩ = some (.int .i64 (pget N k).fn) ∧ w.cell? ⟨b, 0 + k * 2 + 1, none⟩ = some (.slice (A k) (pget N k).args.length (C k)) ∧ InRow eltN S w (pget N k).args (A k) := by
 obtain ⟨b, e1, e2, h3⟩ := h.l.opn h0
 have key : ∀ k, k < N.length → ∃ p : Option Addr × Nat, w.cell? ⟨b, 0 + k * 2, none⟩ = some (.int .i64 (pget N k).fn) ∧ w.cell? ⟨b, 0 + k * 2 + 1, none⟩ = some (.slice p.1 (pget N k).args.length p.2) ∧ InRow eltN S w (pget N k).args p.1 := by
  intro k hk
  obtain ⟨cs, ⟨a', c', h4, h5⟩, h6⟩ := h3 k hk
  subst h4
  rw [pget_lt hk]
  exact ⟨(a', c'), h6 0 (by decide), h6 1 (by decide), h5⟩
 have : Inhabited (Option Addr × Nat) := ⟨(none, 0)⟩
 obtain ⟨F, hF⟩ := Go.Deep.choose_lt key
 exact ⟨b, fun k => (F k).1, fun k => (F k).2, e1, e2, hF⟩
/-- How joining arguments stands. -/
structure RS where
 k : Nat
 κ : Nat → Nat
 d : Nat → Nat
 U : List Nat
set_option maxRecDepth 100000 in
theorem rjoin_any (N : List Pt) (V : Nat → Nat) (g : Nat) (S : Nat → Prop) (la : Option Addr) (lc ub uc vb vc : Nat) (hN : NOk N) (hn : N.length ≤ 1048576) (hs : argN N ≤ 1048576) (n : Nat) : ∀ (κ d : Nat → Nat) (U : List Nat) (i j : Nat) (w : World), aSum N κ ≤ n → KOk N κ → Reps U κ d → PR w g S (la, N.length, lc) ((some ⟨ub, 0, none⟩), N.length, uc) la lc N (some ⟨ub, 0, none⟩) uc U vb vc V → U.length = N.length → i < N.length → j < N.length →
  Calls Try.prog 47 #[.pointer (some ⟨g, 0, none⟩), .int .i64 (i : Int), .int .i64 (j : Int)] w (Ret fun v' w' => ∃ o, Run false N [(i, j)] κ o ∧ v' = .bool o.isSome ∧ Chg (fun b => b = ub) w w' ∧ ∀ κ', o = some κ' → ∃ U' d', Reps U' κ' d' ∧ PR w' g S (la, N.length, lc) ((some ⟨ub, 0, none⟩), N.length, uc) la lc N (some ⟨ub, 0, none⟩) uc U' vb vc V ∧ U'.length = N.length) := by
 induction n using Nat.strongRecOn with
 | _ n ih => ?_
 intro κ d U i j w hsum hk hR hP hUl hi hj
 have hC0 := Chg.refl (fun b => b = ub) w
 have hlt0 := hP.lt
 have hub : ub < w.heap.size := hlt0 ub (.inr (.inr (.inr (.inl rfl))))
 have hgu : g ≠ ub := fun e => (hP.uS ub rfl).2.1 e.symm
 have hSub : ∀ b, S b → b ≠ ub := fun b q e => (hP.uS ub rfl).1 (e ▸ q)
 have hla : κ i < N.length := hk.lt _ hi
 have hlb : κ j < N.length := hk.lt _ hj
 have hka : κ (κ i) = κ i := hk.idem _
 have hkb : κ (κ j) = κ j := hk.idem _
 have hal9 := args_le hla
 obtain ⟨ob, A9, C9, rfl, hob, hcP⟩ := hP.ofP (by omega)
 have hou : ob ≠ ub := fun e => (hP.uS ub rfl).2.2.2 (by rw [hob, e])
 refine Calls.walk (l := [.pointer (some ⟨g, 0, none⟩), .int .i64 (((i : Nat) : Int)), .int .i64 (((j : Nat) : Int))]) Try.func47 rfl (by kernel_rfl) ?_
 refine WC.sub (K' := [(0, .pointer (some ⟨g, 0, none⟩)), (1, .int .i64 (((i : Nat) : Int))), (2, .int .i64 (((j : Nat) : Int)))]) ⟨rfl, rfl, rfl, trivial⟩ ?_
 refine WC.seq (WC.region (WL.asg rfl rfl rfl rfl rfl (WL.nil (WE.next (WC.seq (WC.region (WL.mv rfl rfl rfl rfl rfl (WL.mv rfl rfl rfl rfl rfl ?_))))))))
 refine WL.call rfl rfl rfl (fun za zh zC => wp_call (by kernel_rfl) rfl (hv2 (zh.ev rfl) (zh.ev rfl))) (rtop_any κ d _ g S _ lc N _ uc U vb vc V _ i (by rw [hUl]; exact hP) hR (by omega) (by omega)) ?_
 rintro _ w2 ⟨rfl, hq1⟩
 refine WL.asg rfl rfl rfl rfl rfl (WL.nil (WE.next (WC.seq (WC.region (WL.mv rfl rfl rfl rfl rfl (WL.mv rfl rfl rfl rfl rfl ?_))))))
 have ho3 := hP.below hq1
 refine WL.call rfl rfl rfl (fun za zh zC => wp_call (by kernel_rfl) rfl (hv2 (zh.ev rfl) (zh.ev rfl))) (rtop_any κ d _ g S _ lc N _ uc U vb vc V _ j (by rw [hUl]; exact ho3) hR (by omega) (by omega)) ?_
 rintro _ w5 ⟨rfl, hq4⟩
 refine WL.asg rfl rfl rfl rfl rfl (WL.nil (WE.next (WC.seq (WC.seq (WC.region (WL.mv rfl rfl rfl rfl rfl (WL.mv rfl rfl rfl rfl rfl ?_)))))))
 refine WL.val (.bool ((((((κ i) : Nat) : Int) : Int) == ((((κ j) : Nat) : Int) : Int)))) rfl rfl rfl (fun za zC zh zk => eql_3 rfl (zh.ev rfl) (zh.ev rfl) zk) ?_
 refine WL.nil (WE.next ?_)
 refine WC.cond rfl (fun h6 => ?_) (fun h6 => ?_)
 ·have h6 : ((((κ i) : Nat) : Int) : Int) = ((((κ j) : Nat) : Int) : Int) := by simpa using h6
  refine WC.seq (WC.region (WL.asg rfl rfl rfl rfl rfl (WL.nil (WE.next (WC.ret (WE.thenRet (WE.ret1 rfl rfl ?_)))))))
  have hb8 : Below w.heap.size w w5 := (bstep hq1 hq4)
  have hC7 := Chg.trans hC0 (.ofBelow hb8)
  have ho9 := ho3.below hq4
  exact ⟨_, rfl, some κ, Run.same (i := i) (j := j) (by omega) (.nil _), rfl, hC7, fun κ2 e => by obtain rfl := Option.some.inj e; exact ⟨U, d, hR, ho9, hUl⟩⟩
 ·have h6 : ¬ (((((κ i) : Nat) : Int) : Int) = ((((κ j) : Nat) : Int) : Int)) := by simpa using h6
  have hne : κ i ≠ κ j := by omega
  refine WC.skip (WE.next (WC.seq ?_))
  have ho10 := ho3.below hq4
  have hb11 : Below w.heap.size w w5 := (bstep hq1 hq4)
  refine WC.box2 (fun zS zw zv => zv = .agg #[.int .i64 ((pget N ((κ i))).fn), .slice ((A9 ((κ i)))) ((pget N ((κ i))).args.length) ((C9 ((κ i))))]) (fun zS zw zv => zv = .agg #[.int .i64 ((pget N ((κ j))).fn), .slice ((A9 ((κ j)))) ((pget N ((κ j))).args.length) ((C9 ((κ j))))]) (fun _ _ _ _ _ h => h) (fun _ _ _ _ _ h => h) (fun _ _ _ _ _ h => h) (fun _ _ _ _ _ h => h) [(true, .pointer (some ⟨g, 0, none⟩)), (true, .pointer (some ⟨g, 0, none⟩)), (true, .pointer (some ⟨g, 0, none⟩)), (true, .slice ((some ⟨ob, 0, none⟩)) N.length lc), (true, .int .i64 ((((κ i) : Nat) : Int))), (true, .pointer (some ⟨ob, 0 + ((κ i)) * 2, none⟩)), (true, undef), (true, .pointer (some ⟨g, 0, none⟩)), (true, .pointer (some ⟨g, 0, none⟩)), (true, .pointer (some ⟨g, 0, none⟩)), (true, .slice ((some ⟨ob, 0, none⟩)) N.length lc), (true, .int .i64 ((((κ j) : Nat) : Int))), (true, .pointer (some ⟨ob, 0 + ((κ j)) * 2, none⟩)), (true, undef), (true, undef), (true, undef), (true, undef), (true, undef)] [(0, .pointer (some ⟨g, 0, none⟩)), (1, .int .i64 ((((κ i) : Nat) : Int))), (2, .int .i64 ((((κ j) : Nat) : Int))), (6, .bool false), (18, .bool ((((((κ i) : Nat) : Int) : Int) == ((((κ j) : Nat) : Int) : Int))))] (t1 := 69) (z1 := #[.int .i64 0, .slice none 0 0]) (t2 := 69) (z2 := #[.int .i64 0, .slice none 0 0]) 6 13 14 15 16 17 7 8 (by decide) (by kernel_rfl) rfl rfl ⟨rfl, rfl, rfl, rfl, rfl, trivial⟩ (by kernel_rfl) (by kernel_rfl) (by kernel_rfl) ?_ ?_
  ·refine ⟨.inl ⟨by decide, rfl, fun za zw zc => ?_⟩, ?_⟩
   ·exact wp_move rfl (zc.kn.ev rfl) ⟨_, rfl, rfl, fun _ => rfl⟩
   refine ⟨.inl ⟨by decide, rfl, fun za zw zc => ?_⟩, ?_⟩
   ·exact nilCheck_ rfl ((evt za 19).trans (valVal2 (zc.dep 0 19 (by kernel_rfl) (by decide)) rfl rfl)) ⟨_, rfl, rfl, fun _ => rfl⟩
   refine ⟨.inl ⟨by decide, rfl, fun za zw zc => ?_⟩, ?_⟩
   ·exact fld_67_0 rfl ((evt za 20).trans (valVal2 (zc.dep 1 20 (by kernel_rfl) (by decide)) rfl rfl)) ⟨_, rfl, rfl, fun _ => rfl⟩
   refine ⟨.inl ⟨by decide, rfl, fun za zw zc => ?_⟩, ?_⟩
   ·exact ld_65 rfl ((evt za 21).trans (valVal2 (zc.dep 2 21 (by kernel_rfl) (by decide)) rfl rfl)) (bkeeps zc.below _ _ ho10.c0) ⟨_, rfl, rfl, fun _ => rfl⟩
   refine ⟨.inl ⟨by decide, rfl, fun za zw zc => ?_⟩, ?_⟩
   ·exact wp_move rfl (zc.kn.ev rfl) ⟨_, rfl, rfl, fun _ => rfl⟩
   refine ⟨.inl ⟨by decide, rfl, fun za zw zc => ?_⟩, ?_⟩
   ·exact ix_65 (k := (κ i)) rfl ((evt za 22).trans (valVal2 (zc.dep 3 22 (by kernel_rfl) (by decide)) rfl rfl)) rfl ((evt za 23).trans (valVal2 (zc.dep 4 23 (by kernel_rfl) (by decide)) rfl rfl)) (by first | omega | (simp; omega)) ⟨_, rfl, rfl, fun _ => rfl⟩
   refine ⟨.inr (.inl ⟨rfl, rfl, fun za zw zc => ?_⟩), ?_⟩
   ·exact ld_69 rfl ((evt za 24).trans (valVal2 (zc.dep 5 24 (by kernel_rfl) (by decide)) rfl rfl)) (bkeeps (bstep hb11 zc.below) _ _ (hcP ((κ i)) (by first | omega | (simp; omega))).1) (bkeeps (bstep hb11 zc.below) _ _ (hcP ((κ i)) (by first | omega | (simp; omega))).2.1) ⟨_, rfl, Below.refl _ _, rfl⟩
   refine ⟨.inl ⟨by decide, rfl, fun za zw zc => ?_⟩, ?_⟩
   ·exact wp_move rfl (zc.kn.ev rfl) ⟨_, rfl, rfl, fun _ => rfl⟩
   refine ⟨.inl ⟨by decide, rfl, fun za zw zc => ?_⟩, ?_⟩
   ·exact nilCheck_ rfl ((evt za 26).trans (valVal2 (zc.dep 7 26 (by kernel_rfl) (by decide)) rfl rfl)) ⟨_, rfl, rfl, fun _ => rfl⟩
   refine ⟨.inl ⟨by decide, rfl, fun za zw zc => ?_⟩, ?_⟩
   ·exact fld_67_0 rfl ((evt za 27).trans (valVal2 (zc.dep 8 27 (by kernel_rfl) (by decide)) rfl rfl)) ⟨_, rfl, rfl, fun _ => rfl⟩
   refine ⟨.inl ⟨by decide, rfl, fun za zw zc => ?_⟩, ?_⟩
   ·exact ld_65 rfl ((evt za 28).trans (valVal2 (zc.dep 9 28 (by kernel_rfl) (by decide)) rfl rfl)) (bkeeps zc.below _ _ ho10.c0) ⟨_, rfl, rfl, fun _ => rfl⟩
   refine ⟨.inl ⟨by decide, rfl, fun za zw zc => ?_⟩, ?_⟩
   ·exact wp_move rfl (zc.kn.ev rfl) ⟨_, rfl, rfl, fun _ => rfl⟩
   refine ⟨.inl ⟨by decide, rfl, fun za zw zc => ?_⟩, ?_⟩
   ·exact ix_65 (k := (κ j)) rfl ((evt za 29).trans (valVal2 (zc.dep 10 29 (by kernel_rfl) (by decide)) rfl rfl)) rfl ((evt za 30).trans (valVal2 (zc.dep 11 30 (by kernel_rfl) (by decide)) rfl rfl)) (by first | omega | (simp; omega)) ⟨_, rfl, rfl, fun _ => rfl⟩
   refine ⟨.inr (.inr (.inl ⟨rfl, rfl, fun za zw zc => ?_⟩)), ?_⟩
   ·exact ld_69 rfl ((evt za 31).trans (valVal2 (zc.dep 12 31 (by kernel_rfl) (by decide)) rfl rfl)) (bkeeps (bstep hb11 zc.below) _ _ (hcP ((κ j)) (by first | omega | (simp; omega))).1) (bkeeps (bstep hb11 zc.below) _ _ (hcP ((κ j)) (by first | omega | (simp; omega))).2.1) ⟨_, rfl, Below.refl _ _, rfl⟩
   refine ⟨.inr (.inr (.inr (.inl ⟨rfl, rfl, fun za zw zc => ?_⟩))), ?_⟩
   ·exact alloc_69 rfl ⟨rfl, rfl⟩
   refine ⟨.inr (.inr (.inr (.inr (.inl ⟨rfl, rfl, fun za zw zc => ?_⟩)))), ?_⟩
   ·exact alloc_69 rfl ⟨rfl, rfl⟩
   refine ⟨.inr (.inr (.inr (.inr (.inr (.inl ⟨rfl, rfl, 7, 25, by kernel_rfl, by kernel_rfl, fun za zw g zS zc z1 zB zP => ?_⟩))))), ?_⟩
   ·rw [zP]
    exact st_69 rfl ((evt za 7).trans z1) ((evt za 25).trans zP) rfl rfl zB (by first | decide | simp) (fun v => ⟨v, rfl, (Upd.at_ _ _ _ _).trans (Upd.at_ _ _ _ _), (zB.set_ 0 _).set_ 1 _⟩)
   refine ⟨.inr (.inr (.inr (.inr (.inr (.inr ⟨rfl, rfl, 8, 32, by kernel_rfl, by kernel_rfl, fun za zw g zS zc z1 zB zP => ?_⟩))))), ?_⟩
   ·rw [zP]
    exact st_69 rfl ((evt za 8).trans z1) ((evt za 32).trans zP) rfl rfl zB (by first | decide | simp) (fun v => ⟨v, rfl, (Upd.at_ _ _ _ _).trans (Upd.at_ _ _ _ _), (zB.set_ 0 _).set_ 1 _⟩)
   exact trivial
  ·intro za w12 g13 g14 zv1 zv2 zS1 zS2 zh hb15 hg16 hg17 hne18 hB19 hB20 hp21 hp22 zs1 zs2 za1 za2 zu
   have hl23 : w.heap.size ≤ g13 := by have z2 := (hb11).size; omega
   have hl24 : w5.heap.size ≤ g13 := by omega
   have hl25 : w.heap.size ≤ g14 := by have z2 := (hb11).size; omega
   have hl26 : w5.heap.size ≤ g14 := by omega
   subst hp21 hp22
   have hB27 : Blk w12 g13 69 #[.int .i64 ((pget N ((κ i))).fn), .slice ((A9 ((κ i)))) ((pget N ((κ i))).args.length) ((C9 ((κ i))))] := hB19
   have hB28 : Blk w12 g14 69 #[.int .i64 ((pget N ((κ j))).fn), .slice ((A9 ((κ j)))) ((pget N ((κ j))).args.length) ((C9 ((κ j))))] := hB20
   have zh := zh.cons (d := 7) za1
   have zh := zh.cons (d := 8) za2
   clear zu
   refine WE.go zh ?_
   refine WE.next (WC.seq (WC.seq ?_))
   refine WC.opt [(true, .val (.pointer (some ⟨g13, 0, none⟩))), (true, .val (.int .i64 ((pget N ((κ i))).fn))), (true, .val (.bool ((decide (((pget N ((κ i))).fn : Int) < (0 : Int)))))), (true, .val (.bool ((decide (((pget N ((κ i))).fn : Int) < (0 : Int)))))), ((true && !(decide (((pget N ((κ i))).fn : Int) < (0 : Int)))), .val (.pointer (some ⟨g14, 0, none⟩))), ((true && !(decide (((pget N ((κ i))).fn : Int) < (0 : Int)))), .val (.int .i64 ((pget N ((κ j))).fn))), ((true && !(decide (((pget N ((κ i))).fn : Int) < (0 : Int)))), .val (.bool ((decide (((pget N ((κ j))).fn : Int) < (0 : Int)))))), (true, .val (.bool (((decide (((pget N ((κ i))).fn : Int) < (0 : Int))) || (decide (((pget N ((κ j))).fn : Int) < (0 : Int)))))))] [(0, .pointer (some ⟨g, 0, none⟩)), (1, .int .i64 ((((κ i) : Nat) : Int))), (2, .int .i64 ((((κ j) : Nat) : Int))), (6, .bool false), (7, .pointer (some ⟨g13, 0, none⟩)), (8, .pointer (some ⟨g14, 0, none⟩)), (18, .bool ((((((κ i) : Nat) : Int) : Int) == ((((κ j) : Nat) : Int) : Int))))] ⟨rfl, rfl, rfl, rfl, rfl, rfl, rfl, trivial⟩ (by kernel_rfl) (by kernel_rfl) (by kernel_rfl) ?_ ?_
   ·refine ⟨⟨true, .none rfl, fun h w => optUndef h, fun zβ za zw zc => ?_⟩, ?_⟩
    ·exact fld_69_0 rfl (zc.kn.ev rfl) ⟨_, rfl, Below.refl _ _, optDef zβ rfl⟩
    refine ⟨⟨true, .none rfl, fun h w => optUndef h, fun zβ za zw zc => ?_⟩, ?_⟩
    ·exact ld_3 rfl ((evt za 33).trans (optVal (zc.dep 0 33 (by kernel_rfl)) rfl rfl)) (bkeeps zc.below _ _ ((hB27.cell 0).trans rfl)) ⟨_, rfl, Below.refl _ _, optDef zβ rfl⟩
    refine ⟨⟨true, .none rfl, fun h w => optUndef h, fun zβ za zw zc => ?_⟩, ?_⟩
    ·exact lss_3 rfl ((evt za 34).trans (optVal (zc.dep 1 34 (by kernel_rfl)) rfl rfl)) (zc.kn.ev rfl) ⟨_, rfl, Below.refl _ _, optDef zβ rfl⟩
    refine ⟨⟨true, .none rfl, fun h w => optUndef h, fun zβ za zw zc => ?_⟩, ?_⟩
    ·exact wp_move rfl ((evt za 35).trans (optVal (zc.dep 2 35 (by kernel_rfl)) rfl rfl)) ⟨_, rfl, Below.refl _ _, optDef zβ rfl⟩
    refine ⟨⟨_, .no (c := (decide (((pget N ((κ i))).fn : Int) < (0 : Int)))) (d := true) rfl (fun v w h => h), fun h w => optUndef h, fun zβ za zw zc => ?_⟩, ?_⟩
    ·exact fld_69_0 rfl (zc.kn.ev rfl) ⟨_, rfl, Below.refl _ _, optDef zβ rfl⟩
    refine ⟨⟨_, .no (c := (decide (((pget N ((κ i))).fn : Int) < (0 : Int)))) (d := true) rfl (fun v w h => h), fun h w => optUndef h, fun zβ za zw zc => ?_⟩, ?_⟩
    ·exact ld_3 rfl ((evt za 37).trans (optVal (zc.dep 4 37 (by kernel_rfl)) rfl zβ)) (bkeeps zc.below _ _ ((hB28.cell 0).trans rfl)) ⟨_, rfl, Below.refl _ _, optDef zβ rfl⟩
    refine ⟨⟨_, .no (c := (decide (((pget N ((κ i))).fn : Int) < (0 : Int)))) (d := true) rfl (fun v w h => h), fun h w => optUndef h, fun zβ za zw zc => ?_⟩, ?_⟩
    ·exact lss_3 rfl ((evt za 38).trans (optVal (zc.dep 5 38 (by kernel_rfl)) rfl zβ)) (zc.kn.ev rfl) ⟨_, rfl, Below.refl _ _, optDef zβ rfl⟩
    refine ⟨⟨true, .none rfl, fun h w => optUndef h, fun zβ za zw zc => ?_⟩, ?_⟩
    ·exact wp_or rfl ((evt za 36).trans (optVal (zc.dep 3 36 (by kernel_rfl)) rfl rfl)) (fun hp => ((evt za 39).trans (optVal (zc.dep 6 39 (by kernel_rfl)) rfl (bMkN zβ hp)))) ⟨_, rfl, Below.refl _ _, optDef zβ rfl⟩
    exact trivial
   ·intro za w29 zh hb30 zu
    have zh := zh.cons (d := 40) (v := .bool (((decide (((pget N ((κ i))).fn : Int) < (0 : Int))) || (decide (((pget N ((κ j))).fn : Int) < (0 : Int)))))) (optVal (zu 7 40 (by kernel_rfl)) rfl rfl)
    clear zu
    refine WE.go zh ?_
    refine WE.next ?_
    refine WC.cond rfl (fun h31 => ?_) (fun h31 => ?_)
    ·have h31 : (((pget N ((κ i))).fn : Int) < (0 : Int)) ∨ (((pget N ((κ j))).fn : Int) < (0 : Int)) := by simpa using h31
     refine WC.seq (WC.seq ?_)
     have hB32 := hB28.below hb30
     have hB33 := hB27.below hb30
     refine WC.opt [(true, .val (.pointer (some ⟨g14, 0, none⟩))), (true, .val (.int .i64 ((pget N ((κ j))).fn))), (true, .val (.bool ((decide ((0 : Int) ≤ ((pget N ((κ j))).fn : Int)))))), (true, .val (.bool ((decide ((0 : Int) ≤ ((pget N ((κ j))).fn : Int)))))), ((true && !(decide ((0 : Int) ≤ ((pget N ((κ j))).fn : Int)))), .val (.pointer (some ⟨g13, 0, none⟩))), ((true && !(decide ((0 : Int) ≤ ((pget N ((κ j))).fn : Int)))), .val (.int .i64 ((pget N ((κ i))).fn))), ((true && !(decide ((0 : Int) ≤ ((pget N ((κ j))).fn : Int)))), .val (.bool ((decide (((pget N ((κ i))).fn : Int) < (0 : Int)))))), ((true && !(decide ((0 : Int) ≤ ((pget N ((κ j))).fn : Int)))), .val (.bool ((decide (((pget N ((κ i))).fn : Int) < (0 : Int)))))), (((true && !(decide ((0 : Int) ≤ ((pget N ((κ j))).fn : Int)))) && (decide (((pget N ((κ i))).fn : Int) < (0 : Int)))), .val (.pointer (some ⟨g14, 0, none⟩))), (((true && !(decide ((0 : Int) ≤ ((pget N ((κ j))).fn : Int)))) && (decide (((pget N ((κ i))).fn : Int) < (0 : Int)))), .val (.int .i64 ((pget N ((κ j))).fn))), (((true && !(decide ((0 : Int) ≤ ((pget N ((κ j))).fn : Int)))) && (decide (((pget N ((κ i))).fn : Int) < (0 : Int)))), .val (.pointer (some ⟨g13, 0, none⟩))), (((true && !(decide ((0 : Int) ≤ ((pget N ((κ j))).fn : Int)))) && (decide (((pget N ((κ i))).fn : Int) < (0 : Int)))), .val (.int .i64 ((pget N ((κ i))).fn))), (((true && !(decide ((0 : Int) ≤ ((pget N ((κ j))).fn : Int)))) && (decide (((pget N ((κ i))).fn : Int) < (0 : Int)))), .val (.bool ((decide (((pget N ((κ i))).fn : Int) < ((pget N ((κ j))).fn : Int)))))), ((true && !(decide ((0 : Int) ≤ ((pget N ((κ j))).fn : Int)))), .val (.bool (((decide (((pget N ((κ i))).fn : Int) < (0 : Int))) && (decide (((pget N ((κ i))).fn : Int) < ((pget N ((κ j))).fn : Int))))))), (true, .val (.bool (((decide ((0 : Int) ≤ ((pget N ((κ j))).fn : Int))) || ((decide (((pget N ((κ i))).fn : Int) < (0 : Int))) && (decide (((pget N ((κ i))).fn : Int) < ((pget N ((κ j))).fn : Int))))))))] [(0, .pointer (some ⟨g, 0, none⟩)), (1, .int .i64 ((((κ i) : Nat) : Int))), (2, .int .i64 ((((κ j) : Nat) : Int))), (6, .bool false), (7, .pointer (some ⟨g13, 0, none⟩)), (8, .pointer (some ⟨g14, 0, none⟩)), (18, .bool ((((((κ i) : Nat) : Int) : Int) == ((((κ j) : Nat) : Int) : Int)))), (40, .bool (((decide (((pget N ((κ i))).fn : Int) < (0 : Int))) || (decide (((pget N ((κ j))).fn : Int) < (0 : Int))))))] ⟨rfl, rfl, rfl, rfl, rfl, rfl, rfl, rfl, trivial⟩ (by kernel_rfl) (by kernel_rfl) (by kernel_rfl) ?_ ?_
     ·refine ⟨⟨true, .none rfl, fun h w => optUndef h, fun zβ za zw zc => ?_⟩, ?_⟩
      ·exact fld_69_0 rfl (zc.kn.ev rfl) ⟨_, rfl, Below.refl _ _, optDef zβ rfl⟩
      refine ⟨⟨true, .none rfl, fun h w => optUndef h, fun zβ za zw zc => ?_⟩, ?_⟩
      ·exact ld_3 rfl ((evt za 41).trans (optVal (zc.dep 0 41 (by kernel_rfl)) rfl rfl)) (bkeeps zc.below _ _ ((hB32.cell 0).trans rfl)) ⟨_, rfl, Below.refl _ _, optDef zβ rfl⟩
      refine ⟨⟨true, .none rfl, fun h w => optUndef h, fun zβ za zw zc => ?_⟩, ?_⟩
      ·exact geq_3 rfl ((evt za 42).trans (optVal (zc.dep 1 42 (by kernel_rfl)) rfl rfl)) (zc.kn.ev rfl) ⟨_, rfl, Below.refl _ _, optDef zβ rfl⟩
      refine ⟨⟨true, .none rfl, fun h w => optUndef h, fun zβ za zw zc => ?_⟩, ?_⟩
      ·exact wp_move rfl ((evt za 43).trans (optVal (zc.dep 2 43 (by kernel_rfl)) rfl rfl)) ⟨_, rfl, Below.refl _ _, optDef zβ rfl⟩
      refine ⟨⟨_, .no (c := (decide ((0 : Int) ≤ ((pget N ((κ j))).fn : Int)))) (d := true) rfl (fun v w h => h), fun h w => optUndef h, fun zβ za zw zc => ?_⟩, ?_⟩
      ·exact fld_69_0 rfl (zc.kn.ev rfl) ⟨_, rfl, Below.refl _ _, optDef zβ rfl⟩
      refine ⟨⟨_, .no (c := (decide ((0 : Int) ≤ ((pget N ((κ j))).fn : Int)))) (d := true) rfl (fun v w h => h), fun h w => optUndef h, fun zβ za zw zc => ?_⟩, ?_⟩
      ·exact ld_3 rfl ((evt za 45).trans (optVal (zc.dep 4 45 (by kernel_rfl)) rfl zβ)) (bkeeps zc.below _ _ ((hB33.cell 0).trans rfl)) ⟨_, rfl, Below.refl _ _, optDef zβ rfl⟩
      refine ⟨⟨_, .no (c := (decide ((0 : Int) ≤ ((pget N ((κ j))).fn : Int)))) (d := true) rfl (fun v w h => h), fun h w => optUndef h, fun zβ za zw zc => ?_⟩, ?_⟩
      ·exact lss_3 rfl ((evt za 46).trans (optVal (zc.dep 5 46 (by kernel_rfl)) rfl zβ)) (zc.kn.ev rfl) ⟨_, rfl, Below.refl _ _, optDef zβ rfl⟩
      refine ⟨⟨_, .no (c := (decide ((0 : Int) ≤ ((pget N ((κ j))).fn : Int)))) (d := true) rfl (fun v w h => h), fun h w => optUndef h, fun zβ za zw zc => ?_⟩, ?_⟩
      ·exact wp_move rfl ((evt za 47).trans (optVal (zc.dep 6 47 (by kernel_rfl)) rfl zβ)) ⟨_, rfl, Below.refl _ _, optDef zβ rfl⟩
      refine ⟨⟨_, .yes (c := (decide (((pget N ((κ i))).fn : Int) < (0 : Int)))) (d := (true && !(decide ((0 : Int) ≤ ((pget N ((κ j))).fn : Int))))) rfl (fun v w h => h), fun h w => optUndef h, fun zβ za zw zc => ?_⟩, ?_⟩
      ·exact fld_69_0 rfl (zc.kn.ev rfl) ⟨_, rfl, Below.refl _ _, optDef zβ rfl⟩
      refine ⟨⟨_, .yes (c := (decide (((pget N ((κ i))).fn : Int) < (0 : Int)))) (d := (true && !(decide ((0 : Int) ≤ ((pget N ((κ j))).fn : Int))))) rfl (fun v w h => h), fun h w => optUndef h, fun zβ za zw zc => ?_⟩, ?_⟩
      ·exact ld_3 rfl ((evt za 49).trans (optVal (zc.dep 8 49 (by kernel_rfl)) rfl zβ)) (bkeeps zc.below _ _ ((hB32.cell 0).trans rfl)) ⟨_, rfl, Below.refl _ _, optDef zβ rfl⟩
      refine ⟨⟨_, .yes (c := (decide (((pget N ((κ i))).fn : Int) < (0 : Int)))) (d := (true && !(decide ((0 : Int) ≤ ((pget N ((κ j))).fn : Int))))) rfl (fun v w h => h), fun h w => optUndef h, fun zβ za zw zc => ?_⟩, ?_⟩
      ·exact fld_69_0 rfl (zc.kn.ev rfl) ⟨_, rfl, Below.refl _ _, optDef zβ rfl⟩
      refine ⟨⟨_, .yes (c := (decide (((pget N ((κ i))).fn : Int) < (0 : Int)))) (d := (true && !(decide ((0 : Int) ≤ ((pget N ((κ j))).fn : Int))))) rfl (fun v w h => h), fun h w => optUndef h, fun zβ za zw zc => ?_⟩, ?_⟩
      ·exact ld_3 rfl ((evt za 51).trans (optVal (zc.dep 10 51 (by kernel_rfl)) rfl zβ)) (bkeeps zc.below _ _ ((hB33.cell 0).trans rfl)) ⟨_, rfl, Below.refl _ _, optDef zβ rfl⟩
      refine ⟨⟨_, .yes (c := (decide (((pget N ((κ i))).fn : Int) < (0 : Int)))) (d := (true && !(decide ((0 : Int) ≤ ((pget N ((κ j))).fn : Int))))) rfl (fun v w h => h), fun h w => optUndef h, fun zβ za zw zc => ?_⟩, ?_⟩
      ·exact gtr_3 rfl ((evt za 50).trans (optVal (zc.dep 9 50 (by kernel_rfl)) rfl zβ)) ((evt za 52).trans (optVal (zc.dep 11 52 (by kernel_rfl)) rfl zβ)) ⟨_, rfl, Below.refl _ _, optDef zβ rfl⟩
      refine ⟨⟨_, .no (c := (decide ((0 : Int) ≤ ((pget N ((κ j))).fn : Int)))) (d := true) rfl (fun v w h => h), fun h w => optUndef h, fun zβ za zw zc => ?_⟩, ?_⟩
      ·exact wp_and rfl ((evt za 48).trans (optVal (zc.dep 7 48 (by kernel_rfl)) rfl zβ)) (fun hp => ((evt za 53).trans (optVal (zc.dep 12 53 (by kernel_rfl)) rfl (bMk zβ hp)))) ⟨_, rfl, Below.refl _ _, optDef zβ rfl⟩
      refine ⟨⟨true, .none rfl, fun h w => optUndef h, fun zβ za zw zc => ?_⟩, ?_⟩
      ·exact wp_or rfl ((evt za 44).trans (optVal (zc.dep 3 44 (by kernel_rfl)) rfl rfl)) (fun hp => ((evt za 54).trans (optVal (zc.dep 13 54 (by kernel_rfl)) rfl (bMkN zβ hp)))) ⟨_, rfl, Below.refl _ _, optDef zβ rfl⟩
      exact trivial
     ·intro za w34 zh hb35 zu
      have zh := zh.cons (d := 55) (v := .bool (((decide ((0 : Int) ≤ ((pget N ((κ j))).fn : Int))) || ((decide (((pget N ((κ i))).fn : Int) < (0 : Int))) && (decide (((pget N ((κ i))).fn : Int) < ((pget N ((κ j))).fn : Int))))))) (optVal (zu 14 55 (by kernel_rfl)) rfl rfl)
      clear zu
      refine WE.go zh ?_
      refine WE.next ?_
      refine WC.cond rfl (fun h36 => ?_) (fun h36 => ?_)
      ·have h36 : ((0 : Int) ≤ ((pget N ((κ j))).fn : Int)) ∨ ((((pget N ((κ i))).fn : Int) < (0 : Int)) ∧ (((pget N ((κ i))).fn : Int) < ((pget N ((κ j))).fn : Int))) := by simpa using h36
       refine WC.region (WL.mv rfl rfl rfl rfl rfl ?_)
       refine WL.val _ rfl rfl rfl (fun za zC zh zk => nilCheck_ rfl (zh.ev rfl) zk) ?_
       refine WL.val _ rfl rfl rfl (fun za zC zh zk => fld_67_1 rfl (zh.ev rfl) zk) ?_
       have hb38 : Below w5.heap.size w5 w34 := (bstep (bstep hb15 hb30) hb35)
       have ho37 := ho10.below hb38
       refine WL.val _ rfl rfl rfl (fun za zC zh zk => ld_48 rfl (zh.ev rfl) ho37.c1 zk) ?_
       refine WL.mv rfl rfl rfl rfl rfl (WL.mv rfl rfl rfl rfl rfl ?_)
       refine WL.val _ rfl rfl rfl (fun za zC zh zk => ix_48 (k := (κ i)) rfl (zh.ev rfl) rfl (zh.ev rfl) (by first | omega | (simp; omega)) zk) ?_
       have hB39 := hB33.below hb35
       have hB40 := hB32.below hb35
       have hb42 : Below w.heap.size w w34 := (bstep hb11 hb38)
       have ho41 := (hcP (κ i) hla).2.2.below hb42
       have ho43 := (hcP (κ j) hlb).2.2.below hb42
       have hC44 := Chg.trans hC0 (.ofBelow hb42)
       have hw7 : w.heap.size ≤ w34.heap.size := (hC44).size
       obtain ⟨⟨cs45, hB46, hs47⟩, hP48⟩ := PR.setU (i := ((κ i))) (v := (κ j)) ho37 (by omega)
       refine WL.step (post := fun _ w' => Chg (fun q => q = ub) w34 w' ∧ PR w' g S ((some ⟨ob, 0, none⟩), N.length, lc) ((some ⟨ub, 0, none⟩), N.length, uc) (some ⟨ob, 0, none⟩) lc N (some ⟨ub, 0, none⟩) uc ((U.set ((κ i)) ((κ j)))) vb vc V) rfl rfl rfl (fun za zC zh zk => st_3 rfl (zh.ev rfl) (zh.ev rfl) hB46 hs47 (fun v => zk v _ ⟨.ofUpd (Upd.at_ _ _ _ _) rfl, hP48⟩)) ?_
       rintro u49 w50 ⟨hu51, hP52⟩
       have hC53 := Chg.trans hC44 hu51
       have ha54 := ho41.chgS hu51 (fun q e h9 => hSub q e h9)
       have hb55 := ho43.chgS hu51 (fun q e h9 => hSub q e h9)
       have hB57 := chg_blk hB39 hu51 (fun e => by have e2 : g13 = ub := e; omega)
       have hB58 := chg_blk hB40 hu51 (fun e => by have e2 : g14 = ub := e; omega)
       refine WL.nil (WE.sub (K' := [(0, .pointer (some ⟨g, 0, none⟩)), (1, .int .i64 ((((κ i) : Nat) : Int))), (2, .int .i64 ((((κ j) : Nat) : Int))), (6, .bool false), (7, .pointer (some ⟨g13, 0, none⟩)), (8, .pointer (some ⟨g14, 0, none⟩)), (18, .bool ((((((κ i) : Nat) : Int) : Int) == ((((κ j) : Nat) : Int) : Int)))), (40, .bool (((decide (((pget N ((κ i))).fn : Int) < (0 : Int))) || (decide (((pget N ((κ j))).fn : Int) < (0 : Int)))))), (55, .bool (((decide ((0 : Int) ≤ ((pget N ((κ j))).fn : Int))) || ((decide (((pget N ((κ i))).fn : Int) < (0 : Int))) && (decide (((pget N ((κ i))).fn : Int) < ((pget N ((κ j))).fn : Int)))))))]) ⟨rfl, rfl, rfl, rfl, rfl, rfl, rfl, rfl, rfl, trivial⟩ ?_)
       refine WE.next (WC.seq (WC.region (WL.asg rfl rfl rfl rfl rfl (WL.nil (WE.next (WC.ret (WE.thenRet (WE.ret1 rfl rfl ?_))))))))
       have hst : stepM N κ (κ i) (κ j) = some (mrg κ (κ i) (κ j), []) := by
        unfold stepM; rw [if_pos (by omega)]
       have hR2 := hR.merge (a := (κ j)) (b := (κ i)) (by omega) (by omega) hkb hka (Ne.symm hne) hk.idem
       exact ⟨_, rfl, some _, Run.step (i := i) (j := j) hne hst (.nil _), rfl, hC53, fun κ2 e => by obtain rfl := Option.some.inj e; exact ⟨_, _, hR2, hP52, by rw [List.length_set]; exact hUl⟩⟩
      ·have h36 : ¬ (((0 : Int) ≤ ((pget N ((κ j))).fn : Int)) ∨ ((((pget N ((κ i))).fn : Int) < (0 : Int)) ∧ (((pget N ((κ i))).fn : Int) < ((pget N ((κ j))).fn : Int)))) := by simpa using h36
       refine WC.region (WL.mv rfl rfl rfl rfl rfl ?_)
       refine WL.val _ rfl rfl rfl (fun za zC zh zk => nilCheck_ rfl (zh.ev rfl) zk) ?_
       refine WL.val _ rfl rfl rfl (fun za zC zh zk => fld_67_1 rfl (zh.ev rfl) zk) ?_
       have hb60 : Below w5.heap.size w5 w34 := (bstep (bstep hb15 hb30) hb35)
       have ho59 := ho10.below hb60
       refine WL.val _ rfl rfl rfl (fun za zC zh zk => ld_48 rfl (zh.ev rfl) ho59.c1 zk) ?_
       refine WL.mv rfl rfl rfl rfl rfl (WL.mv rfl rfl rfl rfl rfl ?_)
       refine WL.val _ rfl rfl rfl (fun za zC zh zk => ix_48 (k := (κ j)) rfl (zh.ev rfl) rfl (zh.ev rfl) (by first | omega | (simp; omega)) zk) ?_
       have hB61 := hB33.below hb35
       have hB62 := hB32.below hb35
       have hb64 : Below w.heap.size w w34 := (bstep hb11 hb60)
       have ho63 := (hcP (κ i) hla).2.2.below hb64
       have ho65 := (hcP (κ j) hlb).2.2.below hb64
       have hC66 := Chg.trans hC0 (.ofBelow hb64)
       have hw7 : w.heap.size ≤ w34.heap.size := (hC66).size
       obtain ⟨⟨cs67, hB68, hs69⟩, hP70⟩ := PR.setU (i := ((κ j))) (v := (κ i)) ho59 (by omega)
       refine WL.step (post := fun _ w' => Chg (fun q => q = ub) w34 w' ∧ PR w' g S ((some ⟨ob, 0, none⟩), N.length, lc) ((some ⟨ub, 0, none⟩), N.length, uc) (some ⟨ob, 0, none⟩) lc N (some ⟨ub, 0, none⟩) uc ((U.set ((κ j)) ((κ i)))) vb vc V) rfl rfl rfl (fun za zC zh zk => st_3 rfl (zh.ev rfl) (zh.ev rfl) hB68 hs69 (fun v => zk v _ ⟨.ofUpd (Upd.at_ _ _ _ _) rfl, hP70⟩)) ?_
       rintro u71 w72 ⟨hu73, hP74⟩
       have hC75 := Chg.trans hC66 hu73
       have ha76 := ho63.chgS hu73 (fun q e h9 => hSub q e h9)
       have hb77 := ho65.chgS hu73 (fun q e h9 => hSub q e h9)
       have hB79 := chg_blk hB61 hu73 (fun e => by have e2 : g13 = ub := e; omega)
       have hB80 := chg_blk hB62 hu73 (fun e => by have e2 : g14 = ub := e; omega)
       refine WL.nil (WE.sub (K' := [(0, .pointer (some ⟨g, 0, none⟩)), (1, .int .i64 ((((κ i) : Nat) : Int))), (2, .int .i64 ((((κ j) : Nat) : Int))), (6, .bool false), (7, .pointer (some ⟨g13, 0, none⟩)), (8, .pointer (some ⟨g14, 0, none⟩)), (18, .bool ((((((κ i) : Nat) : Int) : Int) == ((((κ j) : Nat) : Int) : Int)))), (40, .bool (((decide (((pget N ((κ i))).fn : Int) < (0 : Int))) || (decide (((pget N ((κ j))).fn : Int) < (0 : Int)))))), (55, .bool (((decide ((0 : Int) ≤ ((pget N ((κ j))).fn : Int))) || ((decide (((pget N ((κ i))).fn : Int) < (0 : Int))) && (decide (((pget N ((κ i))).fn : Int) < ((pget N ((κ j))).fn : Int)))))))]) ⟨rfl, rfl, rfl, rfl, rfl, rfl, rfl, rfl, rfl, trivial⟩ ?_)
       refine WE.next (WC.seq (WC.region (WL.asg rfl rfl rfl rfl rfl (WL.nil (WE.next (WC.ret (WE.thenRet (WE.ret1 rfl rfl ?_))))))))
       have hst : stepM N κ (κ i) (κ j) = some (mrg κ (κ j) (κ i), []) := by
        unfold stepM; rw [if_neg (by omega), if_pos (by omega)]
       have hR2 := hR.merge (a := (κ i)) (b := (κ j)) (by omega) (by omega) hka hkb hne hk.idem
       exact ⟨_, rfl, some _, Run.step (i := i) (j := j) hne hst (.nil _), rfl, hC75, fun κ2 e => by obtain rfl := Option.some.inj e; exact ⟨_, _, hR2, hP74, by rw [List.length_set]; exact hUl⟩⟩
    ·have h31 : ¬ ((((pget N ((κ i))).fn : Int) < (0 : Int)) ∨ (((pget N ((κ j))).fn : Int) < (0 : Int))) := by simpa using h31
     refine WC.skip (WE.next (WC.seq (WC.seq ?_)))
     have hB81 := hB27.below hb30
     have hB82 := hB28.below hb30
     refine WC.opt [(true, .val (.pointer (some ⟨g13, 0, none⟩))), (true, .val (.int .i64 ((pget N ((κ i))).fn))), (true, .val (.pointer (some ⟨g14, 0, none⟩))), (true, .val (.int .i64 ((pget N ((κ j))).fn))), (true, .val (.bool ((((pget N ((κ i))).fn : Int) != ((pget N ((κ j))).fn : Int))))), (true, .val (.bool ((((pget N ((κ i))).fn : Int) != ((pget N ((κ j))).fn : Int))))), ((true && !(((pget N ((κ i))).fn : Int) != ((pget N ((κ j))).fn : Int))), .val (.pointer (some ⟨g13, 1, none⟩))), ((true && !(((pget N ((κ i))).fn : Int) != ((pget N ((κ j))).fn : Int))), .val (.slice ((A9 ((κ i)))) ((pget N ((κ i))).args.length) ((C9 ((κ i)))))), ((true && !(((pget N ((κ i))).fn : Int) != ((pget N ((κ j))).fn : Int))), .val (.int .i64 ((((pget N ((κ i))).args.length : Nat) : Int)))), ((true && !(((pget N ((κ i))).fn : Int) != ((pget N ((κ j))).fn : Int))), .val (.pointer (some ⟨g14, 1, none⟩))), ((true && !(((pget N ((κ i))).fn : Int) != ((pget N ((κ j))).fn : Int))), .val (.slice ((A9 ((κ j)))) ((pget N ((κ j))).args.length) ((C9 ((κ j)))))), ((true && !(((pget N ((κ i))).fn : Int) != ((pget N ((κ j))).fn : Int))), .val (.int .i64 ((((pget N ((κ j))).args.length : Nat) : Int)))), ((true && !(((pget N ((κ i))).fn : Int) != ((pget N ((κ j))).fn : Int))), .val (.bool ((((((pget N ((κ i))).args.length : Nat) : Int) : Int) != ((((pget N ((κ j))).args.length : Nat) : Int) : Int))))), (true, .val (.bool (((((pget N ((κ i))).fn : Int) != ((pget N ((κ j))).fn : Int)) || (((((pget N ((κ i))).args.length : Nat) : Int) : Int) != ((((pget N ((κ j))).args.length : Nat) : Int) : Int))))))] [(0, .pointer (some ⟨g, 0, none⟩)), (1, .int .i64 ((((κ i) : Nat) : Int))), (2, .int .i64 ((((κ j) : Nat) : Int))), (6, .bool false), (7, .pointer (some ⟨g13, 0, none⟩)), (8, .pointer (some ⟨g14, 0, none⟩)), (18, .bool ((((((κ i) : Nat) : Int) : Int) == ((((κ j) : Nat) : Int) : Int)))), (40, .bool (((decide (((pget N ((κ i))).fn : Int) < (0 : Int))) || (decide (((pget N ((κ j))).fn : Int) < (0 : Int))))))] ⟨rfl, rfl, rfl, rfl, rfl, rfl, rfl, rfl, trivial⟩ (by kernel_rfl) (by kernel_rfl) (by kernel_rfl) ?_ ?_
     ·refine ⟨⟨true, .none rfl, fun h w => optUndef h, fun zβ za zw zc => ?_⟩, ?_⟩
      ·exact fld_69_0 rfl (zc.kn.ev rfl) ⟨_, rfl, Below.refl _ _, optDef zβ rfl⟩
      refine ⟨⟨true, .none rfl, fun h w => optUndef h, fun zβ za zw zc => ?_⟩, ?_⟩
      ·exact ld_3 rfl ((evt za 70).trans (optVal (zc.dep 0 70 (by kernel_rfl)) rfl rfl)) (bkeeps zc.below _ _ ((hB81.cell 0).trans rfl)) ⟨_, rfl, Below.refl _ _, optDef zβ rfl⟩
      refine ⟨⟨true, .none rfl, fun h w => optUndef h, fun zβ za zw zc => ?_⟩, ?_⟩
      ·exact fld_69_0 rfl (zc.kn.ev rfl) ⟨_, rfl, Below.refl _ _, optDef zβ rfl⟩
      refine ⟨⟨true, .none rfl, fun h w => optUndef h, fun zβ za zw zc => ?_⟩, ?_⟩
      ·exact ld_3 rfl ((evt za 72).trans (optVal (zc.dep 2 72 (by kernel_rfl)) rfl rfl)) (bkeeps zc.below _ _ ((hB82.cell 0).trans rfl)) ⟨_, rfl, Below.refl _ _, optDef zβ rfl⟩
      refine ⟨⟨true, .none rfl, fun h w => optUndef h, fun zβ za zw zc => ?_⟩, ?_⟩
      ·exact neq_3 rfl ((evt za 71).trans (optVal (zc.dep 1 71 (by kernel_rfl)) rfl rfl)) ((evt za 73).trans (optVal (zc.dep 3 73 (by kernel_rfl)) rfl rfl)) ⟨_, rfl, Below.refl _ _, optDef zβ rfl⟩
      refine ⟨⟨true, .none rfl, fun h w => optUndef h, fun zβ za zw zc => ?_⟩, ?_⟩
      ·exact wp_move rfl ((evt za 74).trans (optVal (zc.dep 4 74 (by kernel_rfl)) rfl rfl)) ⟨_, rfl, Below.refl _ _, optDef zβ rfl⟩
      refine ⟨⟨_, .no (c := (((pget N ((κ i))).fn : Int) != ((pget N ((κ j))).fn : Int))) (d := true) rfl (fun v w h => h), fun h w => optUndef h, fun zβ za zw zc => ?_⟩, ?_⟩
      ·exact fld_69_1 rfl (zc.kn.ev rfl) ⟨_, rfl, Below.refl _ _, optDef zβ rfl⟩
      refine ⟨⟨_, .no (c := (((pget N ((κ i))).fn : Int) != ((pget N ((κ j))).fn : Int))) (d := true) rfl (fun v w h => h), fun h w => optUndef h, fun zβ za zw zc => ?_⟩, ?_⟩
      ·exact ld_48 rfl ((evt za 76).trans (optVal (zc.dep 6 76 (by kernel_rfl)) rfl zβ)) (bkeeps zc.below _ _ ((hB81.cell 1).trans rfl)) ⟨_, rfl, Below.refl _ _, optDef zβ rfl⟩
      refine ⟨⟨_, .no (c := (((pget N ((κ i))).fn : Int) != ((pget N ((κ j))).fn : Int))) (d := true) rfl (fun v w h => h), fun h w => optUndef h, fun zβ za zw zc => ?_⟩, ?_⟩
      ·exact len_48 rfl ((evt za 77).trans (optVal (zc.dep 7 77 (by kernel_rfl)) rfl zβ)) ⟨_, rfl, Below.refl _ _, optDef zβ rfl⟩
      refine ⟨⟨_, .no (c := (((pget N ((κ i))).fn : Int) != ((pget N ((κ j))).fn : Int))) (d := true) rfl (fun v w h => h), fun h w => optUndef h, fun zβ za zw zc => ?_⟩, ?_⟩
      ·exact fld_69_1 rfl (zc.kn.ev rfl) ⟨_, rfl, Below.refl _ _, optDef zβ rfl⟩
      refine ⟨⟨_, .no (c := (((pget N ((κ i))).fn : Int) != ((pget N ((κ j))).fn : Int))) (d := true) rfl (fun v w h => h), fun h w => optUndef h, fun zβ za zw zc => ?_⟩, ?_⟩
      ·exact ld_48 rfl ((evt za 79).trans (optVal (zc.dep 9 79 (by kernel_rfl)) rfl zβ)) (bkeeps zc.below _ _ ((hB82.cell 1).trans rfl)) ⟨_, rfl, Below.refl _ _, optDef zβ rfl⟩
      refine ⟨⟨_, .no (c := (((pget N ((κ i))).fn : Int) != ((pget N ((κ j))).fn : Int))) (d := true) rfl (fun v w h => h), fun h w => optUndef h, fun zβ za zw zc => ?_⟩, ?_⟩
      ·exact len_48 rfl ((evt za 80).trans (optVal (zc.dep 10 80 (by kernel_rfl)) rfl zβ)) ⟨_, rfl, Below.refl _ _, optDef zβ rfl⟩
      refine ⟨⟨_, .no (c := (((pget N ((κ i))).fn : Int) != ((pget N ((κ j))).fn : Int))) (d := true) rfl (fun v w h => h), fun h w => optUndef h, fun zβ za zw zc => ?_⟩, ?_⟩
      ·exact neq_3 rfl ((evt za 78).trans (optVal (zc.dep 8 78 (by kernel_rfl)) rfl zβ)) ((evt za 81).trans (optVal (zc.dep 11 81 (by kernel_rfl)) rfl zβ)) ⟨_, rfl, Below.refl _ _, optDef zβ rfl⟩
      refine ⟨⟨true, .none rfl, fun h w => optUndef h, fun zβ za zw zc => ?_⟩, ?_⟩
      ·exact wp_or rfl ((evt za 75).trans (optVal (zc.dep 5 75 (by kernel_rfl)) rfl rfl)) (fun hp => ((evt za 82).trans (optVal (zc.dep 12 82 (by kernel_rfl)) rfl (bMkN zβ hp)))) ⟨_, rfl, Below.refl _ _, optDef zβ rfl⟩
      exact trivial
     ·intro za w83 zh hb84 zu
      have zh := zh.cons (d := 83) (v := .bool (((((pget N ((κ i))).fn : Int) != ((pget N ((κ j))).fn : Int)) || (((((pget N ((κ i))).args.length : Nat) : Int) : Int) != ((((pget N ((κ j))).args.length : Nat) : Int) : Int))))) (optVal (zu 13 83 (by kernel_rfl)) rfl rfl)
      clear zu
      refine WE.go zh ?_
      refine WE.next ?_
      refine WC.cond rfl (fun h85 => ?_) (fun h85 => ?_)
      ·have h85 : (((pget N ((κ i))).fn : Int) ≠ ((pget N ((κ j))).fn : Int)) ∨ (((((pget N ((κ i))).args.length : Nat) : Int) : Int) ≠ ((((pget N ((κ j))).args.length : Nat) : Int) : Int)) := by simpa using h85
       refine WC.seq (WC.region (WL.asg rfl rfl rfl rfl rfl ?_))
       refine WL.nil (WE.sub (K' := [(0, .pointer (some ⟨g, 0, none⟩)), (1, .int .i64 ((((κ i) : Nat) : Int))), (2, .int .i64 ((((κ j) : Nat) : Int))), (6, .bool false), (7, .pointer (some ⟨g13, 0, none⟩)), (8, .pointer (some ⟨g14, 0, none⟩)), (18, .bool ((((((κ i) : Nat) : Int) : Int) == ((((κ j) : Nat) : Int) : Int)))), (40, .bool (((decide (((pget N ((κ i))).fn : Int) < (0 : Int))) || (decide (((pget N ((κ j))).fn : Int) < (0 : Int)))))), (83, .bool (((((pget N ((κ i))).fn : Int) != ((pget N ((κ j))).fn : Int)) || (((((pget N ((κ i))).args.length : Nat) : Int) : Int) != ((((pget N ((κ j))).args.length : Nat) : Int) : Int)))))]) ⟨rfl, rfl, rfl, rfl, rfl, rfl, rfl, rfl, rfl, trivial⟩ ?_)
       refine WE.next (WC.ret (WE.thenRet (WE.ret1 rfl rfl ?_)))
       have hb87 : Below w.heap.size w w83 := (bstep (bstep (bstep hb11 hb15) hb30) hb84)
       have hC86 := Chg.trans hC0 (.ofBelow hb87)
       have hst : stepM N κ (κ i) (κ j) = none := by
        unfold stepM; rw [if_neg (by omega), if_neg (by omega), if_pos (by omega)]
       exact ⟨_, rfl, none, Run.clash (i := i) (j := j) hne hst, rfl, hC86, fun κ2 e => nomatch e⟩
      ·have h85 : ¬ ((((pget N ((κ i))).fn : Int) ≠ ((pget N ((κ j))).fn : Int)) ∨ (((((pget N ((κ i))).args.length : Nat) : Int) : Int) ≠ ((((pget N ((κ j))).args.length : Nat) : Int) : Int))) := by simpa using h85
       refine WC.skip (WE.next (WC.seq (WC.region (WL.mv rfl rfl rfl rfl rfl ?_))))
       refine WL.val _ rfl rfl rfl (fun za zC zh zk => nilCheck_ rfl (zh.ev rfl) zk) ?_
       refine WL.val _ rfl rfl rfl (fun za zC zh zk => fld_67_1 rfl (zh.ev rfl) zk) ?_
       have hb89 : Below w5.heap.size w5 w83 := (bstep (bstep hb15 hb30) hb84)
       have ho88 := ho10.below hb89
       refine WL.val _ rfl rfl rfl (fun za zC zh zk => ld_48 rfl (zh.ev rfl) ho88.c1 zk) ?_
       refine WL.mv rfl rfl rfl rfl rfl (WL.mv rfl rfl rfl rfl rfl ?_)
       refine WL.val _ rfl rfl rfl (fun za zC zh zk => ix_48 (k := (κ j)) rfl (zh.ev rfl) rfl (zh.ev rfl) (by first | omega | (simp; omega)) zk) ?_
       have hB90 := hB81.below hb84
       have hB91 := hB82.below hb84
       have hb93 : Below w.heap.size w w83 := (bstep hb11 hb89)
       have ho92 := (hcP (κ i) hla).2.2.below hb93
       have ho94 := (hcP (κ j) hlb).2.2.below hb93
       have hC95 := Chg.trans hC0 (.ofBelow hb93)
       have hw7 : w.heap.size ≤ w83.heap.size := (hC95).size
       obtain ⟨⟨cs96, hB97, hs98⟩, hP99⟩ := PR.setU (i := ((κ j))) (v := (κ i)) ho88 (by omega)
       refine WL.step (post := fun _ w' => Chg (fun q => q = ub) w83 w' ∧ PR w' g S ((some ⟨ob, 0, none⟩), N.length, lc) ((some ⟨ub, 0, none⟩), N.length, uc) (some ⟨ob, 0, none⟩) lc N (some ⟨ub, 0, none⟩) uc ((U.set ((κ j)) ((κ i)))) vb vc V) rfl rfl rfl (fun za zC zh zk => st_3 rfl (zh.ev rfl) (zh.ev rfl) hB97 hs98 (fun v => zk v _ ⟨.ofUpd (Upd.at_ _ _ _ _) rfl, hP99⟩)) ?_
       rintro u100 w101 ⟨hu102, hP103⟩
       have hC104 := Chg.trans hC95 hu102
       have ha105 := ho92.chgS hu102 (fun q e h9 => hSub q e h9)
       have hb106 := ho94.chgS hu102 (fun q e h9 => hSub q e h9)
       have hB108 := chg_blk hB90 hu102 (fun e => by have e2 : g13 = ub := e; omega)
       have hB109 := chg_blk hB91 hu102 (fun e => by have e2 : g14 = ub := e; omega)
       refine WL.nil (WE.sub (K' := [(0, .pointer (some ⟨g, 0, none⟩)), (1, .int .i64 ((((κ i) : Nat) : Int))), (2, .int .i64 ((((κ j) : Nat) : Int))), (6, .bool false), (7, .pointer (some ⟨g13, 0, none⟩)), (8, .pointer (some ⟨g14, 0, none⟩)), (18, .bool ((((((κ i) : Nat) : Int) : Int) == ((((κ j) : Nat) : Int) : Int)))), (40, .bool (((decide (((pget N ((κ i))).fn : Int) < (0 : Int))) || (decide (((pget N ((κ j))).fn : Int) < (0 : Int)))))), (83, .bool (((((pget N ((κ i))).fn : Int) != ((pget N ((κ j))).fn : Int)) || (((((pget N ((κ i))).args.length : Nat) : Int) : Int) != ((((pget N ((κ j))).args.length : Nat) : Int) : Int)))))]) ⟨rfl, rfl, rfl, rfl, rfl, rfl, rfl, rfl, rfl, trivial⟩ ?_)
       refine WE.next (WC.seq (WC.seq (WC.region (WL.asg rfl rfl rfl rfl rfl (WL.nil (WE.next (WC.block ?_)))))))
       have hlen9 : (pget N (κ i)).args.length = (pget N (κ j)).args.length := by omega
       have hst : stepM N κ (κ i) (κ j) = some (mrg κ (κ j) (κ i), ((pget N (κ i)).args.zip (pget N (κ j)).args)) := by
        unfold stepM; rw [if_neg (by omega), if_neg (by omega), if_neg (by omega)]
       have hR2 := hR.merge (a := κ i) (b := κ j) (by omega) (by omega) hka hkb hne hk.idem
       have hk2 := stepM_kok hk hka hkb hne hla hlb hst
       have hs2 := stepM_sum hka hkb hne hla hlb hst
       rw [List.length_zip] at hs2
       have hI2 := stepM_inr hN hla hlb hst
       refine WC.loop (X := RS) (fun x => (pget N (κ i)).args.length - x.k) (fun x => [(0, .pointer (some ⟨g, 0, none⟩)), (1, .int .i64 ((((κ i) : Nat) : Int))), (2, .int .i64 ((((κ j) : Nat) : Int))), (7, .pointer (some ⟨g13, 0, none⟩)), (8, .pointer (some ⟨g14, 0, none⟩)), (9, .int .i64 (((x.k : Nat) : Int))), (18, .bool ((((((κ i) : Nat) : Int) : Int) == ((((κ j) : Nat) : Int) : Int)))), (40, .bool (((decide (((pget N ((κ i))).fn : Int) < (0 : Int))) || (decide (((pget N ((κ j))).fn : Int) < (0 : Int)))))), (83, .bool (((((pget N ((κ i))).fn : Int) != ((pget N ((κ j))).fn : Int)) || (((((pget N ((κ i))).args.length : Nat) : Int) : Int) != ((((pget N ((κ j))).args.length : Nat) : Int) : Int)))))]) (fun x w110 => x.k ≤ (pget N (κ i)).args.length ∧ Reps x.U x.κ x.d ∧ x.U.length = N.length ∧ Run false N (((pget N (κ i)).args.zip (pget N (κ j)).args).take x.k) (mrg κ (κ j) (κ i)) (some x.κ) ∧ Chg (fun b => b = ub) w w110 ∧ Blk w110 g13 69 #[.int .i64 ((pget N ((κ i))).fn), .slice ((A9 ((κ i)))) ((pget N ((κ i))).args.length) ((C9 ((κ i))))] ∧ Blk w110 g14 69 #[.int .i64 ((pget N ((κ j))).fn), .slice ((A9 ((κ j)))) ((pget N ((κ j))).args.length) ((C9 ((κ j))))] ∧ PR (w110) g S ((some ⟨ob, 0, none⟩), N.length, lc) ((some ⟨ub, 0, none⟩), N.length, uc) (some ⟨ob, 0, none⟩) lc N (some ⟨ub, 0, none⟩) uc x.U vb vc V ∧ InRow eltN S (w110) (pget N (κ i)).args (A9 (κ i)) ∧ InRow eltN S (w110) (pget N (κ j)).args (A9 (κ j))) (⟨0, mrg κ (κ j) (κ i), (fun z => if κ z = κ j then d z + d (κ i) + 1 else d z), (U.set ((κ j)) ((κ i)))⟩) ⟨rfl, rfl, rfl, rfl, rfl, rfl, rfl, rfl, rfl, trivial⟩ ?_ ?_
       ·exact ⟨Nat.zero_le _, hR2, (by rw [List.length_set]; exact hUl), Run.nil _, hC104, hB108, hB109, hP103, ha105, hb106⟩
       ·rintro x w110 ⟨hkx, hRx, hUx, hrx, hCx, hB111, hB112, ho113, ho114, ho115⟩
        have hwx := hCx.size
        refine WC.seq (WC.seq (WC.region (WL.mv rfl rfl rfl rfl rfl ?_)))
        refine WL.val _ rfl rfl rfl (fun za zC zh zk => fld_69_1 rfl (zh.ev rfl) zk) ?_
        refine WL.val _ rfl rfl rfl (fun za zC zh zk => ld_48 rfl (zh.ev rfl) ((hB111.cell 1).trans rfl) zk) ?_
        refine WL.val (.int .i64 ((((pget N ((κ i))).args.length : Nat) : Int))) rfl rfl rfl (fun za zC zh zk => len_48 rfl (zh.ev rfl) zk) ?_
        refine WL.val (.bool ((decide ((((x.k : Nat) : Int) : Int) < ((((pget N ((κ i))).args.length : Nat) : Int) : Int))))) rfl rfl rfl (fun za zC zh zk => lss_3 rfl (zh.ev rfl) (zh.ev rfl) zk) ?_
        refine WL.nil (WE.next ?_)
        refine WC.cond rfl (fun h116 => ?_) (fun h116 => ?_)
        ·have h116 : (((x.k : Nat) : Int) : Int) < ((((pget N ((κ i))).args.length : Nat) : Int) : Int) := by simpa using h116
         refine WC.skip (WE.next (WC.seq (WC.block (WC.seq ?_))))
         have hkl : x.k < (pget N (κ i)).args.length := by omega
         have hka9 : (aget (pget N (κ i)).args x.k) < N.length ∧ (aget (pget N (κ j)).args x.k) < N.length := hI2 _ (mem_zip hkl hlen9)
         have hkp := Run.keep hN hrx hk2 (fun p hp => hI2 p (List.mem_of_mem_take hp)) x.κ rfl
         have hGV9 : ∀ (vals : List Value) (wa wb : World), Below wa.heap.size wa wb → (fun vals wz => match vals with | [] => PR wz g S ((some ⟨ob, 0, none⟩), N.length, lc) ((some ⟨ub, 0, none⟩), N.length, uc) (some ⟨ob, 0, none⟩) lc N (some ⟨ub, 0, none⟩) uc x.U vb vc V | [z0] => ∃ oo, Run false N [((aget (pget N (κ i)).args x.k), (aget (pget N (κ j)).args x.k))] x.κ oo ∧ z0 = .bool oo.isSome ∧ ∀ κ9, oo = some κ9 → ∃ U8 d8, Reps U8 κ9 d8 ∧ PR wz g S ((some ⟨ob, 0, none⟩), N.length, lc) ((some ⟨ub, 0, none⟩), N.length, uc) (some ⟨ob, 0, none⟩) lc N (some ⟨ub, 0, none⟩) uc U8 vb vc V ∧ U8.length = N.length | [_, z1] => ∃ oo, Run false N [((aget (pget N (κ i)).args x.k), (aget (pget N (κ j)).args x.k))] x.κ oo ∧ z1 = .bool (!oo.isSome) ∧ ∀ κ9, oo = some κ9 → ∃ U8 d8, Reps U8 κ9 d8 ∧ PR wz g S ((some ⟨ob, 0, none⟩), N.length, lc) ((some ⟨ub, 0, none⟩), N.length, uc) (some ⟨ob, 0, none⟩) lc N (some ⟨ub, 0, none⟩) uc U8 vb vc V ∧ U8.length = N.length | _ => False) vals wa → (fun vals wz => match vals with | [] => PR wz g S ((some ⟨ob, 0, none⟩), N.length, lc) ((some ⟨ub, 0, none⟩), N.length, uc) (some ⟨ob, 0, none⟩) lc N (some ⟨ub, 0, none⟩) uc x.U vb vc V | [z0] => ∃ oo, Run false N [((aget (pget N (κ i)).args x.k), (aget (pget N (κ j)).args x.k))] x.κ oo ∧ z0 = .bool oo.isSome ∧ ∀ κ9, oo = some κ9 → ∃ U8 d8, Reps U8 κ9 d8 ∧ PR wz g S ((some ⟨ob, 0, none⟩), N.length, lc) ((some ⟨ub, 0, none⟩), N.length, uc) (some ⟨ob, 0, none⟩) lc N (some ⟨ub, 0, none⟩) uc U8 vb vc V ∧ U8.length = N.length | [_, z1] => ∃ oo, Run false N [((aget (pget N (κ i)).args x.k), (aget (pget N (κ j)).args x.k))] x.κ oo ∧ z1 = .bool (!oo.isSome) ∧ ∀ κ9, oo = some κ9 → ∃ U8 d8, Reps U8 κ9 d8 ∧ PR wz g S ((some ⟨ob, 0, none⟩), N.length, lc) ((some ⟨ub, 0, none⟩), N.length, uc) (some ⟨ob, 0, none⟩) lc N (some ⟨ub, 0, none⟩) uc U8 vb vc V ∧ U8.length = N.length | _ => False) vals wb := by
          intro vals wa wb hb h
          match vals, h with
          | [], h => exact PR.below h hb
          | [z0], h =>
           obtain ⟨oo, k1, k2, k3⟩ := h
           exact ⟨oo, k1, k2, fun κ9 e => by obtain ⟨U8, d8, m1, m2, m3⟩ := k3 κ9 e; exact ⟨U8, d8, m1, m2.below hb, m3⟩⟩
          | [_, z1], h =>
           obtain ⟨oo, k1, k2, k3⟩ := h
           exact ⟨oo, k1, k2, fun κ9 e => by obtain ⟨U8, d8, m1, m2, m3⟩ := k3 κ9 e; exact ⟨U8, d8, m1, m2.below hb, m3⟩⟩
         obtain ⟨b117, o118, ha119, hS120, hc121⟩ := InRow.openNS ho114
         have hSb122 := hS120 x.k (by first | omega | (simp; omega))
         obtain ⟨b123, o124, ha125, hS126, hc127⟩ := InRow.openNS ho115
         have hSb128 := hS126 x.k (by first | omega | (simp; omega))
         refine WC.seqV (S := ((fun b => b = ub))) [(true, .val (.pointer (some ⟨g, 0, none⟩))), (true, .val (.pointer (some ⟨g13, 1, none⟩))), (true, .val (.slice ((A9 ((κ i)))) ((pget N ((κ i))).args.length) ((C9 ((κ i)))))), (true, .val (.int .i64 (((x.k : Nat) : Int)))), (true, .val (.pointer (some ⟨b117, o118 + x.k, none⟩))), (true, .val (.int .i64 ((((aget ((pget N (κ i)).args) x.k) : Nat) : Int)))), (true, .val (.pointer (some ⟨g14, 1, none⟩))), (true, .val (.slice ((A9 ((κ j)))) ((pget N ((κ j))).args.length) ((C9 ((κ j)))))), (true, .val (.int .i64 (((x.k : Nat) : Int)))), (true, .val (.pointer (some ⟨b123, o124 + x.k, none⟩))), (true, .val (.int .i64 ((((aget ((pget N (κ j)).args) x.k) : Nat) : Int)))), (true, .val undef), (true, .val undef)] [(0, .pointer (some ⟨g, 0, none⟩)), (1, .int .i64 ((((κ i) : Nat) : Int))), (2, .int .i64 ((((κ j) : Nat) : Int))), (7, .pointer (some ⟨g13, 0, none⟩)), (8, .pointer (some ⟨g14, 0, none⟩)), (9, .int .i64 (((x.k : Nat) : Int))), (18, .bool ((((((κ i) : Nat) : Int) : Int) == ((((κ j) : Nat) : Int) : Int)))), (40, .bool (((decide (((pget N ((κ i))).fn : Int) < (0 : Int))) || (decide (((pget N ((κ j))).fn : Int) < (0 : Int)))))), (83, .bool (((((pget N ((κ i))).fn : Int) != ((pget N ((κ j))).fn : Int)) || (((((pget N ((κ i))).args.length : Nat) : Int) : Int) != ((((pget N ((κ j))).args.length : Nat) : Int) : Int))))), (95, .bool ((decide ((((x.k : Nat) : Int) : Int) < ((((pget N ((κ i))).args.length : Nat) : Int) : Int)))))] [11, 12] [none, none] (fun vals wz => match vals with | [] => PR wz g S ((some ⟨ob, 0, none⟩), N.length, lc) ((some ⟨ub, 0, none⟩), N.length, uc) (some ⟨ob, 0, none⟩) lc N (some ⟨ub, 0, none⟩) uc x.U vb vc V | [z0] => ∃ oo, Run false N [((aget (pget N (κ i)).args x.k), (aget (pget N (κ j)).args x.k))] x.κ oo ∧ z0 = .bool oo.isSome ∧ ∀ κ9, oo = some κ9 → ∃ U8 d8, Reps U8 κ9 d8 ∧ PR wz g S ((some ⟨ob, 0, none⟩), N.length, lc) ((some ⟨ub, 0, none⟩), N.length, uc) (some ⟨ob, 0, none⟩) lc N (some ⟨ub, 0, none⟩) uc U8 vb vc V ∧ U8.length = N.length | [_, z1] => ∃ oo, Run false N [((aget (pget N (κ i)).args x.k), (aget (pget N (κ j)).args x.k))] x.κ oo ∧ z1 = .bool (!oo.isSome) ∧ ∀ κ9, oo = some κ9 → ∃ U8 d8, Reps U8 κ9 d8 ∧ PR wz g S ((some ⟨ob, 0, none⟩), N.length, lc) ((some ⟨ub, 0, none⟩), N.length, uc) (some ⟨ob, 0, none⟩) lc N (some ⟨ub, 0, none⟩) uc U8 vb vc V ∧ U8.length = N.length | _ => False) hGV9 (by decide) ⟨rfl, rfl, rfl, rfl, rfl, rfl, rfl, rfl, rfl, rfl, trivial⟩ (by kernel_rfl) (by kernel_rfl) (by kernel_rfl) (by kernel_rfl) ho113 ?_ ?_
         ·refine ⟨.inl ⟨rfl, true, .none rfl, (fun gg b h => by cases h), fun h w => optUndef h, fun zβ za zw zc => ?_⟩, ?_⟩
          ·exact wp_move rfl (zc.kn.ev rfl) ⟨_, rfl, Below.refl _ _, optDef zβ rfl⟩
          refine ⟨.inl ⟨rfl, true, .none rfl, (fun gg b h => by cases h), fun h w => optUndef h, fun zβ za zw zc => ?_⟩, ?_⟩
          ·exact fld_69_1 rfl (zc.kn.ev rfl) ⟨_, rfl, Below.refl _ _, optDef zβ rfl⟩
          refine ⟨.inl ⟨rfl, true, .none rfl, (fun gg b h => by cases h), fun h w => optUndef h, fun zβ za zw zc => ?_⟩, ?_⟩
          ·exact ld_48 rfl ((evt za 99).trans (optSVal (zc.dep 1 99 (by kernel_rfl) (by decide)) rfl rfl)) (chg_cell zc.chg (by first | exact hSub _ (by assumption) | (intro e; (try dsimp only at e); omega)) ((hB111.cell 1).trans rfl)) ⟨_, rfl, Below.refl _ _, optDef zβ rfl⟩
          refine ⟨.inl ⟨rfl, true, .none rfl, (fun gg b h => by cases h), fun h w => optUndef h, fun zβ za zw zc => ?_⟩, ?_⟩
          ·exact wp_move rfl (zc.kn.ev rfl) ⟨_, rfl, Below.refl _ _, optDef zβ rfl⟩
          refine ⟨.inl ⟨rfl, true, .none rfl, (fun gg b h => by cases h), fun h w => optUndef h, fun zβ za zw zc => ?_⟩, ?_⟩
          ·exact ix_48 (k := x.k) rfl ((evt za 100).trans (optSVal (zc.dep 2 100 (by kernel_rfl) (by decide)) rfl rfl)) (ha119 x.k (by first | omega | (simp; omega))) ((evt za 101).trans (optSVal (zc.dep 3 101 (by kernel_rfl) (by decide)) rfl rfl)) (by first | omega | (simp; omega)) ⟨_, rfl, Below.refl _ _, optDef zβ rfl⟩
          refine ⟨.inl ⟨rfl, true, .none rfl, (fun gg b h => by cases h), fun h w => optUndef h, fun zβ za zw zc => ?_⟩, ?_⟩
          ·exact ld_3 rfl ((evt za 102).trans (optSVal (zc.dep 4 102 (by kernel_rfl) (by decide)) rfl rfl)) (chg_cell zc.chg (by first | exact hSub _ (by assumption) | (intro e; (try dsimp only at e); omega)) (hc121 x.k (by first | omega | (simp; omega)))) ⟨_, rfl, Below.refl _ _, optDef zβ rfl⟩
          refine ⟨.inl ⟨rfl, true, .none rfl, (fun gg b h => by cases h), fun h w => optUndef h, fun zβ za zw zc => ?_⟩, ?_⟩
          ·exact fld_69_1 rfl (zc.kn.ev rfl) ⟨_, rfl, Below.refl _ _, optDef zβ rfl⟩
          refine ⟨.inl ⟨rfl, true, .none rfl, (fun gg b h => by cases h), fun h w => optUndef h, fun zβ za zw zc => ?_⟩, ?_⟩
          ·exact ld_48 rfl ((evt za 104).trans (optSVal (zc.dep 6 104 (by kernel_rfl) (by decide)) rfl rfl)) (chg_cell zc.chg (by first | exact hSub _ (by assumption) | (intro e; (try dsimp only at e); omega)) ((hB112.cell 1).trans rfl)) ⟨_, rfl, Below.refl _ _, optDef zβ rfl⟩
          refine ⟨.inl ⟨rfl, true, .none rfl, (fun gg b h => by cases h), fun h w => optUndef h, fun zβ za zw zc => ?_⟩, ?_⟩
          ·exact wp_move rfl (zc.kn.ev rfl) ⟨_, rfl, Below.refl _ _, optDef zβ rfl⟩
          refine ⟨.inl ⟨rfl, true, .none rfl, (fun gg b h => by cases h), fun h w => optUndef h, fun zβ za zw zc => ?_⟩, ?_⟩
          ·exact ix_48 (k := x.k) rfl ((evt za 105).trans (optSVal (zc.dep 7 105 (by kernel_rfl) (by decide)) rfl rfl)) (ha125 x.k (by first | omega | (simp; omega))) ((evt za 106).trans (optSVal (zc.dep 8 106 (by kernel_rfl) (by decide)) rfl rfl)) (by first | omega | (simp; omega)) ⟨_, rfl, Below.refl _ _, optDef zβ rfl⟩
          refine ⟨.inl ⟨rfl, true, .none rfl, (fun gg b h => by cases h), fun h w => optUndef h, fun zβ za zw zc => ?_⟩, ?_⟩
          ·exact ld_3 rfl ((evt za 107).trans (optSVal (zc.dep 9 107 (by kernel_rfl) (by decide)) rfl rfl)) (chg_cell zc.chg (by first | exact hSub _ (by assumption) | (intro e; (try dsimp only at e); omega)) (hc127 x.k (by first | omega | (simp; omega)))) ⟨_, rfl, Below.refl _ _, optDef zβ rfl⟩
          refine ⟨.inr ⟨0, rfl, by kernel_rfl, true, .none rfl, (fun gg b h => by cases h), (fun h => (nomatch h)), fun zβ za zw zvals zc => ?_⟩, ?_⟩
          ·obtain rfl := vlen0 zc.len
           have zn := zc.now
           exact wp_call (by kernel_rfl) rfl (hv3 ((evt za 98).trans (optSVal (zc.dep 0 98 (by kernel_rfl) (by decide)) rfl rfl)) ((evt za 103).trans (optSVal (zc.dep 5 103 (by kernel_rfl) (by decide)) rfl rfl)) ((evt za 108).trans (optSVal (zc.dep 10 108 (by kernel_rfl) (by decide)) rfl rfl))) (ih (n - 1) (by omega) x.κ x.d x.U _ _ _ (by omega) hkp.1 hRx zn hUx hka9.1 hka9.2) (fun v w' h => by obtain ⟨oo, m1, m2, m3, m4⟩ := h; exact ⟨v, rfl, m3, ⟨oo, m1, m2, m4⟩, cvNo⟩)
          refine ⟨.inr ⟨1, rfl, by kernel_rfl, true, .none rfl, (fun gg b h => by cases h), (fun h => (nomatch h)), fun zβ za zw zvals zc => ?_⟩, ?_⟩
          ·obtain ⟨z0, rfl⟩ := vlen1 zc.len
           have zn := zc.now
           obtain ⟨oo, k1, e, k2⟩ := zn
           have e0 : z0 = za.tmps.getD 109 undef := Option.some.inj (zc.val 0 11 109 rfl (by kernel_rfl))
           exact wp_not rfl ((evt za 109).trans (e0.symm.trans e)) ⟨_, rfl, .ofBelow (Below.refl _ _), ⟨oo, k1, rfl, k2⟩, cvNo⟩
          exact trivial
         ·intro za w129 zvals zh zl hG130 hc131 zu zw zk
          obtain ⟨z0, z1, rfl⟩ := vlen2 zl
          obtain ⟨oo, hrun, e9, hNo⟩ := hG130
          have hrun9 : Run false N (((pget N (κ i)).args.zip (pget N (κ j)).args).take x.k ++ [((aget (pget N (κ i)).args x.k), (aget (pget N (κ j)).args x.k))]) (mrg κ (κ j) (κ i)) oo := Run.snoc hrx hrun
          have zh := zh.cons (d := 110) (v := .bool (!oo.isSome)) ((Option.some.inj (zw 1 12 110 rfl (by kernel_rfl))).symm.trans e9)
          have hC132 := Chg.trans hCx hc131
          have ha133 := ho114.chgS hc131 (fun q e h9 => hSub q e h9)
          have hb134 := ho115.chgS hc131 (fun q e h9 => hSub q e h9)
          have hB136 := chg_blk hB111 hc131 (fun e => by have e2 : g13 = ub := e; omega)
          have hB137 := chg_blk hB112 hc131 (fun e => by have e2 : g14 = ub := e; omega)
          clear zu zw zk
          refine WE.go zh ?_
          refine WE.next ?_
          refine WC.cond rfl (fun h138 => ?_) (fun h138 => ?_)
          ·skip
           have hoo : oo = none := by cases oo with | none => rfl | some q => simp at h138
           refine WC.seq (WC.region (WL.asg rfl rfl rfl rfl rfl (WL.nil (WE.next (WC.ret (WE.blockRet (WE.thenRet (WE.thenRet (WE.blockRet (WE.thenRet (WE.ret1 rfl rfl ?_)))))))))))
           have hrs := Run.stop (qs := ((pget N (κ i)).args.zip (pget N (κ j)).args).drop (x.k + 1)) (hoo ▸ hrun9)
           rw [← zip_take_succ hkl hlen9, List.take_append_drop] at hrs
           exact ⟨_, rfl, none, Run.step (i := i) (j := j) hne hst (by show Run false N (((pget N (κ i)).args.zip (pget N (κ j)).args) ++ []) _ none; rw [List.append_nil]; exact hrs), rfl, hC132, fun κ2 e => nomatch e⟩
          ·skip
           obtain ⟨κ9, rfl⟩ : ∃ q, oo = some q := by cases oo with | none => simp at h138 | some q => exact ⟨q, rfl⟩
           obtain ⟨U8, d8, hR8, hP8, hU8⟩ := hNo κ9 rfl
           refine WC.skip (WE.blockNormal (WE.next (WC.region (WL.mv rfl rfl rfl rfl rfl ?_))))
           refine WL.val (.int .i64 ((((x.k + 1) : Nat) : Int))) rfl rfl rfl (fun za zC zh zk => addb_3 rfl (zh.ev rfl) (zh.ev rfl) (wrap_eq (by omega) (by omega) (by omega)) zk) ?_
           refine WL.asg rfl rfl rfl rfl rfl (WL.nil ?_)
           refine WE.round (⟨x.k + 1, κ9, d8, U8⟩) ⟨rfl, rfl, rfl, rfl, rfl, rfl, rfl, rfl, rfl, trivial⟩ ?_ ?_
           ·exact ⟨(by (try dsimp only); omega), hR8, hU8, (by dsimp only; rw [zip_take_succ hkl hlen9]; exact hrun9), hC132, hB136, hB137, hP8, ha133, hb134⟩
           ·(try dsimp only); omega
        ·have h116 : ¬ ((((x.k : Nat) : Int) : Int) < ((((pget N ((κ i))).args.length : Nat) : Int) : Int)) := by simpa using h116
         refine WC.exit (WE.thenExit (WE.thenExit (WE.blockIs rfl (WE.next (WC.seq (WC.region (WL.asg rfl rfl rfl rfl rfl (WL.nil (WE.next (WC.ret (WE.ret1 rfl rfl ?_)))))))))))
         have hke : x.k = (pget N (κ i)).args.length := by omega
         rw [List.take_of_length_le (by rw [List.length_zip]; omega)] at hrx
         exact ⟨_, rfl, some x.κ, Run.step (i := i) (j := j) hne hst (by show Run false N (((pget N (κ i)).args.zip (pget N (κ j)).args) ++ []) _ _; rw [List.append_nil]; exact hrx), rfl, hCx, fun κ2 e => by obtain rfl := Option.some.inj e; exact ⟨x.U, x.d, hRx, ho113, hUx⟩⟩
end Go.Proofs.Ythhgidliopohcaa

/- What a part becomes is measured: the document's program. -/
namespace Go.Proofs.Ythhgidliopohcaa
open Go.RowKit Go
set_option linter.unusedVariables false
set_option linter.unusedSimpArgs false
/-- The cells of the row of parts. -/
def CP (w : World) (ob : Nat) (A : Nat → Option Addr) (C : Nat → Nat) (N : List Pt) : Prop := ∀ k, k < N.length → w.cell? ⟨ob, 0 + k * 2, none⟩ = some (.int .i64 (pget N k).fn) ∧ w.cell? ⟨ob, 0 + k * 2 + 1, none⟩ = some (.slice (A k) (pget N k).args.length (C k))
theorem CP.chg {w w' : World} {ob : Nat} {A : Nat → Option Addr} {C : Nat → Nat} {N : List Pt} {Z : Nat → Prop} (h : CP w ob A C N) (hc : Chg Z w w') (hb : ¬ Z ob) : CP w' ob A C N := fun k hk => ⟨chg_cell hc hb (h k hk).1, chg_cell hc hb (h k hk).2⟩
theorem CP.below {w w' : World} {ob : Nat} {A : Nat → Option Addr} {C : Nat → Nat} {N : List Pt} (h : CP w ob A C N) (hb : Below w.heap.size w w') : CP w' ob A C N := h.chg (Z := fun _ => False) (.ofBelow hb) id
set_option maxRecDepth 100000 in
theorem rask_any (κ d : Nat → Nat) (U : List Nat) (N : List Pt) (V : Nat → Nat) (g : Nat) (S : Nat → Prop) (la : Option Addr) (lc ub uc vb vc gm zb zc db dc : Nat) (hk : KOk N κ) (hN : NOk N) (hn : N.length ≤ 1048576) (hs : argN N ≤ 1048576) (hUl : U.length = N.length) (hR : Reps U κ d) (hzZ : ¬ RZ g S la lc N.length (some ⟨ub, 0, none⟩) uc U.length vb zb) (hdZ : ¬ RZ g S la lc N.length (some ⟨ub, 0, none⟩) uc U.length vb db) (n : Nat) : ∀ (ms : List Ms) (i : Nat) (w : World), unS ms ≤ n → PR w g S (la, N.length, lc) ((some ⟨ub, 0, none⟩), N.length, uc) la lc N (some ⟨ub, 0, none⟩) uc U vb vc V → AskOk N κ ms → RM w gm zb zc db dc ms → i < N.length →
  Calls Try.prog 48 #[.pointer (some ⟨g, 0, none⟩), .pointer (some ⟨gm, 0, none⟩), .int .i64 (i : Int)] w (Ret fun v' w' => ∃ bb : Bool, v' = .bool bb ∧ Chg (fun b => b = zb ∨ b = db) w w' ∧ (bb = true → ∃ ms', RM w' gm zb zc db dc ms' ∧ AskOk N κ ms' ∧ MExt ms ms' ∧ 0 < (mget ms' (κ i)).sz) ∧ (bb = false → NoMeas N κ ms i)) := by
 induction n using Nat.strongRecOn with
 | _ n ih => ?_
 intro ms i w hun hP hA hM hi
 have hC0 := Chg.refl (fun b => b = zb ∨ b = db) w
 have hlr : κ i < N.length := hk.lt _ hi
 have hkr : κ (κ i) = κ i := hk.idem _
 have hml := hA.len
 have hal9 := args_le hlr
 have hgm1 : gm ≠ zb := hM.gz
 have hgm2 : gm ≠ db := hM.gd
 obtain ⟨ob, A9, C9, rfl, hob, hcP⟩ := hP.ofP (by omega)
 have hoz : ¬ (fun b => b = zb ∨ b = db) ob := fun e => e.elim (fun e => hzZ (e ▸ .inr (.inr (.inl hob)))) (fun e => hdZ (e ▸ .inr (.inr (.inl hob))))
 have hCP : CP w ob A9 C9 N := fun k hk2 => ⟨(hcP k hk2).1, (hcP k hk2).2.1⟩
 have hPz : ∀ b, RZ g S (some ⟨ob, 0, none⟩) lc N.length (some ⟨ub, 0, none⟩) uc U.length vb b → ¬ (fun b => b = zb ∨ b = db) b := fun b q e => e.elim (fun e => hzZ (e ▸ q)) (fun e => hdZ (e ▸ q))
 have hSz : ∀ b, S b → ¬ (b = zb ∨ b = db) := fun b q => hPz b (.inr (.inr (.inr (.inr q))))
 refine Calls.walk (l := [.pointer (some ⟨g, 0, none⟩), .pointer (some ⟨gm, 0, none⟩), .int .i64 (((i : Nat) : Int))]) Try.func48 rfl (by kernel_rfl) ?_
 refine WC.sub (K' := [(0, .pointer (some ⟨g, 0, none⟩)), (1, .pointer (some ⟨gm, 0, none⟩)), (2, .int .i64 (((i : Nat) : Int)))]) ⟨rfl, rfl, rfl, trivial⟩ ?_
 refine WC.seq (WC.region (WL.asg rfl rfl rfl rfl rfl (WL.nil (WE.next (WC.seq (WC.region (WL.mv rfl rfl rfl rfl rfl (WL.mv rfl rfl rfl rfl rfl ?_))))))))
 refine WL.call rfl rfl rfl (fun za zh zC => wp_call (by kernel_rfl) rfl (hv2 (zh.ev rfl) (zh.ev rfl))) (rtop_any κ d _ g S _ lc N _ uc U vb vc V _ i (by rw [hUl]; exact hP) hR (by omega) (by omega)) ?_
 rintro _ w2 ⟨rfl, hq1⟩
 refine WL.asg rfl rfl rfl rfl rfl (WL.nil (WE.next (WC.seq (WC.seq (WC.region (WL.mv rfl rfl rfl rfl rfl ?_))))))
 refine WL.val _ rfl rfl rfl (fun za zC zh zk => nilCheck_ rfl (zh.ev rfl) zk) ?_
 refine WL.val _ rfl rfl rfl (fun za zC zh zk => fld_71_0 rfl (zh.ev rfl) zk) ?_
 have ho3 := hM.below hq1
 refine WL.val _ rfl rfl rfl (fun za zC zh zk => ld_48 rfl (zh.ev rfl) ho3.c0 zk) ?_
 refine WL.mv rfl rfl rfl rfl rfl ?_
 refine WL.val _ rfl rfl rfl (fun za zC zh zk => ix_48 (k := (κ i)) rfl (zh.ev rfl) rfl (zh.ev rfl) (by first | omega | (simp only [List.length_set]; omega)) zk) ?_
 refine WL.val _ rfl rfl rfl (fun za zC zh zk => ld_3 rfl (zh.ev rfl) (ho3.sz (by first | omega | (simp only [List.length_set]; omega))) zk) ?_
 refine WL.val (.bool ((((szI (mget ms ((κ i)))) : Int) != (0 : Int)))) rfl rfl rfl (fun za zC zh zk => neq_3 rfl (zh.ev rfl) (zh.ev rfl) zk) ?_
 refine WL.nil (WE.next ?_)
 refine WC.cond rfl (fun h4 => ?_) (fun h4 => ?_)
 ·have h4 : ((szI (mget ms ((κ i)))) : Int) ≠ (0 : Int) := by simpa using h4
  refine WC.seq (WC.region (WL.mv rfl rfl rfl rfl rfl ?_))
  refine WL.val _ rfl rfl rfl (fun za zC zh zk => nilCheck_ rfl (zh.ev rfl) zk) ?_
  refine WL.val _ rfl rfl rfl (fun za zC zh zk => fld_71_0 rfl (zh.ev rfl) zk) ?_
  refine WL.val _ rfl rfl rfl (fun za zC zh zk => ld_48 rfl (zh.ev rfl) ho3.c0 zk) ?_
  refine WL.mv rfl rfl rfl rfl rfl ?_
  refine WL.val _ rfl rfl rfl (fun za zC zh zk => ix_48 (k := (κ i)) rfl (zh.ev rfl) rfl (zh.ev rfl) (by first | omega | (simp only [List.length_set]; omega)) zk) ?_
  refine WL.val _ rfl rfl rfl (fun za zC zh zk => ld_3 rfl (zh.ev rfl) (ho3.sz (by first | omega | (simp only [List.length_set]; omega))) zk) ?_
  refine WL.val (.bool ((decide ((0 : Int) < ((szI (mget ms ((κ i)))) : Int))))) rfl rfl rfl (fun za zC zh zk => gtr_3 rfl (zh.ev rfl) (zh.ev rfl) zk) ?_
  refine WL.asg rfl rfl rfl rfl rfl (WL.nil (WE.next (WC.ret (WE.thenRet (WE.ret1 rfl rfl ?_)))))
  have hC5 := Chg.trans hC0 (.ofBelow hq1)
  have hne0 : szI (mget ms (κ i)) ≠ 0 := by omega
  refine ⟨_, rfl, _, rfl, hC5, fun e => ⟨ms, ho3, hA, MExt.refl _, ?_⟩, fun e sz dp hm => ⟨κ i, ?_, Nat.le_refl _⟩⟩
  ·have e2 := of_decide_eq_true e
   cases e3 : (mget ms (κ i)).op with
   | true => unfold szI at e2; rw [e3] at e2; simp at e2
   | false => unfold szI at e2; rw [e3] at e2; simpa using e2
  ·have e2 := of_decide_eq_false e
   cases e3 : (mget ms (κ i)).op with
   | true => rfl
   | false => unfold szI at e2 hne0; rw [e3] at e2 hne0; simp at e2 hne0; omega
 ·have h4 : ¬ (((szI (mget ms ((κ i)))) : Int) ≠ (0 : Int)) := by simpa using h4
  have hz1 : (mget ms (κ i)).op = false := by
   cases e : (mget ms (κ i)).op with
   | false => rfl
   | true => unfold szI at h4; rw [e] at h4; simp at h4
  have hz0 : (mget ms (κ i)).sz = 0 := by unfold szI at h4; rw [hz1] at h4; simpa using h4
  obtain ⟨hA1, hu1⟩ := hA.opn hlr hz0 hz1
  refine WC.skip (WE.next (WC.seq (WC.region (WL.mv rfl rfl rfl rfl rfl ?_))))
  refine WL.val _ rfl rfl rfl (fun za zC zh zk => nilCheck_ rfl (zh.ev rfl) zk) ?_
  refine WL.val _ rfl rfl rfl (fun za zC zh zk => fld_71_0 rfl (zh.ev rfl) zk) ?_
  refine WL.val _ rfl rfl rfl (fun za zC zh zk => ld_48 rfl (zh.ev rfl) ho3.c0 zk) ?_
  refine WL.mv rfl rfl rfl rfl rfl ?_
  refine WL.val _ rfl rfl rfl (fun za zC zh zk => ix_48 (k := (κ i)) rfl (zh.ev rfl) rfl (zh.ev rfl) (by first | omega | (simp only [List.length_set]; omega)) zk) ?_
  obtain ⟨⟨cs6, hB7, hs8⟩, hM9⟩ := ho3.setZ (r := κ i) (by first | omega | (simp only [List.length_set]; omega)) ⟨(mget ms (κ i)).sz, (mget ms (κ i)).dp, true⟩ rfl
  refine WL.step (post := fun _ w' => Upd zb w2 w' ∧ RM w' gm zb zc db dc (ms.set (κ i) ⟨(mget ms (κ i)).sz, (mget ms (κ i)).dp, true⟩)) rfl rfl rfl (fun za zC zh zk => st_3 rfl (zh.ev rfl) (zh.ev rfl) hB7 hs8 (fun v => zk v _ ⟨Upd.at_ _ _ _ _, hM9⟩)) ?_
  rintro u10 w11 ⟨hu12, hM13⟩
  have hc14 : Chg (fun b => b = zb ∨ b = db) w2 w11 := .ofUpd hu12 (.inl rfl)
  have ho15 := hP.below hq1
  have ho16 := hCP.below hq1
  have ho17 := (hcP (κ i) hlr).2.2.below hq1
  have hC18 := Chg.trans hC0 (.ofBelow hq1)
  have hC19 := Chg.trans hC18 hc14
  have hP20 := ho15.chg hc14 hPz
  have hQ21 := ho16.chg hc14 hoz
  have ha22 := ho17.chgS hc14 hSz
  refine WL.nil (WE.next (WC.seq (WC.region (WL.asg rfl rfl rfl rfl rfl (WL.asg rfl rfl rfl rfl rfl (WL.nil (WE.next (WC.seq (WC.seq (WC.region (WL.asg rfl rfl rfl rfl rfl (WL.nil (WE.next (WC.block ?_))))))))))))))
  refine WC.loop (X := AS) (fun x => (pget N (κ i)).args.length - x.k) (fun x => [(0, .pointer (some ⟨g, 0, none⟩)), (1, .pointer (some ⟨gm, 0, none⟩)), (2, .int .i64 ((((κ i) : Nat) : Int))), (7, .int .i64 ((((szF κ (msz x.ms) ((pget N (κ i)).args.take x.k)) : Nat) : Int))), (8, .int .i64 ((((dpF κ (mdp x.ms) ((pget N (κ i)).args.take x.k)) : Nat) : Int))), (9, .int .i64 (((x.k : Nat) : Int))), (21, .bool ((((szI (mget ms ((κ i)))) : Int) != (0 : Int))))]) (fun x w23 => x.k ≤ (pget N (κ i)).args.length ∧ AskOk N κ x.ms ∧ MExt (ms.set (κ i) ⟨(mget ms (κ i)).sz, (mget ms (κ i)).dp, true⟩) x.ms ∧ (∀ a ∈ (pget N (κ i)).args.take x.k, 0 < (mget x.ms (κ a)).sz) ∧ Chg (fun b => b = zb ∨ b = db) w w23 ∧ PR (w23) g S ((some ⟨ob, 0, none⟩), N.length, lc) ((some ⟨ub, 0, none⟩), N.length, uc) (some ⟨ob, 0, none⟩) lc N (some ⟨ub, 0, none⟩) uc U vb vc V ∧ RM (w23) gm zb zc db dc x.ms ∧ CP (w23) ob A9 C9 N ∧ InRow eltN S (w23) (pget N (κ i)).args (A9 (κ i))) (⟨0, [], (ms.set (κ i) ⟨(mget ms (κ i)).sz, (mget ms (κ i)).dp, true⟩)⟩) ⟨rfl, rfl, rfl, rfl, rfl, rfl, rfl, trivial⟩ ?_ ?_
  ·exact ⟨Nat.zero_le _, hA1, MExt.refl _, (fun a h9 => by simp at h9), hC19, hP20, hM13, hQ21, ha22⟩
  ·rintro x w23 ⟨hkx, hAx, hEx, hDx, hCx, ho24, ho25, ho26, ho27⟩
   have hmx := hAx.len
   refine WC.seq (WC.seq (WC.region (WL.mv rfl rfl rfl rfl rfl (WL.mv rfl rfl rfl rfl rfl ?_))))
   refine WL.val _ rfl rfl rfl (fun za zC zh zk => nilCheck_ rfl (zh.ev rfl) zk) ?_
   refine WL.val _ rfl rfl rfl (fun za zC zh zk => fld_67_0 rfl (zh.ev rfl) zk) ?_
   refine WL.val _ rfl rfl rfl (fun za zC zh zk => ld_65 rfl (zh.ev rfl) ho24.c0 zk) ?_
   refine WL.mv rfl rfl rfl rfl rfl ?_
   refine WL.val _ rfl rfl rfl (fun za zC zh zk => ix_65 (k := (κ i)) rfl (zh.ev rfl) rfl (zh.ev rfl) (by first | omega | (simp; omega)) zk) ?_
   refine WL.val _ rfl rfl rfl (fun za zC zh zk => fld_69_1 rfl (zh.ev rfl) zk) ?_
   refine WL.val _ rfl rfl rfl (fun za zC zh zk => ld_48 rfl (zh.ev rfl) (ho26 ((κ i)) (by first | omega | (simp; omega))).2 zk) ?_
   refine WL.val (.int .i64 ((((pget N ((κ i))).args.length : Nat) : Int))) rfl rfl rfl (fun za zC zh zk => len_48 rfl (zh.ev rfl) zk) ?_
   refine WL.val (.bool ((decide ((((x.k : Nat) : Int) : Int) < ((((pget N ((κ i))).args.length : Nat) : Int) : Int))))) rfl rfl rfl (fun za zC zh zk => lss_3 rfl (zh.ev rfl) (zh.ev rfl) zk) ?_
   refine WL.nil (WE.next ?_)
   refine WC.cond rfl (fun h28 => ?_) (fun h28 => ?_)
   ·have h28 : (((x.k : Nat) : Int) : Int) < ((((pget N ((κ i))).args.length : Nat) : Int) : Int) := by simpa using h28
    refine WC.skip (WE.next (WC.seq (WC.block (WC.seq (WC.region (WL.mv rfl rfl rfl rfl rfl (WL.mv rfl rfl rfl rfl rfl ?_)))))))
    refine WL.val _ rfl rfl rfl (fun za zC zh zk => nilCheck_ rfl (zh.ev rfl) zk) ?_
    refine WL.val _ rfl rfl rfl (fun za zC zh zk => fld_67_0 rfl (zh.ev rfl) zk) ?_
    refine WL.val _ rfl rfl rfl (fun za zC zh zk => ld_65 rfl (zh.ev rfl) ho24.c0 zk) ?_
    refine WL.mv rfl rfl rfl rfl rfl ?_
    refine WL.val _ rfl rfl rfl (fun za zC zh zk => ix_65 (k := (κ i)) rfl (zh.ev rfl) rfl (zh.ev rfl) (by first | omega | (simp; omega)) zk) ?_
    refine WL.val _ rfl rfl rfl (fun za zC zh zk => fld_69_1 rfl (zh.ev rfl) zk) ?_
    refine WL.val _ rfl rfl rfl (fun za zC zh zk => ld_48 rfl (zh.ev rfl) (ho26 ((κ i)) (by first | omega | (simp; omega))).2 zk) ?_
    refine WL.mv rfl rfl rfl rfl rfl ?_
    obtain ⟨b29, o30, ha31, hS32, hc33⟩ := InRow.openNS ho27
    have hSb34 := hS32 x.k (by first | omega | (simp; omega))
    refine WL.val _ rfl rfl rfl (fun za zC zh zk => ix_48 (k := x.k) rfl (zh.ev rfl) (ha31 x.k (by first | omega | (simp; omega))) (zh.ev rfl) (by first | omega | (simp; omega)) zk) ?_
    refine WL.val _ rfl rfl rfl (fun za zC zh zk => ld_3 rfl (zh.ev rfl) (hc33 x.k (by first | omega | (simp; omega))) zk) ?_
    have hkl : x.k < (pget N (κ i)).args.length := by omega
    have ham : (aget (pget N (κ i)).args x.k) ∈ (pget N (κ i)).args := aget_mem hkl
    have hal : (aget (pget N (κ i)).args x.k) < N.length := by have z := (hN (κ i) hlr).1 _ ham; omega
    have hka : κ (aget (pget N (κ i)).args x.k) < N.length := hk.lt _ hal
    have hkk : κ (κ (aget (pget N (κ i)).args x.k)) = κ (aget (pget N (κ i)).args x.k) := hk.idem _
    refine WL.call rfl rfl rfl (fun za zh zC => wp_call (by kernel_rfl) rfl (hv2 (zh.ev rfl) (zh.ev rfl))) (rtop_any κ d _ g S _ lc N _ uc U vb vc V _ (aget (pget N (κ i)).args x.k) (by rw [hUl]; exact ho24) hR (by omega) (by omega)) ?_
    rintro _ w36 ⟨rfl, hq35⟩
    refine WL.asg rfl rfl rfl rfl rfl ?_
    refine WL.nil (WE.sub (K' := [(0, .pointer (some ⟨g, 0, none⟩)), (1, .pointer (some ⟨gm, 0, none⟩)), (2, .int .i64 ((((κ i) : Nat) : Int))), (7, .int .i64 ((((szF κ (msz x.ms) ((pget N (κ i)).args.take x.k)) : Nat) : Int))), (8, .int .i64 ((((dpF κ (mdp x.ms) ((pget N (κ i)).args.take x.k)) : Nat) : Int))), (9, .int .i64 (((x.k : Nat) : Int))), (10, .int .i64 ((((κ (aget (pget N (κ i)).args x.k)) : Nat) : Int))), (21, .bool ((((szI (mget ms ((κ i)))) : Int) != (0 : Int)))), (46, .bool ((decide ((((x.k : Nat) : Int) : Int) < ((((pget N ((κ i))).args.length : Nat) : Int) : Int)))))]) ⟨rfl, rfl, rfl, rfl, rfl, rfl, rfl, rfl, rfl, trivial⟩ ?_)
    refine WE.next (WC.seq (WC.seq (WC.region (WL.mv rfl rfl rfl rfl rfl (WL.mv rfl rfl rfl rfl rfl (WL.mv rfl rfl rfl rfl rfl ?_))))))
    have ho37 := ho24.below hq35
    have ho38 := ho25.below hq35
    have hux := hEx.un
    refine WL.call rfl rfl rfl (fun za zh zC => wp_call (by kernel_rfl) rfl (hv3 (zh.ev rfl) (zh.ev rfl) (zh.ev rfl))) (ih (n - 1) (by omega) x.ms (κ (aget (pget N (κ i)).args x.k)) _ (by omega) ho37 hAx ho38 hka) ?_
    rintro _ w43 ⟨bb39, rfl, hc40, h41, h42⟩
    have ho44 := ho26.below hq35
    have ho45 := ho27.below hq35
    have hC46 := Chg.trans hCx (.ofBelow hq35)
    have hC47 := Chg.trans hC46 hc40
    have hP48 := ho37.chg hc40 hPz
    have hQ49 := ho44.chg hc40 hoz
    have ha50 := ho45.chgS hc40 hSz
    refine WL.val (.bool ((!bb39))) rfl rfl rfl (fun za zC zh zk => wp_not rfl (zh.ev rfl) zk) ?_
    refine WL.nil (WE.next ?_)
    refine WC.cond rfl (fun h51 => ?_) (fun h51 => ?_)
    ·have h51 : ¬ (bb39 = true) := by simpa using h51
     refine WC.seq (WC.region (WL.asg rfl rfl rfl rfl rfl (WL.nil (WE.next (WC.ret (WE.thenRet (WE.blockRet (WE.thenRet (WE.thenRet (WE.blockRet (WE.thenRet (WE.ret1 rfl rfl ?_))))))))))))
     have hnm := h42 (by simpa using h51)
     exact ⟨_, rfl, false, rfl, hC47, (fun e => nomatch e), fun _ => NoMeas.up hi hml hlr hEx ham (fun sz dp hm => by obtain ⟨o, e1, e2⟩ := hnm sz dp hm; rw [hkk] at e2; exact ⟨o, e1, e2⟩)⟩
    ·have h51 : ¬ (¬ (bb39 = true)) := by simpa using h51
     refine WC.skip (WE.next (WC.seq ?_))
     obtain ⟨ms3, hM3, hA3, hE3, hD3⟩ := h41 (by simpa using h51)
     rw [hkk] at hD3
     have hE4 := hEx.trans hE3
     have hm3 := hA3.len
     have htk := List.take_succ_eq_append_getElem hkl
     rw [← aget_lt hkl] at htk
     have hD4 : ∀ a ∈ (pget N (κ i)).args.take (x.k + 1), 0 < (mget ms3 (κ a)).sz := fun a h9 => by
      rw [htk] at h9
      rcases List.mem_append.1 h9 with z | z
      ·rw [hE3.keep _ (.inr (hDx a z))]; exact hDx a z
      ·rw [List.mem_singleton.1 z]; exact hD3
     have hS4 : (szF κ (msz ms3) ((pget N (κ i)).args.take (x.k + 1))) = min ((szF κ (msz x.ms) ((pget N (κ i)).args.take x.k)) + (mget ms3 (κ (aget (pget N (κ i)).args x.k))).sz) capS := by rw [htk, szF_snoc, szF_congr (f := msz ms3) (g := msz x.ms) _ (fun a h9 => by show (mget ms3 (κ a)).sz = _; rw [hE3.keep _ (.inr (hDx a h9))])]
     have hD5 : (dpF κ (mdp ms3) ((pget N (κ i)).args.take (x.k + 1))) = max (dpF κ (mdp x.ms) ((pget N (κ i)).args.take x.k)) ((mget ms3 (κ (aget (pget N (κ i)).args x.k))).dp + 1) := by rw [htk, dpF_snoc, dpF_congr (f := mdp ms3) (g := mdp x.ms) _ (fun a h9 => by show (mget ms3 (κ a)).dp = _; rw [hE3.keep _ (.inr (hDx a h9))])]
     have hb3 := hA3.bnd _ hD3
     have hn3 := ndS_le ms3
     have hsp := szF_pos (κ := κ) (f := msz x.ms) ((pget N (κ i)).args.take x.k)
     unfold capS at hb3 hsp hS4
     have hop3 := (hA3.done _ hD3).1
     have hsz3 : szI (mget ms3 (κ (aget (pget N (κ i)).args x.k))) = ((mget ms3 (κ (aget (pget N (κ i)).args x.k))).sz : Int) := by unfold szI; rw [hop3]; rfl
     refine WC.region (WL.mv rfl rfl rfl rfl rfl (WL.mv rfl rfl rfl rfl rfl ?_))
     refine WL.val _ rfl rfl rfl (fun za zC zh zk => nilCheck_ rfl (zh.ev rfl) zk) ?_
     refine WL.val _ rfl rfl rfl (fun za zC zh zk => fld_71_0 rfl (zh.ev rfl) zk) ?_
     refine WL.val _ rfl rfl rfl (fun za zC zh zk => ld_48 rfl (zh.ev rfl) hM3.c0 zk) ?_
     refine WL.mv rfl rfl rfl rfl rfl ?_
     refine WL.val _ rfl rfl rfl (fun za zC zh zk => ix_48 (k := (κ (aget (pget N (κ i)).args x.k))) rfl (zh.ev rfl) rfl (zh.ev rfl) (by first | omega | (simp only [List.length_set]; omega)) zk) ?_
     refine WL.val _ rfl rfl rfl (fun za zC zh zk => ld_3 rfl (zh.ev rfl) (hM3.sz (by first | omega | (simp only [List.length_set]; omega))) zk) ?_
     refine WL.val (.int .i64 (((((szF κ (msz x.ms) ((pget N (κ i)).args.take x.k)) + (mget ms3 (κ (aget (pget N (κ i)).args x.k))).sz) : Nat) : Int))) rfl rfl rfl (fun za zC zh zk => addb_3 rfl (zh.ev rfl) (zh.ev rfl) (wrap_eq (by rw [hsz3]; omega) (by omega) (by omega)) zk) ?_
     refine WL.val (.int .i64 ((((szF κ (msz ms3) ((pget N (κ i)).args.take (x.k + 1))) : Nat) : Int))) rfl rfl rfl (fun za zC zh zk => min_3 rfl (zh.ev rfl) (zh.ev rfl) (by rw [show (min (((((szF κ (msz x.ms) ((pget N (κ i)).args.take x.k)) + (mget ms3 (κ (aget (pget N (κ i)).args x.k))).sz) : Nat) : Int)) 1099511627776 : Int) = (((szF κ (msz ms3) ((pget N (κ i)).args.take (x.k + 1))) : Nat) : Int) from by rw [hS4]; omega]; exact zk)) ?_
     refine WL.asg rfl rfl rfl rfl rfl (WL.nil (WE.next (WC.region (WL.mv rfl rfl rfl rfl rfl (WL.mv rfl rfl rfl rfl rfl ?_)))))
     refine WL.val _ rfl rfl rfl (fun za zC zh zk => nilCheck_ rfl (zh.ev rfl) zk) ?_
     refine WL.val _ rfl rfl rfl (fun za zC zh zk => fld_71_1 rfl (zh.ev rfl) zk) ?_
     refine WL.val _ rfl rfl rfl (fun za zC zh zk => ld_48 rfl (zh.ev rfl) hM3.c1 zk) ?_
     refine WL.mv rfl rfl rfl rfl rfl ?_
     refine WL.val _ rfl rfl rfl (fun za zC zh zk => ix_48 (k := (κ (aget (pget N (κ i)).args x.k))) rfl (zh.ev rfl) rfl (zh.ev rfl) (by first | omega | (simp only [List.length_set]; omega)) zk) ?_
     refine WL.val _ rfl rfl rfl (fun za zC zh zk => ld_3 rfl (zh.ev rfl) (hM3.dp (by first | omega | (simp only [List.length_set]; omega))) zk) ?_
     refine WL.val (.int .i64 (((((mget ms3 ((κ (aget (pget N (κ i)).args x.k)))).dp + 1) : Nat) : Int))) rfl rfl rfl (fun za zC zh zk => addb_3 rfl (zh.ev rfl) (zh.ev rfl) (wrap_eq (by omega) (by omega) (by omega)) zk) ?_
     refine WL.val (.int .i64 ((((dpF κ (mdp ms3) ((pget N (κ i)).args.take (x.k + 1))) : Nat) : Int))) rfl rfl rfl (fun za zC zh zk => max_3 rfl (zh.ev rfl) (zh.ev rfl) (by rw [show (max ((((dpF κ (mdp x.ms) ((pget N (κ i)).args.take x.k)) : Nat) : Int)) (((((mget ms3 ((κ (aget (pget N (κ i)).args x.k)))).dp + 1) : Nat) : Int)) : Int) = (((dpF κ (mdp ms3) ((pget N (κ i)).args.take (x.k + 1))) : Nat) : Int) from by rw [hD5]; omega]; exact zk)) ?_
     refine WL.asg rfl rfl rfl rfl rfl ?_
     refine WL.nil (WE.sub (K' := [(0, .pointer (some ⟨g, 0, none⟩)), (1, .pointer (some ⟨gm, 0, none⟩)), (2, .int .i64 ((((κ i) : Nat) : Int))), (7, .int .i64 ((((szF κ (msz ms3) ((pget N (κ i)).args.take (x.k + 1))) : Nat) : Int))), (8, .int .i64 ((((dpF κ (mdp ms3) ((pget N (κ i)).args.take (x.k + 1))) : Nat) : Int))), (9, .int .i64 (((x.k : Nat) : Int))), (10, .int .i64 ((((κ (aget (pget N (κ i)).args x.k)) : Nat) : Int))), (21, .bool ((((szI (mget ms ((κ i)))) : Int) != (0 : Int)))), (46, .bool ((decide ((((x.k : Nat) : Int) : Int) < ((((pget N ((κ i))).args.length : Nat) : Int) : Int))))), (66, .bool ((!bb39)))]) ⟨rfl, rfl, rfl, rfl, rfl, rfl, rfl, rfl, rfl, rfl, trivial⟩ ?_)
     refine WE.blockNormal (WE.next (WC.region (WL.mv rfl rfl rfl rfl rfl ?_)))
     refine WL.val (.int .i64 ((((x.k + 1) : Nat) : Int))) rfl rfl rfl (fun za zC zh zk => addb_3 rfl (zh.ev rfl) (zh.ev rfl) (wrap_eq (by omega) (by omega) (by omega)) zk) ?_
     refine WL.asg rfl rfl rfl rfl rfl (WL.nil ?_)
     refine WE.round (⟨x.k + 1, [], ms3⟩) ⟨rfl, rfl, rfl, rfl, rfl, rfl, rfl, trivial⟩ ?_ ?_
     ·exact ⟨(by (try dsimp only); omega), hA3, hE4, hD4, hC47, hP48, hM3, hQ49, ha50⟩
     ·(try dsimp only); omega
   ·have h28 : ¬ ((((x.k : Nat) : Int) : Int) < ((((pget N ((κ i))).args.length : Nat) : Int) : Int)) := by simpa using h28
    refine WC.exit (WE.thenExit (WE.thenExit (WE.blockIs rfl (WE.next (WC.seq (WC.region (WL.mv rfl rfl rfl rfl rfl ?_)))))))
    refine WL.val _ rfl rfl rfl (fun za zC zh zk => nilCheck_ rfl (zh.ev rfl) zk) ?_
    refine WL.val _ rfl rfl rfl (fun za zC zh zk => fld_71_0 rfl (zh.ev rfl) zk) ?_
    refine WL.val _ rfl rfl rfl (fun za zC zh zk => ld_48 rfl (zh.ev rfl) ho25.c0 zk) ?_
    refine WL.mv rfl rfl rfl rfl rfl (WL.mv rfl rfl rfl rfl rfl ?_)
    refine WL.val _ rfl rfl rfl (fun za zC zh zk => ix_48 (k := (κ i)) rfl (zh.ev rfl) rfl (zh.ev rfl) (by first | omega | (simp only [List.length_set]; omega)) zk) ?_
    have hke : x.k = (pget N (κ i)).args.length := by omega
    have htl : (pget N (κ i)).args.take x.k = (pget N (κ i)).args := by rw [hke, List.take_length]
    obtain ⟨hA5, hE5, hz5⟩ := hAx.fin (ms := ms) hlr hz0 hz1 hml hEx (by rw [htl] at hDx; exact hDx)
    obtain ⟨⟨cs52, hB53, hs54⟩, hM55⟩ := ho25.setZ (r := κ i) (by first | omega | (simp only [List.length_set]; omega)) ⟨(szF κ (msz x.ms) ((pget N (κ i)).args.take x.k)), (mget x.ms (κ i)).dp, false⟩ rfl
    refine WL.step (post := fun _ w' => Upd zb w23 w' ∧ RM w' gm zb zc db dc (x.ms.set (κ i) ⟨(szF κ (msz x.ms) ((pget N (κ i)).args.take x.k)), (mget x.ms (κ i)).dp, false⟩)) rfl rfl rfl (fun za zC zh zk => st_3 rfl (zh.ev rfl) (zh.ev rfl) hB53 hs54 (fun v => zk v _ ⟨Upd.at_ _ _ _ _, hM55⟩)) ?_
    rintro u56 w57 ⟨hu58, hM59⟩
    have hc60 : Chg (fun b => b = zb ∨ b = db) w23 w57 := .ofUpd hu58 (.inl rfl)
    have hC61 := Chg.trans hCx hc60
    have hP62 := ho24.chg hc60 hPz
    have hQ63 := ho26.chg hc60 hoz
    have ha64 := ho27.chgS hc60 hSz
    refine WL.nil (WE.next (WC.seq (WC.region (WL.mv rfl rfl rfl rfl rfl ?_))))
    refine WL.val _ rfl rfl rfl (fun za zC zh zk => nilCheck_ rfl (zh.ev rfl) zk) ?_
    refine WL.val _ rfl rfl rfl (fun za zC zh zk => fld_71_1 rfl (zh.ev rfl) zk) ?_
    refine WL.val _ rfl rfl rfl (fun za zC zh zk => ld_48 rfl (zh.ev rfl) hM59.c1 zk) ?_
    refine WL.mv rfl rfl rfl rfl rfl (WL.mv rfl rfl rfl rfl rfl ?_)
    refine WL.val _ rfl rfl rfl (fun za zC zh zk => ix_48 (k := (κ i)) rfl (zh.ev rfl) rfl (zh.ev rfl) (by first | omega | (simp only [List.length_set]; omega)) zk) ?_
    obtain ⟨⟨cs65, hB66, hs67⟩, hM68⟩ := hM59.setD (r := κ i) (by first | omega | (simp only [List.length_set]; omega)) ⟨(szF κ (msz x.ms) ((pget N (κ i)).args.take x.k)), (dpF κ (mdp x.ms) ((pget N (κ i)).args.take x.k)), false⟩ (by rw [mget_set (by omega), if_pos rfl]; rfl)
    refine WL.step (post := fun _ w' => Upd db w57 w' ∧ RM w' gm zb zc db dc ((x.ms.set (κ i) ⟨(szF κ (msz x.ms) ((pget N (κ i)).args.take x.k)), (mget x.ms (κ i)).dp, false⟩).set (κ i) ⟨(szF κ (msz x.ms) ((pget N (κ i)).args.take x.k)), (dpF κ (mdp x.ms) ((pget N (κ i)).args.take x.k)), false⟩)) rfl rfl rfl (fun za zC zh zk => st_3 rfl (zh.ev rfl) (zh.ev rfl) hB66 hs67 (fun v => zk v _ ⟨Upd.at_ _ _ _ _, hM68⟩)) ?_
    rintro u69 w70 ⟨hu71, hM72⟩
    have hc73 : Chg (fun b => b = zb ∨ b = db) w57 w70 := .ofUpd hu71 (.inr rfl)
    have hC74 := Chg.trans hC61 hc73
    have hP75 := hP62.chg hc73 hPz
    have hQ76 := hQ63.chg hc73 hoz
    have ha77 := ha64.chgS hc73 hSz
    refine WL.nil (WE.sub (K' := [(0, .pointer (some ⟨g, 0, none⟩)), (1, .pointer (some ⟨gm, 0, none⟩)), (2, .int .i64 ((((κ i) : Nat) : Int))), (7, .int .i64 ((((szF κ (msz x.ms) ((pget N (κ i)).args.take x.k)) : Nat) : Int))), (8, .int .i64 ((((dpF κ (mdp x.ms) ((pget N (κ i)).args.take x.k)) : Nat) : Int))), (9, .int .i64 (((x.k : Nat) : Int))), (21, .bool ((((szI (mget ms ((κ i)))) : Int) != (0 : Int)))), (46, .bool ((decide ((((x.k : Nat) : Int) : Int) < ((((pget N ((κ i))).args.length : Nat) : Int) : Int)))))]) ⟨rfl, rfl, rfl, rfl, rfl, rfl, rfl, rfl, trivial⟩ ?_)
    refine WE.next (WC.seq (WC.region (WL.asg rfl rfl rfl rfl rfl (WL.nil (WE.next (WC.ret (WE.ret1 rfl rfl ?_)))))))
    have hfin := hM72
    rw [List.set_set, htl] at hfin
    exact ⟨_, rfl, true, rfl, hC74, (fun _ => ⟨_, hfin, hA5, hE5, hz5⟩), (fun e => nomatch e)⟩
end Go.Proofs.Ythhgidliopohcaa

/- A part is added: the program. -/
namespace Go.Proofs.Ythhgidliopohcaa
open Go.RowKit Go
set_option linter.unusedVariables false
set_option linter.unusedSimpArgs false
set_option maxRecDepth 100000 in
theorem padd_any (U : List Nat) (N : List Pt) (V : Nat → Nat) (g : Nat) (Z S2 : Nat → Prop) (x : Pt) (pa : Option Addr) (pc : Nat) (w : World) (h : NetX w g Z U N V) (hx : InRow eltN S2 w x.args pa) (hS2 : ∀ b, S2 b → ¬ Z b ∧ b < w.heap.size) (hn : N.length ≤ 1048576) :
  Calls Try.prog 56 #[.pointer (some ⟨g, 0, none⟩), .agg #[.int .i64 x.fn, .slice pa x.args.length pc]] w (Ret fun v' w' => v' = .int .i64 ((N.length : Nat) : Int) ∧ (∃ Z', NetX w' g Z' (U ++ [N.length]) (N ++ [x]) V ∧ ∀ b, Z' b → Z b ∨ S2 b ∨ w.heap.size ≤ b) ∧ Chg Z w w') := by
 obtain ⟨S, ua, uc, oa, oc, hP0, hZ, hZl⟩ := h
 have hUl := hP0.len
 have hgZ : Z g := hZ g (.inl rfl)
 have huZ : ∀ b, obk ua U.length uc = some b → Z b := fun b q => hZ b (.inr (.inl (by rw [← hUl]; exact q)))
 have hoZ : ∀ b, obk oa N.length oc = some b → Z b := fun b q => hZ b (.inr (.inr (.inl q)))
 have hsZ : ∀ b, S b → Z b := fun b q => hZ b (.inr (.inr (.inr q)))
 have hP := hP0.pg
 refine Calls.walk (l := [.pointer (some ⟨g, 0, none⟩), .agg #[.int .i64 x.fn, .slice pa x.args.length pc]]) Try.func56 rfl (by kernel_rfl) ?_
 refine WC.sub (K' := [(0, .pointer (some ⟨g, 0, none⟩)), (1, .agg #[.int .i64 x.fn, .slice pa x.args.length pc])]) ⟨rfl, rfl, trivial⟩ ?_
 refine WC.seq (WC.region ?_)
 refine WL.step (post := NewBlk w 57 #[.int .i64 x.fn, .slice pa x.args.length pc]) rfl rfl rfl (fun za zC zh zk => box_57 rfl (zh.ev rfl) (zk _ _ (newBlk _ _ _))) ?_
 rintro _ w1 ⟨g2, rfl, hg3, hB4, hb5, hz6⟩
 have hl7 : w.heap.size ≤ g2 := by omega
 refine WL.asg rfl rfl rfl rfl rfl (WL.nil (WE.next (WC.seq ?_)))
 have ho8 := hP.below hb5
 have hZlt : ∀ b, Z b → b < w1.heap.size := fun b q => Nat.lt_of_lt_of_le (hZl b q) hb5.size
 have hgbZ : ¬ Z g2 := fun q => by have z := hZl _ q; omega
 have hGV9 : ∀ (vals : List Value) (wa wb : World), Below wa.heap.size wa wb → (fun vals wz => match vals with | [] => PG wz g S (ua, U.length, uc) (oa, N.length, oc) ua uc U oa oc N V | [z0] => (PG wz g S (ua, U.length, uc) (oa, N.length, oc) ua uc U oa oc N V) ∧ ∃ g1, z0 = .slice (some ⟨g1, 0, none⟩) 1 1 ∧ Blk wz g1 3 #[.int .i64 ((N.length : Nat) : Int)] | [_, z1] => ∃ ra rc, z1 = .slice ra (U ++ [N.length]).length rc ∧ PG wz g S (ua, U.length, uc) (oa, N.length, oc) ra rc ((U ++ [N.length])) oa oc N V ∧ (∀ b, obk ra (U ++ [N.length]).length rc = some b → Z b ∨ w1.heap.size ≤ b) | [_, _, _] => ∃ ra rc, PG wz g S (ra, (U ++ [N.length]).length, rc) (oa, N.length, oc) ra rc ((U ++ [N.length])) oa oc N V ∧ (∀ b, obk ra (U ++ [N.length]).length rc = some b → Z b ∨ w1.heap.size ≤ b) | _ => False) vals wa → (fun vals wz => match vals with | [] => PG wz g S (ua, U.length, uc) (oa, N.length, oc) ua uc U oa oc N V | [z0] => (PG wz g S (ua, U.length, uc) (oa, N.length, oc) ua uc U oa oc N V) ∧ ∃ g1, z0 = .slice (some ⟨g1, 0, none⟩) 1 1 ∧ Blk wz g1 3 #[.int .i64 ((N.length : Nat) : Int)] | [_, z1] => ∃ ra rc, z1 = .slice ra (U ++ [N.length]).length rc ∧ PG wz g S (ua, U.length, uc) (oa, N.length, oc) ra rc ((U ++ [N.length])) oa oc N V ∧ (∀ b, obk ra (U ++ [N.length]).length rc = some b → Z b ∨ w1.heap.size ≤ b) | [_, _, _] => ∃ ra rc, PG wz g S (ra, (U ++ [N.length]).length, rc) (oa, N.length, oc) ra rc ((U ++ [N.length])) oa oc N V ∧ (∀ b, obk ra (U ++ [N.length]).length rc = some b → Z b ∨ w1.heap.size ≤ b) | _ => False) vals wb := by
  intro vals wa wb hb h
  match vals, h with
  | [], h => exact PG.below h hb
  | [z0], h =>
   obtain ⟨k1, g1, e, k2⟩ := h
   exact ⟨k1.below hb, g1, e, k2.below hb⟩
  | [_, z1], h =>
   obtain ⟨ra, rc, e, k1, k2⟩ := h
   exact ⟨ra, rc, e, k1.below hb, k2⟩
  | [_, _, _], h =>
   obtain ⟨ra, rc, k1, k2⟩ := h
   exact ⟨ra, rc, k1.below hb, k2⟩
 refine WC.seqV (S := ((fun b => b = g ∨ obk ua U.length uc = some b))) [(true, .val (.pointer (some ⟨g, 0, none⟩))), (true, .val (.pointer (some ⟨g, 0, none⟩))), (true, .val (.pointer (some ⟨g, 0, none⟩))), (true, .val (.pointer (some ⟨g, 0, none⟩))), (true, .val (.slice ua U.length uc)), (true, .val (.pointer (some ⟨g, 0, none⟩))), (true, .val (.pointer (some ⟨g, 0, none⟩))), (true, .val (.pointer (some ⟨g, 0, none⟩))), (true, .val (.slice ua U.length uc)), (true, .val (.int .i64 (((U.length : Nat) : Int)))), (true, .val undef), (true, .val undef), (true, .val (.pointer (some ⟨g, 0, none⟩))), (true, .val (.pointer (some ⟨g, 0, none⟩))), (true, .val undef)] [(0, .pointer (some ⟨g, 0, none⟩)), (1, .agg #[.int .i64 x.fn, .slice pa x.args.length pc]), (3, .pointer (some ⟨g2, 0, none⟩)), (4, .int .i64 0)] [10, 11, 14] [none, none, none] (fun vals wz => match vals with | [] => PG wz g S (ua, U.length, uc) (oa, N.length, oc) ua uc U oa oc N V | [z0] => (PG wz g S (ua, U.length, uc) (oa, N.length, oc) ua uc U oa oc N V) ∧ ∃ g1, z0 = .slice (some ⟨g1, 0, none⟩) 1 1 ∧ Blk wz g1 3 #[.int .i64 ((N.length : Nat) : Int)] | [_, z1] => ∃ ra rc, z1 = .slice ra (U ++ [N.length]).length rc ∧ PG wz g S (ua, U.length, uc) (oa, N.length, oc) ra rc ((U ++ [N.length])) oa oc N V ∧ (∀ b, obk ra (U ++ [N.length]).length rc = some b → Z b ∨ w1.heap.size ≤ b) | [_, _, _] => ∃ ra rc, PG wz g S (ra, (U ++ [N.length]).length, rc) (oa, N.length, oc) ra rc ((U ++ [N.length])) oa oc N V ∧ (∀ b, obk ra (U ++ [N.length]).length rc = some b → Z b ∨ w1.heap.size ≤ b) | _ => False) hGV9 (by decide) ⟨rfl, rfl, rfl, rfl, trivial⟩ (by kernel_rfl) (by kernel_rfl) (by kernel_rfl) (by kernel_rfl) ho8 ?_ ?_
 ·refine ⟨.inl ⟨rfl, true, .none rfl, (fun gg b h => by cases h), fun h w => optUndef h, fun zβ za zw zc => ?_⟩, ?_⟩
  ·exact wp_move rfl (zc.kn.ev rfl) ⟨_, rfl, Below.refl _ _, optDef zβ rfl⟩
  refine ⟨.inl ⟨rfl, true, .none rfl, (fun gg b h => by cases h), fun h w => optUndef h, fun zβ za zw zc => ?_⟩, ?_⟩
  ·exact wp_move rfl (zc.kn.ev rfl) ⟨_, rfl, Below.refl _ _, optDef zβ rfl⟩
  refine ⟨.inl ⟨rfl, true, .none rfl, (fun gg b h => by cases h), fun h w => optUndef h, fun zβ za zw zc => ?_⟩, ?_⟩
  ·exact nilCheck_ rfl ((evt za 6).trans (optSVal (zc.dep 1 6 (by kernel_rfl) (by decide)) rfl rfl)) ⟨_, rfl, Below.refl _ _, optDef zβ rfl⟩
  refine ⟨.inl ⟨rfl, true, .none rfl, (fun gg b h => by cases h), fun h w => optUndef h, fun zβ za zw zc => ?_⟩, ?_⟩
  ·exact fld_51_0 rfl ((evt za 7).trans (optSVal (zc.dep 2 7 (by kernel_rfl) (by decide)) rfl rfl)) ⟨_, rfl, Below.refl _ _, optDef zβ rfl⟩
  refine ⟨.inl ⟨rfl, true, .none rfl, (fun gg b h => by cases h), fun h w => optUndef h, fun zβ za zw zc => ?_⟩, ?_⟩
  ·obtain ⟨vals, hle, hgv, _⟩ := zc.early 2 14 rfl (by kernel_rfl)
   have zc0 : zw.cell? ⟨g, 0, none⟩ = some (.slice ua U.length uc) := by
    match vals, hle, hgv with
    | [], _, hg => exact hg.c0
    | [_], _, hg => exact hg.1.c0
    | [_, _], _, hg => (obtain ⟨ra, rc, e, k1, _⟩ := hg; exact k1.c0)
   exact ld_48 rfl ((evt za 8).trans (optSVal (zc.dep 3 8 (by kernel_rfl) (by decide)) rfl rfl)) zc0 ⟨_, rfl, Below.refl _ _, optDef zβ rfl⟩
  refine ⟨.inl ⟨rfl, true, .none rfl, (fun gg b h => by cases h), fun h w => optUndef h, fun zβ za zw zc => ?_⟩, ?_⟩
  ·exact wp_move rfl (zc.kn.ev rfl) ⟨_, rfl, Below.refl _ _, optDef zβ rfl⟩
  refine ⟨.inl ⟨rfl, true, .none rfl, (fun gg b h => by cases h), fun h w => optUndef h, fun zβ za zw zc => ?_⟩, ?_⟩
  ·exact nilCheck_ rfl ((evt za 10).trans (optSVal (zc.dep 5 10 (by kernel_rfl) (by decide)) rfl rfl)) ⟨_, rfl, Below.refl _ _, optDef zβ rfl⟩
  refine ⟨.inl ⟨rfl, true, .none rfl, (fun gg b h => by cases h), fun h w => optUndef h, fun zβ za zw zc => ?_⟩, ?_⟩
  ·exact fld_51_0 rfl ((evt za 11).trans (optSVal (zc.dep 6 11 (by kernel_rfl) (by decide)) rfl rfl)) ⟨_, rfl, Below.refl _ _, optDef zβ rfl⟩
  refine ⟨.inl ⟨rfl, true, .none rfl, (fun gg b h => by cases h), fun h w => optUndef h, fun zβ za zw zc => ?_⟩, ?_⟩
  ·obtain ⟨vals, hle, hgv, _⟩ := zc.early 2 14 rfl (by kernel_rfl)
   have zc0 : zw.cell? ⟨g, 0, none⟩ = some (.slice ua U.length uc) := by
    match vals, hle, hgv with
    | [], _, hg => exact hg.c0
    | [_], _, hg => exact hg.1.c0
    | [_, _], _, hg => (obtain ⟨ra, rc, e, k1, _⟩ := hg; exact k1.c0)
   exact ld_48 rfl ((evt za 12).trans (optSVal (zc.dep 7 12 (by kernel_rfl) (by decide)) rfl rfl)) zc0 ⟨_, rfl, Below.refl _ _, optDef zβ rfl⟩
  refine ⟨.inl ⟨rfl, true, .none rfl, (fun gg b h => by cases h), fun h w => optUndef h, fun zβ za zw zc => ?_⟩, ?_⟩
  ·exact len_48 rfl ((evt za 13).trans (optSVal (zc.dep 8 13 (by kernel_rfl) (by decide)) rfl rfl)) ⟨_, rfl, Below.refl _ _, optDef zβ rfl⟩
  refine ⟨.inr ⟨0, rfl, by kernel_rfl, true, .none rfl, (fun gg b h => by cases h), (fun h => (nomatch h)), fun zβ za zw zvals zc => ?_⟩, ?_⟩
  ·obtain rfl := vlen0 zc.len
   have zn := zc.now
   exact row_48_1 rfl (((evt za 14).trans (optSVal (zc.dep 9 14 (by kernel_rfl) (by decide)) rfl rfl)).trans (by rw [hUl])) ⟨_, rfl, .ofBelow (balloc _ _), ⟨zn.below (balloc _ _), _, rfl, Blk.new' rfl⟩, cvNo⟩
  refine ⟨.inr ⟨1, rfl, by kernel_rfl, true, .none rfl, (fun gg b h => by cases h), (fun h => (nomatch h)), fun zβ za zw zvals zc => ?_⟩, ?_⟩
  ·obtain ⟨z0, rfl⟩ := vlen1 zc.len
   have zn := zc.now
   obtain ⟨k1, g1, e, k2⟩ := zn
   have e0 : z0 = za.tmps.getD 15 undef := Option.some.inj (zc.val 0 10 15 rfl (by kernel_rfl))
   exact wp_appD (E := eltN) (y := N.length) (S2 := fun _ => False) (size := 1) (bytes := 8) (z := .int .i64 0) rfl Try.underlying48 (by kernel_rfl) rfl (by decide) rfl ((evt za 9).trans (optSVal (zc.dep 4 9 (by kernel_rfl) (by decide)) rfl rfl)) ((evt za 15).trans (e0.symm.trans e)) k1.up k2 rfl (fun b q => q.elim) (by omega) (by omega) (fun ra rc w' h1 h2 h3 => ⟨_, rfl, h2.mono (fun b q => .inr q), ⟨ra, rc, by rw [List.length_append]; rfl, k1.growU h1 h2 h3, fun b q => by rw [List.length_append] at q; exact (h3 b q).imp (huZ b) (fun z => Nat.le_trans zc.chg.size z)⟩, cvNo⟩)
  refine ⟨.inl ⟨rfl, true, .none rfl, (fun gg b h => by cases h), fun h w => optUndef h, fun zβ za zw zc => ?_⟩, ?_⟩
  ·exact nilCheck_ rfl ((evt za 5).trans (optSVal (zc.dep 0 5 (by kernel_rfl) (by decide)) rfl rfl)) ⟨_, rfl, Below.refl _ _, optDef zβ rfl⟩
  refine ⟨.inl ⟨rfl, true, .none rfl, (fun gg b h => by cases h), fun h w => optUndef h, fun zβ za zw zc => ?_⟩, ?_⟩
  ·exact fld_51_0 rfl ((evt za 17).trans (optSVal (zc.dep 12 17 (by kernel_rfl) (by decide)) rfl rfl)) ⟨_, rfl, Below.refl _ _, optDef zβ rfl⟩
  refine ⟨.inr ⟨2, rfl, by kernel_rfl, true, .none rfl, (fun gg b h => by cases h), (fun h => (nomatch h)), fun zβ za zw zvals zc => ?_⟩, ?_⟩
  ·obtain ⟨z0, z1, rfl⟩ := vlen2 zc.len
   have zn := zc.now
   obtain ⟨ra, rc, e, k1, k2⟩ := zn
   have e1 : z1 = za.tmps.getD 16 undef := Option.some.inj (zc.val 1 11 16 rfl (by kernel_rfl))
   exact st_48 rfl ((evt za 18).trans (optSVal (zc.dep 13 18 (by kernel_rfl) (by decide)) rfl rfl)) ((evt za 16).trans (e1.symm.trans e)) k1.blk k1.sz.1 (fun v => ⟨v, rfl, .ofUpd (Upd.at_ _ _ _ _) (.inl rfl), ⟨ra, rc, k1.store0, k2⟩, cvNo⟩)
  exact trivial
 ·intro za w9 zvals zh zl hG10 hc11 zu zw zk
  obtain ⟨z0, z1, z2, rfl⟩ := vlen3 zl
  obtain ⟨ra, rc, k19, hraZ⟩ := hG10
  have hq12 := Chg.mono (S' := Z) hc11 (fun b e => by rcases e with e | e; (rw [e]; exact hgZ); exact huZ b e)
  have hB13 := chg_blk hB4 hq12 hgbZ
  clear zu zw zk
  refine WE.go zh ?_
  refine WE.next (WC.seq ?_)
  have hs14 : Chg Z w w9 := (Chg.trans2 (Chg.trans2 (Chg.refl Z _) (Chg.ofBelow (S := fun k => k < 0) hb5) (fun i h1 h2 => by first | exact h2 | exact .inl ⟨h2, h1⟩ | exact .inl h2 | exact .inr h2 | exact .inr (.inl h2) | exact .inr (.inr h2) | ((try dsimp only at *); omega))) hq12 (fun i h1 h2 => by first | exact h2 | exact .inl ⟨h2, h1⟩ | exact .inl h2 | exact .inr h2 | exact .inr (.inl h2) | exact .inr (.inr h2) | ((try dsimp only at *); omega)))
  have hZlt2 : ∀ b, Z b → b < w9.heap.size := fun b q => Nat.lt_of_lt_of_le (hZl b q) (Nat.le_trans hb5.size hq12.size)
  have hws2 : w.heap.size ≤ w9.heap.size := (Nat.le_trans hb5.size hq12.size)
  have hwu2 : w1.heap.size ≤ w9.heap.size := hq12.size
  have hx2 : InRow eltN S2 w9 x.args pa := hx.chgS hs14 (fun b q => (hS2 b q).1)
  have hS2u : ∀ b, S2 b → b ≠ g ∧ b < w9.heap.size ∧ obk ra (U ++ [N.length]).length rc ≠ some b := fun b q => ⟨fun e => (hS2 b q).1 (e ▸ hgZ), by have z := (hS2 b q).2; omega, fun e => by rcases hraZ b e with z | z; exact (hS2 b q).1 z; (have z2 := (hS2 b q).2; have z3 : w.heap.size ≤ w1.heap.size := hb5.size; omega)⟩
  have hGW9 : ∀ (vals : List Value) (wa wb : World), Below wa.heap.size wa wb → (fun vals wz => match vals with | [] => (PG wz g S (ra, (U ++ [N.length]).length, rc) (oa, N.length, oc) ra rc ((U ++ [N.length])) oa oc N V) ∧ (∀ b, S2 b → b < wz.heap.size) ∧ InRow eltN S2 wz x.args pa | [z0] => (PG wz g S (ra, (U ++ [N.length]).length, rc) (oa, N.length, oc) ra rc ((U ++ [N.length])) oa oc N V) ∧ ((∀ b, S2 b → b < wz.heap.size) ∧ InRow eltN S2 wz x.args pa) ∧ ∃ g1, z0 = .slice (some ⟨g1, 0, none⟩) 1 1 ∧ Blk wz g1 57 (List.toArray [.int .i64 x.fn, .slice pa x.args.length pc]) | [_, z1] => ∃ pa3 pc3, z1 = .slice pa3 (N ++ [x]).length pc3 ∧ (∃ S3 : Nat → Prop, PG wz g S3 (ra, (U ++ [N.length]).length, rc) (oa, N.length, oc) ra rc (U ++ [N.length]) pa3 pc3 (N ++ [x]) V ∧ (∀ b, S3 b → S b ∨ S2 b)) ∧ (∀ b, obk pa3 (N ++ [x]).length pc3 = some b → Z b ∨ w9.heap.size ≤ b) | [_, _, _] => ∃ pa3 pc3, (∃ S3 : Nat → Prop, PG wz g S3 (ra, (U ++ [N.length]).length, rc) (pa3, (N ++ [x]).length, pc3) ra rc (U ++ [N.length]) pa3 pc3 (N ++ [x]) V ∧ (∀ b, S3 b → S b ∨ S2 b)) ∧ (∀ b, obk pa3 (N ++ [x]).length pc3 = some b → Z b ∨ w9.heap.size ≤ b) | _ => False) vals wa → (fun vals wz => match vals with | [] => (PG wz g S (ra, (U ++ [N.length]).length, rc) (oa, N.length, oc) ra rc ((U ++ [N.length])) oa oc N V) ∧ (∀ b, S2 b → b < wz.heap.size) ∧ InRow eltN S2 wz x.args pa | [z0] => (PG wz g S (ra, (U ++ [N.length]).length, rc) (oa, N.length, oc) ra rc ((U ++ [N.length])) oa oc N V) ∧ ((∀ b, S2 b → b < wz.heap.size) ∧ InRow eltN S2 wz x.args pa) ∧ ∃ g1, z0 = .slice (some ⟨g1, 0, none⟩) 1 1 ∧ Blk wz g1 57 (List.toArray [.int .i64 x.fn, .slice pa x.args.length pc]) | [_, z1] => ∃ pa3 pc3, z1 = .slice pa3 (N ++ [x]).length pc3 ∧ (∃ S3 : Nat → Prop, PG wz g S3 (ra, (U ++ [N.length]).length, rc) (oa, N.length, oc) ra rc (U ++ [N.length]) pa3 pc3 (N ++ [x]) V ∧ (∀ b, S3 b → S b ∨ S2 b)) ∧ (∀ b, obk pa3 (N ++ [x]).length pc3 = some b → Z b ∨ w9.heap.size ≤ b) | [_, _, _] => ∃ pa3 pc3, (∃ S3 : Nat → Prop, PG wz g S3 (ra, (U ++ [N.length]).length, rc) (pa3, (N ++ [x]).length, pc3) ra rc (U ++ [N.length]) pa3 pc3 (N ++ [x]) V ∧ (∀ b, S3 b → S b ∨ S2 b)) ∧ (∀ b, obk pa3 (N ++ [x]).length pc3 = some b → Z b ∨ w9.heap.size ≤ b) | _ => False) vals wb := by
   intro vals wa wb hb h
   match vals, h with
   | [], h => exact ⟨h.1.below hb, fun b q => Nat.lt_of_lt_of_le (h.2.1 b q) hb.size, h.2.2.below hb⟩
   | [z0], h =>
    obtain ⟨k1, k0, g1, e, k2⟩ := h
    exact ⟨k1.below hb, ⟨fun b q => Nat.lt_of_lt_of_le (k0.1 b q) hb.size, k0.2.below hb⟩, g1, e, k2.below hb⟩
   | [_, z1], h =>
    obtain ⟨ra, rc, e, ⟨S3, k1, k3⟩, k2⟩ := h
    exact ⟨ra, rc, e, ⟨S3, k1.below hb, k3⟩, k2⟩
   | [_, _, _], h =>
    obtain ⟨ra, rc, ⟨S3, k1, k3⟩, k2⟩ := h
    exact ⟨ra, rc, ⟨S3, k1.below hb, k3⟩, k2⟩
  refine WC.seqV (S := ((fun b => b = g ∨ obk oa N.length oc = some b))) [(true, .val (.pointer (some ⟨g, 0, none⟩))), (true, .val (.pointer (some ⟨g, 0, none⟩))), (true, .val (.pointer (some ⟨g, 0, none⟩))), (true, .val (.pointer (some ⟨g, 1, none⟩))), (true, .val (.slice oa N.length oc)), (true, .val (.agg #[.int .i64 x.fn, .slice pa x.args.length pc])), (true, .val undef), (true, .val undef), (true, .val (.pointer (some ⟨g, 0, none⟩))), (true, .val (.pointer (some ⟨g, 1, none⟩))), (true, .val undef)] [(0, .pointer (some ⟨g, 0, none⟩)), (1, .agg #[.int .i64 x.fn, .slice pa x.args.length pc]), (3, .pointer (some ⟨g2, 0, none⟩)), (4, .int .i64 0)] [6, 7, 10] [none, none, none] (fun vals wz => match vals with | [] => (PG wz g S (ra, (U ++ [N.length]).length, rc) (oa, N.length, oc) ra rc ((U ++ [N.length])) oa oc N V) ∧ (∀ b, S2 b → b < wz.heap.size) ∧ InRow eltN S2 wz x.args pa | [z0] => (PG wz g S (ra, (U ++ [N.length]).length, rc) (oa, N.length, oc) ra rc ((U ++ [N.length])) oa oc N V) ∧ ((∀ b, S2 b → b < wz.heap.size) ∧ InRow eltN S2 wz x.args pa) ∧ ∃ g1, z0 = .slice (some ⟨g1, 0, none⟩) 1 1 ∧ Blk wz g1 57 (List.toArray [.int .i64 x.fn, .slice pa x.args.length pc]) | [_, z1] => ∃ pa3 pc3, z1 = .slice pa3 (N ++ [x]).length pc3 ∧ (∃ S3 : Nat → Prop, PG wz g S3 (ra, (U ++ [N.length]).length, rc) (oa, N.length, oc) ra rc (U ++ [N.length]) pa3 pc3 (N ++ [x]) V ∧ (∀ b, S3 b → S b ∨ S2 b)) ∧ (∀ b, obk pa3 (N ++ [x]).length pc3 = some b → Z b ∨ w9.heap.size ≤ b) | [_, _, _] => ∃ pa3 pc3, (∃ S3 : Nat → Prop, PG wz g S3 (ra, (U ++ [N.length]).length, rc) (pa3, (N ++ [x]).length, pc3) ra rc (U ++ [N.length]) pa3 pc3 (N ++ [x]) V ∧ (∀ b, S3 b → S b ∨ S2 b)) ∧ (∀ b, obk pa3 (N ++ [x]).length pc3 = some b → Z b ∨ w9.heap.size ≤ b) | _ => False) hGW9 (by decide) ⟨rfl, rfl, rfl, rfl, trivial⟩ (by kernel_rfl) (by kernel_rfl) (by kernel_rfl) (by kernel_rfl) (⟨k19, fun b q => (hS2u b q).2.1, hx2⟩) ?_ ?_
  ·refine ⟨.inl ⟨rfl, true, .none rfl, (fun gg b h => by cases h), fun h w => optUndef h, fun zβ za zw zc => ?_⟩, ?_⟩
   ·exact wp_move rfl (zc.kn.ev rfl) ⟨_, rfl, Below.refl _ _, optDef zβ rfl⟩
   refine ⟨.inl ⟨rfl, true, .none rfl, (fun gg b h => by cases h), fun h w => optUndef h, fun zβ za zw zc => ?_⟩, ?_⟩
   ·exact wp_move rfl (zc.kn.ev rfl) ⟨_, rfl, Below.refl _ _, optDef zβ rfl⟩
   refine ⟨.inl ⟨rfl, true, .none rfl, (fun gg b h => by cases h), fun h w => optUndef h, fun zβ za zw zc => ?_⟩, ?_⟩
   ·exact nilCheck_ rfl ((evt za 20).trans (optSVal (zc.dep 1 20 (by kernel_rfl) (by decide)) rfl rfl)) ⟨_, rfl, Below.refl _ _, optDef zβ rfl⟩
   refine ⟨.inl ⟨rfl, true, .none rfl, (fun gg b h => by cases h), fun h w => optUndef h, fun zβ za zw zc => ?_⟩, ?_⟩
   ·exact fld_51_1 rfl ((evt za 21).trans (optSVal (zc.dep 2 21 (by kernel_rfl) (by decide)) rfl rfl)) ⟨_, rfl, Below.refl _ _, optDef zβ rfl⟩
   refine ⟨.inl ⟨rfl, true, .none rfl, (fun gg b h => by cases h), fun h w => optUndef h, fun zβ za zw zc => ?_⟩, ?_⟩
   ·obtain ⟨vals, hle, hgv, _⟩ := zc.early 2 10 rfl (by kernel_rfl)
    have zc0 : zw.cell? ⟨g, 0 + 1, none⟩ = some (.slice oa N.length oc) := by
     match vals, hle, hgv with
     | [], _, hg => exact hg.1.c1
     | [_], _, hg => exact hg.1.c1
     | [_, _], _, hg => (obtain ⟨ra, rc, e, ⟨S3, k1, _⟩, _⟩ := hg; exact k1.c1)
    exact ld_49 rfl ((evt za 22).trans (optSVal (zc.dep 3 22 (by kernel_rfl) (by decide)) rfl rfl)) zc0 ⟨_, rfl, Below.refl _ _, optDef zβ rfl⟩
   refine ⟨.inl ⟨rfl, true, .none rfl, (fun gg b h => by cases h), fun h w => optUndef h, fun zβ za zw zc => ?_⟩, ?_⟩
   ·exact ld_57 rfl (zc.kn.ev rfl) (chg_cell zc.chg (by first | (intro h9; apply hgbZ; rcases h9 with h9 | h9; (rw [h9]; exact hgZ); exact hoZ _ h9) | ((try dsimp only at *); omega)) ((hB13.cell 0).trans rfl)) (chg_cell zc.chg (by first | (intro h9; apply hgbZ; rcases h9 with h9 | h9; (rw [h9]; exact hgZ); exact hoZ _ h9) | ((try dsimp only at *); omega)) ((hB13.cell 1).trans rfl)) ⟨_, rfl, Below.refl _ _, optDef zβ rfl⟩
   refine ⟨.inr ⟨0, rfl, by kernel_rfl, true, .none rfl, (fun gg b h => by cases h), (fun h => (nomatch h)), fun zβ za zw zvals zc => ?_⟩, ?_⟩
   ·obtain rfl := vlen0 zc.len
    have zn := zc.now
    exact row_49_1 rfl ((evt za 24).trans (optSVal (zc.dep 5 24 (by kernel_rfl) (by decide)) rfl rfl)) ⟨_, rfl, .ofBelow (balloc _ _), ⟨zn.1.below (balloc _ _), ⟨fun b q => Nat.lt_of_lt_of_le (zn.2.1 b q) (balloc _ _).size, zn.2.2.below (balloc _ _)⟩, _, rfl, Blk.new' rfl⟩, cvNo⟩
   refine ⟨.inr ⟨1, rfl, by kernel_rfl, true, .none rfl, (fun gg b h => by cases h), (fun h => (nomatch h)), fun zβ za zw zvals zc => ?_⟩, ?_⟩
   ·obtain ⟨z0, rfl⟩ := vlen1 zc.len
    have zn := zc.now
    obtain ⟨k1, k0, g1, e, k2⟩ := zn
    have e0 : z0 = za.tmps.getD 25 undef := Option.some.inj (zc.val 0 6 25 rfl (by kernel_rfl))
    exact wp_appD (E := eltP) (y := x) (S2 := S2) (size := 2) (bytes := 32) (z := .agg #[.int .i64 0, .slice none 0 0]) rfl Try.underlying49 (by kernel_rfl) rfl (by decide) rfl ((evt za 23).trans (optSVal (zc.dep 4 23 (by kernel_rfl) (by decide)) rfl rfl)) ((evt za 25).trans (e0.symm.trans e)) k1.of k2 ⟨pa, pc, rfl, k0.2⟩ (fun b q q2 => (hS2 b q).1 (hoZ b q2)) (by omega) (by omega) (fun ra3 rc3 w' h1 h2 h3 => ⟨_, rfl, h2.mono (fun b q => .inr q), ⟨ra3, rc3, by rw [List.length_append]; rfl, ⟨_, k1.growO (fun b q => ⟨(hS2u b q).1, k0.1 b q, (hS2u b q).2.2⟩) h1 h2 h3, fun b q => q.1⟩, fun b q => by rw [List.length_append] at q; exact (h3 b q).imp (hoZ b) (fun z => Nat.le_trans zc.chg.size z)⟩, cvNo⟩)
   refine ⟨.inl ⟨rfl, true, .none rfl, (fun gg b h => by cases h), fun h w => optUndef h, fun zβ za zw zc => ?_⟩, ?_⟩
   ·exact nilCheck_ rfl ((evt za 19).trans (optSVal (zc.dep 0 19 (by kernel_rfl) (by decide)) rfl rfl)) ⟨_, rfl, Below.refl _ _, optDef zβ rfl⟩
   refine ⟨.inl ⟨rfl, true, .none rfl, (fun gg b h => by cases h), fun h w => optUndef h, fun zβ za zw zc => ?_⟩, ?_⟩
   ·exact fld_51_1 rfl ((evt za 27).trans (optSVal (zc.dep 8 27 (by kernel_rfl) (by decide)) rfl rfl)) ⟨_, rfl, Below.refl _ _, optDef zβ rfl⟩
   refine ⟨.inr ⟨2, rfl, by kernel_rfl, true, .none rfl, (fun gg b h => by cases h), (fun h => (nomatch h)), fun zβ za zw zvals zc => ?_⟩, ?_⟩
   ·obtain ⟨z0, z1, rfl⟩ := vlen2 zc.len
    have zn := zc.now
    obtain ⟨ra3, rc3, e, ⟨S3, k1, k3⟩, k2⟩ := zn
    have e1 : z1 = za.tmps.getD 26 undef := Option.some.inj (zc.val 1 7 26 rfl (by kernel_rfl))
    exact st_49 rfl ((evt za 28).trans (optSVal (zc.dep 9 28 (by kernel_rfl) (by decide)) rfl rfl)) ((evt za 26).trans (e1.symm.trans e)) k1.blk k1.sz.2 (fun v => ⟨v, rfl, .ofUpd (Upd.at_ _ _ _ _) (.inl rfl), ⟨ra3, rc3, ⟨S3, k1.store1, k3⟩, k2⟩, cvNo⟩)
   exact trivial
  ·intro za w15 zvals zh zl hG16 hc17 zu zw zk
   obtain ⟨z0, z1, z2, rfl⟩ := vlen3 zl
   obtain ⟨pa3, pc3, ⟨S3, k29, hS3⟩, hpaZ⟩ := hG16
   have hq18 := Chg.mono (S' := Z) hc17 (fun b e => by rcases e with e | e; (rw [e]; exact hgZ); exact hoZ b e)
   have hB19 := chg_blk hB13 hq18 hgbZ
   clear zu zw zk
   refine WE.go zh ?_
   refine WE.next (WC.seq (WC.region (WL.mv rfl rfl rfl rfl rfl ?_)))
   refine WL.val _ rfl rfl rfl (fun za zC zh zk => nilCheck_ rfl (zh.ev rfl) zk) ?_
   refine WL.val _ rfl rfl rfl (fun za zC zh zk => fld_51_0 rfl (zh.ev rfl) zk) ?_
   refine WL.val _ rfl rfl rfl (fun za zC zh zk => ld_48 rfl (zh.ev rfl) k29.c0 zk) ?_
   refine WL.val (.int .i64 ((((U ++ [N.length]).length : Nat) : Int))) rfl rfl rfl (fun za zC zh zk => len_48 rfl (zh.ev rfl) zk) ?_
   refine WL.val (.int .i64 (((N.length : Nat) : Int))) rfl rfl rfl (fun za zC zh zk => subb_3 rfl (zh.ev rfl) (zh.ev rfl) (wrap_eq (by rw [List.length_append]; show ((U.length + 1 : Nat) : Int) - 1 = _; omega) (by omega) (by omega)) zk) ?_
   refine WL.asg rfl rfl rfl rfl rfl (WL.nil (WE.next (WC.ret (WE.ret1 rfl rfl ?_))))
   have hs20 : Chg Z w w15 := (Chg.trans2 (Chg.trans2 (Chg.trans2 (Chg.refl Z _) (Chg.ofBelow (S := fun k => k < 0) hb5) (fun i h1 h2 => by first | exact h2 | exact .inl ⟨h2, h1⟩ | exact .inl h2 | exact .inr h2 | exact .inr (.inl h2) | exact .inr (.inr h2) | ((try dsimp only at *); omega))) hq12 (fun i h1 h2 => by first | exact h2 | exact .inl ⟨h2, h1⟩ | exact .inl h2 | exact .inr h2 | exact .inr (.inl h2) | exact .inr (.inr h2) | ((try dsimp only at *); omega))) hq18 (fun i h1 h2 => by first | exact h2 | exact .inl ⟨h2, h1⟩ | exact .inl h2 | exact .inr h2 | exact .inr (.inl h2) | exact .inr (.inr h2) | ((try dsimp only at *); omega)))
   have hUe : (U ++ [N.length]).length = (N ++ [x]).length := by rw [List.length_append, List.length_append, hUl]; rfl
   have hF := PG.pn k29 hUe
   refine ⟨_, rfl, rfl, ⟨fun b => (Z b ∨ S2 b ∨ w.heap.size ≤ b) ∧ b < w15.heap.size, ⟨S3, ra, rc, pa3, pc3, hF, fun b q => ⟨?_, hF.lt b q⟩, fun b q => q.2⟩, fun b q => q.1⟩, hs20⟩
   rcases q with q | q | q | q
   ·exact .inl (q ▸ hgZ)
   ·rw [← hUe] at q
    rcases hraZ b q with z | z
    ·exact .inl z
    ·exact .inr (.inr (Nat.le_trans hb5.size z))
   ·rcases hpaZ b q with z | z
    ·exact .inl z
    ·exact .inr (.inr (Nat.le_trans (Nat.le_trans hb5.size hq12.size) z))
   ·rcases hS3 b q with z | z
    ·exact .inl (hsZ b z)
    ·exact .inr (.inl z)
end Go.Proofs.Ythhgidliopohcaa

/- Terms whose variables have no arguments. -/
namespace Go.Proofs.Ythhgidliopohcaa
open Go.RowKit Go
set_option linter.unusedVariables false
set_option linter.unusedSimpArgs false
mutual
def T.plain : T → Bool
  | .mk f l => T.plainL l && (decide (0 ≤ f) || l.isEmpty)
def T.plainL : List T → Bool
  | [] => true
  | t :: r => t.plain && T.plainL r
end
end Go.Proofs.Ythhgidliopohcaa

/- Small terms: plain. -/
namespace Go.Proofs.Ythhgidliopohcaa
open Go.RowKit Go
set_option linter.unusedVariables false
set_option linter.unusedSimpArgs false
mutual
def T.dep : T → Nat
  | .mk _ l => T.depL l + 1
def T.depL : List T → Nat
  | [] => 0
  | t :: r => max t.dep (T.depL r)
end
mutual
def T.low (m : Int) : T → Bool
  | .mk f l => if f < 0 then decide (-m ≤ f) && decide (l.length = 0) else T.lowL m l
def T.lowL (m : Int) : List T → Bool
  | [] => true
  | t :: r => t.low m && T.lowL m r
end
def T.small (m : Int) (t : T) : Bool := decide (t.size ≤ 300) && decide (t.dep ≤ 30) && t.low m
theorem depL_snoc : ∀ (l : List T) (t : T), T.depL (l ++ [t]) = max (T.depL l) t.dep
  | [], t => by simp [T.depL]
  | x :: l, t => by rw [List.cons_append, T.depL, T.depL, depL_snoc l t, Nat.max_assoc]
theorem depL_take {l : List T} {k : Nat} (h : k < l.length) : T.depL (l.take (k + 1)) = max (T.depL (l.take k)) (tget l k).dep := by
  rw [List.take_succ_eq_append_getElem h, depL_snoc, tget_lt h]
theorem sizeL_snoc : ∀ (l : List T) (t : T), T.sizeL (l ++ [t]) = T.sizeL l + t.size
  | [], t => by simp [T.sizeL]
  | x :: l, t => by rw [List.cons_append, T.sizeL, T.sizeL, sizeL_snoc l t, Nat.add_assoc]
theorem sizeL_take1 {l : List T} {k : Nat} (h : k < l.length) : T.sizeL (l.take (k + 1)) = T.sizeL (l.take k) + (tget l k).size := by
  rw [List.take_succ_eq_append_getElem h, sizeL_snoc, tget_lt h]
mutual
theorem T.dep_le : ∀ t : T, t.dep ≤ t.size
  | .mk f l => by rw [T.dep, T.size]; have := T.depL_le l; omega
theorem T.depL_le : ∀ l : List T, T.depL l ≤ T.sizeL l
  | [] => Nat.le_refl _
  | t :: r => by rw [T.depL, T.sizeL]; have := T.dep_le t; have := T.depL_le r; omega
end
theorem depL_take_le {l : List T} {k : Nat} : T.depL (l.take k) ≤ T.sizeL l := by
  have h1 := T.depL_le (l.take k)
  have h2 : T.sizeL (l.take k) ≤ T.sizeL l := T.sizeL_take_le l k
  omega
theorem lowL_mem {m : Int} : ∀ {l : List T}, T.lowL m l = true ↔ ∀ t ∈ l, t.low m = true
  | [] => by simp [T.lowL]
  | t :: r => by rw [T.lowL, Bool.and_eq_true, lowL_mem (l := r)]; simp
theorem low_yes {m f : Int} {l : List T} (hf : ¬ f < 0) (h : ∀ i, i < l.length → (tget l i).low m = true) : (T.mk f l).low m = true := by
  rw [T.low, if_neg hf]
  refine lowL_mem.2 fun t ht => ?_
  obtain ⟨i, hi, rfl⟩ := List.getElem_of_mem ht
  have := h i hi
  rwa [tget_lt hi] at this
theorem low_no {m f : Int} {l : List T} {k : Nat} (hf : ¬ f < 0) (hk : k < l.length) (h : ¬ (tget l k).low m = true) : (T.mk f l).low m = false := by
  rw [T.low, if_neg hf, Bool.eq_false_iff]
  intro e
  exact h (lowL_mem.1 e _ (tget_mem hk))
end Go.Proofs.Ythhgidliopohcaa

namespace Go.Proofs.Ythhgidliopohcaa
open Go.RowKit Go
set_option linter.unusedVariables false
set_option linter.unusedSimpArgs false
theorem len_le_sizeL (l : List T) : l.length ≤ T.sizeL l := by
  induction l with
  | nil => simp [T.sizeL]
  | cons t r ih => simp only [List.length_cons, T.sizeL]; have : 1 ≤ t.size := by rw [T.size_eq]; omega
                   omega
theorem size_at {l : List T} {k N : Nat} {f : Int} (h : k < l.length) (hz : (T.mk f l).size ≤ N) : (tget l k).size ≤ N := by
  have h1 := T.size_le_sizeL (tget_mem h)
  simp only [T.size] at hz
  omega
end Go.Proofs.Ythhgidliopohcaa
