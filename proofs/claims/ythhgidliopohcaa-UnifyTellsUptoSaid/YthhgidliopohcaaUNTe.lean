/- Scopes (functions with labels) through which the run goes without a goto. -/
import Derived.Test.YthhgidliopohcaaUNTb
import Derived.Test.YthhgidliopohcaaUNTd
import Derived.Test.YthhgidliopohcaaUNTc
import Derived.Test.YthhgidliopohcaaUNTa
import Derived.Deep.MidRow
import Derived.Scope

/- A term is put into the net: the program. -/
namespace Go.Proofs.Ythhgidliopohcaa
open Go.RowKit Go
set_option linter.unusedVariables false
set_option linter.unusedSimpArgs false
theorem vnum_lt {f : Int} (h : f < 0) (h2 : -96 ≤ f) : vnum f < 96 ∧ ((vnum f : Nat) : Int) = -1 - f := by unfold vnum; omega
theorem putL_take {l : List T} {k : Nat} {st : NS} (h : k < l.length) : T.putL (l.take (k + 1)) st = (((tget l k).put (T.putL (l.take k) st).1).1, (T.putL (l.take k) st).2 ++ [((tget l k).put (T.putL (l.take k) st).1).2]) := by
 rw [List.take_succ_eq_append_getElem h, putL_snoc, tget_lt h]
theorem putL_take_len {l : List T} {k : Nat} {st : NS} (h : NetOk st) (hk : k ≤ l.length) : (T.putL (l.take k) st).2.length = k := by rw [(putL_ok _ st h).2.2, List.length_take]; omega
set_option maxRecDepth 100000 in
theorem pput_any (w0 : World) (κ d : Nat → Nat) (g : Nat) : ∀ (t : T) (st : NS) (U : List Nat) (Z : Nat → Prop) (w : World) (b o : Nat) (a : Option Addr) (c : Nat), NetOk st → NetX w g Z U st.N st.V → Reps U κ d → (∀ i, st.N.length ≤ i → κ i = i) → st.N.length + t.size ≤ 1048576 → t.low 96 = true → Below w0.heap.size w0 w → (∀ b, Z b → w0.heap.size ≤ b) →
  w0.cell? ⟨b, o, none⟩ = some (.int .i64 t.f) → w0.cell? ⟨b, o + 1, none⟩ = some (.slice a t.args.length c) → IsT w0 t (.agg #[.int .i64 t.f, .slice a t.args.length c]) →
  Calls Try.prog 44 #[.pointer (some ⟨g, 0, none⟩), .pointer (some ⟨b, o, none⟩)] w (Ret fun v' w' => v' = .int .i64 (((t.put st).2 : Nat) : Int) ∧ NetJ w' w.heap.size Z κ d g (t.put st).1.N (t.put st).1.V (fun _ => False) ∧ Chg Z w w') := by
 refine T.ind (fun f l ih => ?_)
 intro st U Z w b o a c hst hN hR hκ hsz hlow hb0 hZ0 hcf0 hca0 hv
 have hlen := len_le_sizeL l
 have hz' := hsz
 simp only [T.size] at hz'
 simp only [T.f_mk, T.args_mk] at hcf0 hca0 hv
 have hrow := isT_row hv
 have hl := hrow.2.2.2
 have hfI := hrow.1
 unfold I64 at hfI
 have hgZ : Z g := hN.hg
 have hZl := hN.lt
 have hlow' := hlow
 rw [T.low] at hlow'
 have hf96 : f < 0 → -96 ≤ f := fun q => by rw [if_pos q] at hlow'; simp at hlow'; omega
 have hblt : b < w0.heap.size := World.block_lt_of_cell? _ _ hcf0
 have hJ0 : NetJ w w.heap.size Z κ d g st.N st.V (fun _ => False) := hN.j hR
 have hC0 := Chg.refl Z w
 refine Calls.walk (l := [.pointer (some ⟨g, 0, none⟩), .pointer (some ⟨b, o, none⟩)]) Try.func44 rfl (by kernel_rfl) ?_
 refine WC.sub (K' := [(0, .pointer (some ⟨g, 0, none⟩)), (1, .pointer (some ⟨b, o, none⟩))]) ⟨rfl, rfl, trivial⟩ ?_
 refine WC.seq (WC.region (WL.asg rfl rfl rfl rfl rfl (WL.nil (WE.next (WC.seq (WC.seq (WC.region (WL.mv rfl rfl rfl rfl rfl ?_))))))))
 refine WL.val _ rfl rfl rfl (fun za zC zh zk => nilCheck_ rfl (zh.ev rfl) zk) ?_
 refine WL.val _ rfl rfl rfl (fun za zC zh zk => fld_32_0 rfl (zh.ev rfl) zk) ?_
 have hc1 := bkeeps hb0 _ _ hcf0
 refine WL.val _ rfl rfl rfl (fun za zC zh zk => ld_3 rfl (zh.ev rfl) hc1 zk) ?_
 refine WL.val (.bool ((decide ((f : Int) < (0 : Int))))) rfl rfl rfl (fun za zC zh zk => lss_3 rfl (zh.ev rfl) (zh.ev rfl) zk) ?_
 refine WL.nil (WE.next ?_)
 refine WC.cond rfl (fun h2 => ?_) (fun h2 => ?_)
 ·have h2 : (f : Int) < (0 : Int) := by simpa using h2
  refine WC.seq ?_
  refine WC.opt [(true, .val (.pointer (some ⟨g, 0, none⟩))), (true, .val (.pointer (some ⟨b, o, none⟩))), (true, .val (.pointer (some ⟨b, o, none⟩))), (true, .val (.pointer (some ⟨b, o, none⟩))), (true, .val (.int .i64 f)), (true, .val (.int .i64 ((((vnum f) : Nat) : Int)))), (true, .val (.pointer (some ⟨g, 0, none⟩))), (true, .val (.pointer (some ⟨g, 2, none⟩))), (true, .val (.pointer (some ⟨g, 2 + (vnum f), none⟩))), (true, .val (.pointer (some ⟨g, 2 + (vnum f), none⟩)))] [(0, .pointer (some ⟨g, 0, none⟩)), (1, .pointer (some ⟨b, o, none⟩)), (4, .int .i64 0), (12, .bool ((decide ((f : Int) < (0 : Int)))))] ⟨rfl, rfl, rfl, rfl, trivial⟩ (by kernel_rfl) (by kernel_rfl) (by kernel_rfl) ?_ ?_
  ·refine ⟨⟨true, .none rfl, fun h w => optUndef h, fun zβ za zw zc => ?_⟩, ?_⟩
   ·exact wp_move rfl (zc.kn.ev rfl) ⟨_, rfl, Below.refl _ _, optDef zβ rfl⟩
   refine ⟨⟨true, .none rfl, fun h w => optUndef h, fun zβ za zw zc => ?_⟩, ?_⟩
   ·exact wp_move rfl (zc.kn.ev rfl) ⟨_, rfl, Below.refl _ _, optDef zβ rfl⟩
   refine ⟨⟨true, .none rfl, fun h w => optUndef h, fun zβ za zw zc => ?_⟩, ?_⟩
   ·exact nilCheck_ rfl ((evt za 14).trans (optVal (zc.dep 1 14 (by kernel_rfl)) rfl rfl)) ⟨_, rfl, Below.refl _ _, optDef zβ rfl⟩
   refine ⟨⟨true, .none rfl, fun h w => optUndef h, fun zβ za zw zc => ?_⟩, ?_⟩
   ·exact fld_32_0 rfl ((evt za 15).trans (optVal (zc.dep 2 15 (by kernel_rfl)) rfl rfl)) ⟨_, rfl, Below.refl _ _, optDef zβ rfl⟩
   refine ⟨⟨true, .none rfl, fun h w => optUndef h, fun zβ za zw zc => ?_⟩, ?_⟩
   ·exact ld_3 rfl ((evt za 16).trans (optVal (zc.dep 3 16 (by kernel_rfl)) rfl rfl)) (bkeeps zc.below _ _ hc1) ⟨_, rfl, Below.refl _ _, optDef zβ rfl⟩
   refine ⟨⟨true, .none rfl, fun h w => optUndef h, fun zβ za zw zc => ?_⟩, ?_⟩
   ·exact subb_3 rfl (zc.kn.ev rfl) ((evt za 17).trans (optVal (zc.dep 4 17 (by kernel_rfl)) rfl rfl)) (wrap_eq (by unfold vnum; omega) (by have z := (vnum_lt (by omega) (hf96 (by omega))).1; omega) (by have z := (vnum_lt (by omega) (hf96 (by omega))).1; omega)) ⟨_, rfl, Below.refl _ _, optDef zβ rfl⟩
   refine ⟨⟨true, .none rfl, fun h w => optUndef h, fun zβ za zw zc => ?_⟩, ?_⟩
   ·exact nilCheck_ rfl ((evt za 13).trans (optVal (zc.dep 0 13 (by kernel_rfl)) rfl rfl)) ⟨_, rfl, Below.refl _ _, optDef zβ rfl⟩
   refine ⟨⟨true, .none rfl, fun h w => optUndef h, fun zβ za zw zc => ?_⟩, ?_⟩
   ·exact fld_54_1 rfl ((evt za 19).trans (optVal (zc.dep 6 19 (by kernel_rfl)) rfl rfl)) ⟨_, rfl, Below.refl _ _, optDef zβ rfl⟩
   refine ⟨⟨true, .none rfl, fun h w => optUndef h, fun zβ za zw zc => ?_⟩, ?_⟩
   ·exact ixa_52 (k := vnum f) rfl ((evt za 20).trans (optVal (zc.dep 7 20 (by kernel_rfl)) rfl rfl)) ((evt za 18).trans (optVal (zc.dep 5 18 (by kernel_rfl)) rfl rfl)) (vnum_lt (by omega) (hf96 (by omega))).1 ⟨_, rfl, Below.refl _ _, optDef zβ rfl⟩
   refine ⟨⟨true, .none rfl, fun h w => optUndef h, fun zβ za zw zc => ?_⟩, ?_⟩
   ·exact wp_assign rfl ((evt za 21).trans (optVal (zc.dep 8 21 (by kernel_rfl)) rfl rfl)) ⟨_, rfl, Below.refl _ _, optDef zβ rfl⟩
   exact trivial
  ·intro za w3 zh hb4 zu
   have zh := zh.cons (d := 5) (v := .pointer (some ⟨g, 2 + (vnum f), none⟩)) (optVal (zu 9 5 (by kernel_rfl)) rfl rfl)
   clear zu
   refine WE.go zh ?_
   refine WE.next (WC.seq (WC.seq (WC.region (WL.mv rfl rfl rfl rfl rfl ?_))))
   refine WL.val _ rfl rfl rfl (fun za zC zh zk => nilCheck_ rfl (zh.ev rfl) zk) ?_
   have ho5 := hJ0.below hb4
   refine WL.val _ rfl rfl rfl (fun za zC zh zk => ld_3 rfl (zh.ev rfl) (ho5.cv (vnum_lt (by omega) (hf96 (by omega))).1) zk) ?_
   refine WL.val (.bool ((((((st.V (vnum f)) : Nat) : Int) : Int) == (0 : Int)))) rfl rfl rfl (fun za zC zh zk => eql_3 rfl (zh.ev rfl) (zh.ev rfl) zk) ?_
   refine WL.nil (WE.next ?_)
   refine WC.cond rfl (fun h6 => ?_) (fun h6 => ?_)
   ·have h6 : ((((st.V (vnum f)) : Nat) : Int) : Int) = (0 : Int) := by simpa using h6
    have hG49 : ∀ (vals : List Value) (wa wb : World), Below wa.heap.size wa wb → (fun vals wz => match vals with | [] => NetX wz g Z U st.N st.V | [_] => NetJ wz w.heap.size Z κ d g (st.N ++ [⟨f, []⟩]) st.V (fun _ => False) | [_, _] => NetJ wz w.heap.size Z κ d g (st.N ++ [⟨f, []⟩]) (NS.setV st.V (vnum f) (st.N.length + 1)) (fun _ => False) | _ => False) vals wa → (fun vals wz => match vals with | [] => NetX wz g Z U st.N st.V | [_] => NetJ wz w.heap.size Z κ d g (st.N ++ [⟨f, []⟩]) st.V (fun _ => False) | [_, _] => NetJ wz w.heap.size Z κ d g (st.N ++ [⟨f, []⟩]) (NS.setV st.V (vnum f) (st.N.length + 1)) (fun _ => False) | _ => False) vals wb := by
     intro vals wa wb hb h
     match vals, h with
     | [], h => exact NetX.below h hb
     | [_], h => exact NetJ.below h hb
     | [_, _], h => exact NetJ.below h hb
    have hc7 := bkeeps hb4 _ _ hc1
    refine WC.seqV (S := Z) [(true, .val (.pointer (some ⟨g, 2 + (vnum f), none⟩))), (true, .val (.pointer (some ⟨g, 0, none⟩))), (true, .val (.pointer (some ⟨g, 0, none⟩))), (true, .val (.pointer (some ⟨g, 0, none⟩))), (true, .val (.pointer (some ⟨b, o, none⟩))), (true, .val (.pointer (some ⟨b, o, none⟩))), (true, .val (.pointer (some ⟨b, o, none⟩))), (true, .val (.int .i64 f)), (true, .val (.agg #[.int .i64 f, .slice none 0 0])), (true, .val undef), (true, .val (.int .i64 ((((st.N.length + 1) : Nat) : Int)))), (true, .val (.pointer (some ⟨g, 2 + (vnum f), none⟩))), (true, .val undef)] [(0, .pointer (some ⟨g, 0, none⟩)), (1, .pointer (some ⟨b, o, none⟩)), (4, .int .i64 0), (5, .pointer (some ⟨g, 2 + (vnum f), none⟩)), (12, .bool ((decide ((f : Int) < (0 : Int))))), (25, .bool ((((((st.V (vnum f)) : Nat) : Int) : Int) == (0 : Int))))] [9, 12] [some (true, .int .i64 (((st.N.length : Nat) : Int))), none] (fun vals wz => match vals with | [] => NetX wz g Z U st.N st.V | [_] => NetJ wz w.heap.size Z κ d g (st.N ++ [⟨f, []⟩]) st.V (fun _ => False) | [_, _] => NetJ wz w.heap.size Z κ d g (st.N ++ [⟨f, []⟩]) (NS.setV st.V (vnum f) (st.N.length + 1)) (fun _ => False) | _ => False) hG49 (by decide) ⟨rfl, rfl, rfl, rfl, rfl, rfl, trivial⟩ (by kernel_rfl) (by kernel_rfl) (by kernel_rfl) (by kernel_rfl) ((hN.below hb4)) ?_ ?_
    ·refine ⟨.inl ⟨rfl, true, .none rfl, (fun gg b h => by cases h), fun h w => optUndef h, fun zβ za zw zc => ?_⟩, ?_⟩
     ·exact wp_move rfl (zc.kn.ev rfl) ⟨_, rfl, Below.refl _ _, optDef zβ rfl⟩
     refine ⟨.inl ⟨rfl, true, .none rfl, (fun gg b h => by cases h), fun h w => optUndef h, fun zβ za zw zc => ?_⟩, ?_⟩
     ·exact wp_move rfl (zc.kn.ev rfl) ⟨_, rfl, Below.refl _ _, optDef zβ rfl⟩
     refine ⟨.inl ⟨rfl, true, .none rfl, (fun gg b h => by cases h), fun h w => optUndef h, fun zβ za zw zc => ?_⟩, ?_⟩
     ·exact nilCheck_ rfl ((evt za 27).trans (optSVal (zc.dep 1 27 (by kernel_rfl) (by decide)) rfl rfl)) ⟨_, rfl, Below.refl _ _, optDef zβ rfl⟩
     refine ⟨.inl ⟨rfl, true, .none rfl, (fun gg b h => by cases h), fun h w => optUndef h, fun zβ za zw zc => ?_⟩, ?_⟩
     ·exact fld_54_0 rfl ((evt za 28).trans (optSVal (zc.dep 2 28 (by kernel_rfl) (by decide)) rfl rfl)) ⟨_, rfl, Below.refl _ _, optDef zβ rfl⟩
     refine ⟨.inl ⟨rfl, true, .none rfl, (fun gg b h => by cases h), fun h w => optUndef h, fun zβ za zw zc => ?_⟩, ?_⟩
     ·exact wp_move rfl (zc.kn.ev rfl) ⟨_, rfl, Below.refl _ _, optDef zβ rfl⟩
     refine ⟨.inl ⟨rfl, true, .none rfl, (fun gg b h => by cases h), fun h w => optUndef h, fun zβ za zw zc => ?_⟩, ?_⟩
     ·exact nilCheck_ rfl ((evt za 30).trans (optSVal (zc.dep 4 30 (by kernel_rfl) (by decide)) rfl rfl)) ⟨_, rfl, Below.refl _ _, optDef zβ rfl⟩
     refine ⟨.inl ⟨rfl, true, .none rfl, (fun gg b h => by cases h), fun h w => optUndef h, fun zβ za zw zc => ?_⟩, ?_⟩
     ·exact fld_32_0 rfl ((evt za 31).trans (optSVal (zc.dep 5 31 (by kernel_rfl) (by decide)) rfl rfl)) ⟨_, rfl, Below.refl _ _, optDef zβ rfl⟩
     refine ⟨.inl ⟨rfl, true, .none rfl, (fun gg b h => by cases h), fun h w => optUndef h, fun zβ za zw zc => ?_⟩, ?_⟩
     ·exact ld_3 rfl ((evt za 32).trans (optSVal (zc.dep 6 32 (by kernel_rfl) (by decide)) rfl rfl)) (chg_cell zc.chg (by intro h9; have z := hZ0 _ h9; omega) hc7) ⟨_, rfl, Below.refl _ _, optDef zβ rfl⟩
     refine ⟨.inl ⟨rfl, true, .none rfl, (fun gg b h => by cases h), fun h w => optUndef h, fun zβ za zw zc => ?_⟩, ?_⟩
     ·exact build_57_0 rfl ((evt za 33).trans (optSVal (zc.dep 7 33 (by kernel_rfl) (by decide)) rfl rfl)) ⟨_, rfl, Below.refl _ _, optDef zβ rfl⟩
     refine ⟨.inr ⟨0, rfl, by kernel_rfl, true, .none rfl, (fun gg b h => by cases h), (fun h => (nomatch h)), fun zβ za zw zvals zc => ?_⟩, ?_⟩
     ·obtain rfl := vlen0 zc.len
      have zn := zc.now
      exact wp_call (by kernel_rfl) rfl (hv2 ((evt za 29).trans (optSVal (zc.dep 3 29 (by kernel_rfl) (by decide)) rfl rfl)) ((evt za 34).trans (optSVal (zc.dep 8 34 (by kernel_rfl) (by decide)) rfl rfl))) (padd_any U st.N st.V g Z (fun _ => False) ⟨f, []⟩ none 0 _ zn InRow.nilN (fun b q => q.elim) (by omega)) (fun v w' h => by obtain ⟨k1, ⟨Z', k2, k3⟩, k4⟩ := h; exact ⟨v, rfl, k4, ⟨_, Z', by rw [← hN.len]; exact hR.push (by rw [hN.len]; exact hκ), k2, fun b q => by rcases k3 b q with z | z | z; exact .inl z; exact z.elim; exact .inr (by have z2 := zc.chg.size; have z3 := (hb4).size; omega), fun b q => q.elim⟩, cvIs k1⟩)
     refine ⟨.inl ⟨rfl, true, .none rfl, (fun gg b h => by cases h), fun h w => optUndef h, fun zβ za zw zc => ?_⟩, ?_⟩
     ·exact addb_3 rfl ((evt za 35).trans (zc.link 0 9 35 _ _ rfl (by kernel_rfl) rfl rfl)) (zc.kn.ev rfl) (wrap_eq (by omega) (by omega) (by omega)) ⟨_, rfl, Below.refl _ _, optDef zβ rfl⟩
     refine ⟨.inl ⟨rfl, true, .none rfl, (fun gg b h => by cases h), fun h w => optUndef h, fun zβ za zw zc => ?_⟩, ?_⟩
     ·exact nilCheck_ rfl ((evt za 26).trans (optSVal (zc.dep 0 26 (by kernel_rfl) (by decide)) rfl rfl)) ⟨_, rfl, Below.refl _ _, optDef zβ rfl⟩
     refine ⟨.inr ⟨1, rfl, by kernel_rfl, true, .none rfl, (fun gg b h => by cases h), (fun h => (nomatch h)), fun zβ za zw zvals zc => ?_⟩, ?_⟩
     ·obtain ⟨z0, rfl⟩ := vlen1 zc.len
      have zn := zc.now
      obtain ⟨U', Z', k1, k2, k3, k4⟩ := zn
      obtain ⟨⟨cs9, hB9, hs9⟩, k5⟩ := k2.setVr (v := vnum f) (x := st.N.length + 1) (vnum_lt (by omega) (hf96 (by omega))).1
      exact st_3 rfl ((evt za 37).trans (optSVal (zc.dep 11 37 (by kernel_rfl) (by decide)) rfl rfl)) ((evt za 36).trans (optSVal (zc.dep 10 36 (by kernel_rfl) (by decide)) rfl rfl)) hB9 hs9 (fun v => ⟨v, rfl, .ofUpd (Upd.at_ _ _ _ _) hgZ, ⟨U', Z', k1, k5, k3, k4⟩, cvNo⟩)
     exact trivial
    ·intro za w8 zvals zh zl hG9 hc10 zu zw zk
     obtain ⟨z0, z1, rfl⟩ := vlen2 zl
     have hC11 := Chg.trans (Chg.trans hC0 (.ofBelow hb4)) hc10
     have hb13 : Below w0.heap.size w0 w3 := (bstep hb0 hb4)
     have hb12 := chg_below hb13 hc10 (fun b hb h9 => by have z := hZ0 b h9; omega)
     clear zu zw zk
     refine WE.go zh ?_
     refine WE.next (WC.seq (WC.region (WL.mv rfl rfl rfl rfl rfl ?_)))
     refine WL.val _ rfl rfl rfl (fun za zC zh zk => nilCheck_ rfl (zh.ev rfl) zk) ?_
     refine WL.val _ rfl rfl rfl (fun za zC zh zk => ld_3 rfl (zh.ev rfl) (hG9.cv (vnum_lt (by omega) (hf96 (by omega))).1) zk) ?_
     refine WL.val (.int .i64 (((st.N.length : Nat) : Int))) rfl rfl rfl (fun za zC zh zk => subb_3 rfl (zh.ev rfl) (zh.ev rfl) (wrap_eq (by rw [show NS.setV st.V (vnum f) (st.N.length + 1) (vnum f) = st.N.length + 1 from if_pos rfl]; omega) (by omega) (by omega)) zk) ?_
     refine WL.asg rfl rfl rfl rfl rfl ?_
     refine WL.nil (WE.sub (K' := [(0, .pointer (some ⟨g, 0, none⟩)), (1, .pointer (some ⟨b, o, none⟩)), (4, .int .i64 (((st.N.length : Nat) : Int))), (5, .pointer (some ⟨g, 2 + (vnum f), none⟩)), (12, .bool ((decide ((f : Int) < (0 : Int))))), (25, .bool ((((((st.V (vnum f)) : Nat) : Int) : Int) == (0 : Int))))]) ⟨rfl, rfl, rfl, rfl, rfl, rfl, trivial⟩ ?_)
     refine WE.next (WC.ret (WE.thenRet (WE.ret1 rfl rfl ?_)))
     have e : (T.mk f l).put st = (⟨(st.N ++ [⟨f, []⟩]), (NS.setV st.V (vnum f) (st.N.length + 1))⟩, st.N.length) := by
      rw [T.put, if_pos (by omega)]; unfold NS.var; rw [if_neg (by omega)]
     rw [e]
     exact ⟨_, rfl, rfl, hG9, hC11⟩
   ·have h6 : ¬ (((((st.V (vnum f)) : Nat) : Int) : Int) = (0 : Int)) := by simpa using h6
    refine WC.skip (WE.next (WC.seq (WC.region (WL.mv rfl rfl rfl rfl rfl ?_))))
    refine WL.val _ rfl rfl rfl (fun za zC zh zk => nilCheck_ rfl (zh.ev rfl) zk) ?_
    refine WL.val _ rfl rfl rfl (fun za zC zh zk => ld_3 rfl (zh.ev rfl) (ho5.cv (vnum_lt (by omega) (hf96 (by omega))).1) zk) ?_
    refine WL.val (.int .i64 ((((st.V (vnum f) - 1) : Nat) : Int))) rfl rfl rfl (fun za zC zh zk => subb_3 rfl (zh.ev rfl) (zh.ev rfl) (wrap_eq (by omega) (by omega) (by have z := (hst.vars (vnum f)).1; omega)) zk) ?_
    refine WL.asg rfl rfl rfl rfl rfl (WL.nil (WE.next (WC.ret (WE.thenRet (WE.ret1 rfl rfl ?_)))))
    have hC14 := Chg.trans hC0 (.ofBelow hb4)
    have e : (T.mk f l).put st = (st, st.V (vnum f) - 1) := by
     rw [T.put, if_pos (by omega)]; unfold NS.var; rw [if_pos (by omega)]
    rw [e]
    exact ⟨_, rfl, rfl, ho5, hC14⟩
 ·have h2 : ¬ ((f : Int) < (0 : Int)) := by simpa using h2
  refine WC.skip (WE.next (WC.seq (WC.region (WL.mv rfl rfl rfl rfl rfl ?_))))
  refine WL.val _ rfl rfl rfl (fun za zC zh zk => nilCheck_ rfl (zh.ev rfl) zk) ?_
  refine WL.val _ rfl rfl rfl (fun za zC zh zk => fld_32_0 rfl (zh.ev rfl) zk) ?_
  refine WL.val _ rfl rfl rfl (fun za zC zh zk => ld_3 rfl (zh.ev rfl) hc1 zk) ?_
  refine WL.val (.agg #[.int .i64 f, .slice none 0 0]) rfl rfl rfl (fun za zC zh zk => build_57_0 rfl (zh.ev rfl) zk) ?_
  refine WL.step (post := NewBlk w 57 #[.int .i64 0, .slice none 0 0]) rfl rfl rfl (fun za zC zh zk => alloc_57 rfl (zk _ _ (newBlk _ _ _))) ?_
  rintro _ w15 ⟨g16, rfl, hg17, hB18, hb19, hz20⟩
  have hl21 : w0.heap.size ≤ g16 := by have z2 := (hb0).size; omega
  have hl22 : w.heap.size ≤ g16 := by omega
  refine WL.step (post := fun _ w' => Upd g16 w15 w' ∧ Blk w' g16 57 #[.int .i64 f, .slice none 0 0]) rfl rfl rfl (fun za zC zh zk => st_57 rfl (zh.ev rfl) (zh.ev rfl) rfl rfl hB18 (by first | decide | simp) (fun v => zk v _ ⟨(Upd.at_ _ _ _ _).trans (Upd.at_ _ _ _ _), (hB18.set_ 0 _).set_ 1 _⟩)) ?_
  rintro v26 w23 ⟨hu24, hB25⟩
  have hb27 : Below w0.heap.size w0 w15 := (bstep hb0 hb19)
  have hb28 := upd_below hb27 hu24 (by omega)
  have hb29 := upd_below hb19 hu24 (by omega)
  refine WL.nil (WE.next (WC.seq (WC.seq (WC.region (WL.mv rfl rfl rfl rfl rfl ?_)))))
  refine WL.val _ rfl rfl rfl (fun za zC zh zk => nilCheck_ rfl (zh.ev rfl) zk) ?_
  refine WL.val _ rfl rfl rfl (fun za zC zh zk => fld_32_1 rfl (zh.ev rfl) zk) ?_
  have hc30 := bkeeps hb28 _ _ hca0
  refine WL.val _ rfl rfl rfl (fun za zC zh zk => ld_30 rfl (zh.ev rfl) hc30 zk) ?_
  refine WL.val (.int .i64 (((l.length : Nat) : Int))) rfl rfl rfl (fun za zC zh zk => len_30 rfl (zh.ev rfl) zk) ?_
  refine WL.mv rfl rfl rfl rfl rfl (WL.nil (WE.next (WC.block ?_)))
  have hg6Z : ¬ Z g16 := fun q => by have z := hZl _ q; omega
  have hf0 : ¬ f < 0 := by omega
  have hlowL : ∀ q ∈ l, T.low 96 q = true := by rw [if_neg hf0] at hlow'; exact lowL_mem.1 hlow'
  have hJ1 : NetJ w23 w.heap.size Z κ d g (T.putL (l.take 0) st).1.N (T.putL (l.take 0) st).1.V (fun q => q = g16 ∨ obk none 0 0 = some q) := by
   have e : T.putL (l.take 0) st = (st, []) := rfl
   rw [e]
   exact ⟨U, Z, hR, hN.below hb29, fun b q => .inl q, fun b q h9 => by rcases q with q | q; (rw [q] at h9; exact hg6Z h9); cases q⟩
  have hr0 : RowD eltN (fun _ => False) w23 3 none 0 0 ((T.putL (l.take 0) st).2) := RowD.nil
  have hC31 := Chg.trans hC0 (.ofBelow hb29)
  have hg6w : w.heap.size ≤ g16 := by omega
  refine WC.loop (X := Nat × Option Addr × Nat) (fun x => l.length - x.1) (fun x => [(0, .pointer (some ⟨g, 0, none⟩)), (1, .pointer (some ⟨b, o, none⟩)), (4, .int .i64 0), (6, .pointer (some ⟨g16, 0, none⟩)), (12, .bool ((decide ((f : Int) < (0 : Int))))), (51, .int .i64 (((l.length : Nat) : Int))), (52, .int .i64 (((x.1 : Nat) : Int)))]) (fun x w32 => x.1 ≤ l.length ∧ Chg Z w w32 ∧ (∀ q, obk x.2.1 x.1 x.2.2 = some q → w.heap.size ≤ q) ∧ Below w0.heap.size w0 w32 ∧ Blk w32 g16 57 #[.int .i64 f, .slice x.2.1 x.1 x.2.2] ∧ NetJ (w32) w.heap.size Z κ d g ((T.putL (l.take x.1) st).1.N) ((T.putL (l.take x.1) st).1.V) (fun q => q = g16 ∨ obk x.2.1 x.1 x.2.2 = some q) ∧ RowD eltN (fun _ => False) (w32) 3 x.2.1 x.2.2 x.1 ((T.putL (l.take x.1) st).2)) ((0, none, 0)) ⟨rfl, rfl, rfl, rfl, rfl, rfl, rfl, trivial⟩ ?_ ?_
  ·exact ⟨Nat.zero_le _, hC31, (fun q h9 => nomatch h9), hb28, hB25, hJ1, hr0⟩
  ·rintro x w32 ⟨hk, hCx, hownw, hb33, hB34, ho35, ho36⟩
   have hlk : (T.putL (l.take x.1) st).2.length = x.1 := putL_take_len hst hk
   have hpo := (putL_ok (l.take x.1) st hst).1
   have hpl := hpo.len
   have hle9 := hpo.le
   have htk := T.sizeL_take_le l x.1
   have hg6x : w.heap.size ≤ g16 := hg6w
   refine WC.seq (WC.region ?_)
   refine WL.val (.bool ((decide ((((x.1 : Nat) : Int) : Int) < (((l.length : Nat) : Int) : Int))))) rfl rfl rfl (fun za zC zh zk => lss_3 rfl (zh.ev rfl) (zh.ev rfl) zk) ?_
   refine WL.nil (WE.next (WC.seq ?_))
   refine WC.cond rfl (fun h37 => ?_) (fun h37 => ?_)
   ·have h37 : (((x.1 : Nat) : Int) : Int) < (((l.length : Nat) : Int) : Int) := by simpa using h37
    refine WC.skip (WE.next (WC.seq (WC.block (WC.seq (WC.region (WL.mv rfl rfl rfl rfl rfl (WL.asg rfl rfl rfl rfl rfl (WL.nil (WE.next ?_)))))))))
    obtain ⟨U9, Z9, hR9, hN9, hZ9, hX9⟩ := ho35
    have hwW : w.heap.size ≤ w32.heap.size := hCx.size
    have hrlt := ho36.lt
    have hg6lt : g16 < w32.heap.size := hB34.lt
    have hrne : ∀ q, obk x.2.1 x.1 x.2.2 = some q → q ≠ g16 := fun q h9 => by have z := RowD.neBlk ho36 hB34 (by decide); exact fun e => z (e ▸ h9)
    have hmem9 : tget l x.1 ∈ l := tget_mem (by omega)
    have hsz9 := T.sizeL_take_succ l x.1 (by omega)
    have htg9 := tget_lt (show x.1 < l.length by omega)
    rw [← htg9] at hsz9
    have hst9 := T.sizeL_take_le l (x.1 + 1)
    have hown9 : ∀ q, obk x.2.1 x.1 x.2.2 = some q → ¬ q < w0.heap.size := fun q h9 => by have z := hownw q h9; have z2 := hb0.size; omega
    have hZ90 : ∀ q, Z9 q → w0.heap.size ≤ q := fun q h9 => by rcases hZ9 q h9 with z | z; exact hZ0 q z; (have z2 := hb0.size; omega)
    have hG10 : ∀ (vals : List Value) (wa wb : World), Below wa.heap.size wa wb → (fun vals wz => match vals with | [] => (NetX wz g Z9 U9 (T.putL (l.take x.1) st).1.N (T.putL (l.take x.1) st).1.V) ∧ (Blk wz g16 57 #[.int .i64 f, .slice x.2.1 x.1 x.2.2]) ∧ RowD eltN (fun _ => False) wz 3 x.2.1 x.2.2 x.1 ((T.putL (l.take x.1) st).2) | [_] => (NetJ wz w.heap.size Z κ d g ((tget l x.1).put (T.putL (l.take x.1) st).1).1.N ((tget l x.1).put (T.putL (l.take x.1) st).1).1.V (fun q => q = g16 ∨ obk x.2.1 x.1 x.2.2 = some q)) ∧ (Blk wz g16 57 #[.int .i64 f, .slice x.2.1 x.1 x.2.2]) ∧ RowD eltN (fun _ => False) wz 3 x.2.1 x.2.2 x.1 ((T.putL (l.take x.1) st).2) | [_, z1] => ((NetJ wz w.heap.size Z κ d g ((tget l x.1).put (T.putL (l.take x.1) st).1).1.N ((tget l x.1).put (T.putL (l.take x.1) st).1).1.V (fun q => q = g16 ∨ obk x.2.1 x.1 x.2.2 = some q)) ∧ (Blk wz g16 57 #[.int .i64 f, .slice x.2.1 x.1 x.2.2]) ∧ RowD eltN (fun _ => False) wz 3 x.2.1 x.2.2 x.1 ((T.putL (l.take x.1) st).2)) ∧ ∃ g1, z1 = .slice (some ⟨g1, 0, none⟩) 1 1 ∧ Blk wz g1 3 #[.int .i64 ((((tget l x.1).put (T.putL (l.take x.1) st).1).2 : Nat) : Int)] | [_, _, z2] => ∃ ra rc, z2 = .slice ra (x.1 + 1) rc ∧ (NetJ wz w.heap.size Z κ d g ((tget l x.1).put (T.putL (l.take x.1) st).1).1.N ((tget l x.1).put (T.putL (l.take x.1) st).1).1.V (fun q => q = g16 ∨ obk ra ((x.1 + 1)) rc = some q)) ∧ (Blk wz g16 57 #[.int .i64 f, .slice x.2.1 x.1 x.2.2]) ∧ (RowD eltN (fun _ => False) wz 3 ra rc ((x.1 + 1)) (((T.putL (l.take x.1) st).2 ++ [((tget l x.1).put (T.putL (l.take x.1) st).1).2]))) ∧ (∀ q, obk ra (x.1 + 1) rc = some q → w.heap.size ≤ q) | [_, _, _, _] => ∃ ra rc, (NetJ wz w.heap.size Z κ d g ((tget l x.1).put (T.putL (l.take x.1) st).1).1.N ((tget l x.1).put (T.putL (l.take x.1) st).1).1.V (fun q => q = g16 ∨ obk ra ((x.1 + 1)) rc = some q)) ∧ (Blk wz g16 57 #[.int .i64 f, .slice ra (x.1 + 1) rc]) ∧ (RowD eltN (fun _ => False) wz 3 ra rc ((x.1 + 1)) (((T.putL (l.take x.1) st).2 ++ [((tget l x.1).put (T.putL (l.take x.1) st).1).2]))) ∧ (∀ q, obk ra (x.1 + 1) rc = some q → w.heap.size ≤ q) | _ => False) vals wa → (fun vals wz => match vals with | [] => (NetX wz g Z9 U9 (T.putL (l.take x.1) st).1.N (T.putL (l.take x.1) st).1.V) ∧ (Blk wz g16 57 #[.int .i64 f, .slice x.2.1 x.1 x.2.2]) ∧ RowD eltN (fun _ => False) wz 3 x.2.1 x.2.2 x.1 ((T.putL (l.take x.1) st).2) | [_] => (NetJ wz w.heap.size Z κ d g ((tget l x.1).put (T.putL (l.take x.1) st).1).1.N ((tget l x.1).put (T.putL (l.take x.1) st).1).1.V (fun q => q = g16 ∨ obk x.2.1 x.1 x.2.2 = some q)) ∧ (Blk wz g16 57 #[.int .i64 f, .slice x.2.1 x.1 x.2.2]) ∧ RowD eltN (fun _ => False) wz 3 x.2.1 x.2.2 x.1 ((T.putL (l.take x.1) st).2) | [_, z1] => ((NetJ wz w.heap.size Z κ d g ((tget l x.1).put (T.putL (l.take x.1) st).1).1.N ((tget l x.1).put (T.putL (l.take x.1) st).1).1.V (fun q => q = g16 ∨ obk x.2.1 x.1 x.2.2 = some q)) ∧ (Blk wz g16 57 #[.int .i64 f, .slice x.2.1 x.1 x.2.2]) ∧ RowD eltN (fun _ => False) wz 3 x.2.1 x.2.2 x.1 ((T.putL (l.take x.1) st).2)) ∧ ∃ g1, z1 = .slice (some ⟨g1, 0, none⟩) 1 1 ∧ Blk wz g1 3 #[.int .i64 ((((tget l x.1).put (T.putL (l.take x.1) st).1).2 : Nat) : Int)] | [_, _, z2] => ∃ ra rc, z2 = .slice ra (x.1 + 1) rc ∧ (NetJ wz w.heap.size Z κ d g ((tget l x.1).put (T.putL (l.take x.1) st).1).1.N ((tget l x.1).put (T.putL (l.take x.1) st).1).1.V (fun q => q = g16 ∨ obk ra ((x.1 + 1)) rc = some q)) ∧ (Blk wz g16 57 #[.int .i64 f, .slice x.2.1 x.1 x.2.2]) ∧ (RowD eltN (fun _ => False) wz 3 ra rc ((x.1 + 1)) (((T.putL (l.take x.1) st).2 ++ [((tget l x.1).put (T.putL (l.take x.1) st).1).2]))) ∧ (∀ q, obk ra (x.1 + 1) rc = some q → w.heap.size ≤ q) | [_, _, _, _] => ∃ ra rc, (NetJ wz w.heap.size Z κ d g ((tget l x.1).put (T.putL (l.take x.1) st).1).1.N ((tget l x.1).put (T.putL (l.take x.1) st).1).1.V (fun q => q = g16 ∨ obk ra ((x.1 + 1)) rc = some q)) ∧ (Blk wz g16 57 #[.int .i64 f, .slice ra (x.1 + 1) rc]) ∧ (RowD eltN (fun _ => False) wz 3 ra rc ((x.1 + 1)) (((T.putL (l.take x.1) st).2 ++ [((tget l x.1).put (T.putL (l.take x.1) st).1).2]))) ∧ (∀ q, obk ra (x.1 + 1) rc = some q → w.heap.size ≤ q) | _ => False) vals wb := by
     intro vals wa wb hb h
     match vals, h with
     | [], h => exact ⟨h.1.below hb, h.2.1.below hb, h.2.2.below hb⟩
     | [_], h => exact ⟨h.1.below hb, h.2.1.below hb, h.2.2.below hb⟩
     | [_, z1], h =>
      obtain ⟨⟨k1, k2, k3⟩, g1, e, k4⟩ := h
      exact ⟨⟨k1.below hb, k2.below hb, k3.below hb⟩, g1, e, k4.below hb⟩
     | [_, _, z2], h =>
      obtain ⟨ra, rc, e, k1, k2, k3, k4⟩ := h
      exact ⟨ra, rc, e, k1.below hb, k2.below hb, k3.below hb, k4⟩
     | [_, _, _, _], h =>
      obtain ⟨ra, rc, k1, k2, k3, k4⟩ := h
      exact ⟨ra, rc, k1.below hb, k2.below hb, k3.below hb, k4⟩
    have hb9 : Below w0.heap.size w0 w32 := hb33
    have hc38 := bkeeps hb33 _ _ hca0
    obtain ⟨b39, o40, A41, C42, ha43, hc44⟩ := IsTs.open hl
    refine WC.seqV (S := ((fun q => Z9 q ∨ q = g16 ∨ obk x.2.1 x.1 x.2.2 = some q))) [(true, .val (.pointer (some ⟨g16, 1, none⟩))), (true, .val (.slice x.2.1 x.1 x.2.2)), (true, .val (.pointer (some ⟨g, 0, none⟩))), (true, .val (.pointer (some ⟨b, o, none⟩))), (true, .val (.pointer (some ⟨b, o, none⟩))), (true, .val (.pointer (some ⟨b, o + 1, none⟩))), (true, .val (.slice a l.length c)), (true, .val (.int .i64 (((x.1 : Nat) : Int)))), (true, .val (.pointer (some ⟨b39, o40 + x.1 * 2, none⟩))), (true, .val undef), (true, .val undef), (true, .val undef), (true, .val (.pointer (some ⟨g16, 1, none⟩))), (true, .val undef)] [(0, .pointer (some ⟨g, 0, none⟩)), (1, .pointer (some ⟨b, o, none⟩)), (4, .int .i64 0), (6, .pointer (some ⟨g16, 0, none⟩)), (7, .int .i64 (((x.1 : Nat) : Int))), (12, .bool ((decide ((f : Int) < (0 : Int))))), (51, .int .i64 (((l.length : Nat) : Int))), (52, .int .i64 (((x.1 : Nat) : Int))), (53, .bool ((decide ((((x.1 : Nat) : Int) : Int) < (((l.length : Nat) : Int) : Int)))))] [9, 10, 11, 13] [some (true, .int .i64 (((((tget l x.1).put (T.putL (l.take x.1) st).1).2 : Nat) : Int))), none, none, none] (fun vals wz => match vals with | [] => (NetX wz g Z9 U9 (T.putL (l.take x.1) st).1.N (T.putL (l.take x.1) st).1.V) ∧ (Blk wz g16 57 #[.int .i64 f, .slice x.2.1 x.1 x.2.2]) ∧ RowD eltN (fun _ => False) wz 3 x.2.1 x.2.2 x.1 ((T.putL (l.take x.1) st).2) | [_] => (NetJ wz w.heap.size Z κ d g ((tget l x.1).put (T.putL (l.take x.1) st).1).1.N ((tget l x.1).put (T.putL (l.take x.1) st).1).1.V (fun q => q = g16 ∨ obk x.2.1 x.1 x.2.2 = some q)) ∧ (Blk wz g16 57 #[.int .i64 f, .slice x.2.1 x.1 x.2.2]) ∧ RowD eltN (fun _ => False) wz 3 x.2.1 x.2.2 x.1 ((T.putL (l.take x.1) st).2) | [_, z1] => ((NetJ wz w.heap.size Z κ d g ((tget l x.1).put (T.putL (l.take x.1) st).1).1.N ((tget l x.1).put (T.putL (l.take x.1) st).1).1.V (fun q => q = g16 ∨ obk x.2.1 x.1 x.2.2 = some q)) ∧ (Blk wz g16 57 #[.int .i64 f, .slice x.2.1 x.1 x.2.2]) ∧ RowD eltN (fun _ => False) wz 3 x.2.1 x.2.2 x.1 ((T.putL (l.take x.1) st).2)) ∧ ∃ g1, z1 = .slice (some ⟨g1, 0, none⟩) 1 1 ∧ Blk wz g1 3 #[.int .i64 ((((tget l x.1).put (T.putL (l.take x.1) st).1).2 : Nat) : Int)] | [_, _, z2] => ∃ ra rc, z2 = .slice ra (x.1 + 1) rc ∧ (NetJ wz w.heap.size Z κ d g ((tget l x.1).put (T.putL (l.take x.1) st).1).1.N ((tget l x.1).put (T.putL (l.take x.1) st).1).1.V (fun q => q = g16 ∨ obk ra ((x.1 + 1)) rc = some q)) ∧ (Blk wz g16 57 #[.int .i64 f, .slice x.2.1 x.1 x.2.2]) ∧ (RowD eltN (fun _ => False) wz 3 ra rc ((x.1 + 1)) (((T.putL (l.take x.1) st).2 ++ [((tget l x.1).put (T.putL (l.take x.1) st).1).2]))) ∧ (∀ q, obk ra (x.1 + 1) rc = some q → w.heap.size ≤ q) | [_, _, _, _] => ∃ ra rc, (NetJ wz w.heap.size Z κ d g ((tget l x.1).put (T.putL (l.take x.1) st).1).1.N ((tget l x.1).put (T.putL (l.take x.1) st).1).1.V (fun q => q = g16 ∨ obk ra ((x.1 + 1)) rc = some q)) ∧ (Blk wz g16 57 #[.int .i64 f, .slice ra (x.1 + 1) rc]) ∧ (RowD eltN (fun _ => False) wz 3 ra rc ((x.1 + 1)) (((T.putL (l.take x.1) st).2 ++ [((tget l x.1).put (T.putL (l.take x.1) st).1).2]))) ∧ (∀ q, obk ra (x.1 + 1) rc = some q → w.heap.size ≤ q) | _ => False) hG10 (by decide) ⟨rfl, rfl, rfl, rfl, rfl, rfl, rfl, rfl, rfl, trivial⟩ (by kernel_rfl) (by kernel_rfl) (by kernel_rfl) (by kernel_rfl) (⟨hN9, hB34, ho36⟩) ?_ ?_
    ·refine ⟨.inl ⟨rfl, true, .none rfl, (fun gg b h => by cases h), fun h w => optUndef h, fun zβ za zw zc => ?_⟩, ?_⟩
     ·exact fld_57_1 rfl (zc.kn.ev rfl) ⟨_, rfl, Below.refl _ _, optDef zβ rfl⟩
     refine ⟨.inl ⟨rfl, true, .none rfl, (fun gg b h => by cases h), fun h w => optUndef h, fun zβ za zw zc => ?_⟩, ?_⟩
     ·obtain ⟨vals, hle, hgv, _⟩ := zc.early 2 11 rfl (by kernel_rfl)
      have zc0 : zw.cell? ⟨g16, 1, none⟩ = some (.slice x.2.1 x.1 x.2.2) := by
       match vals, hle, hgv with
       | [], _, hg => exact (hg.2.1.cell 1).trans rfl
       | [_], _, hg => exact (hg.2.1.cell 1).trans rfl
       | [_, _], _, hg => exact (hg.1.2.1.cell 1).trans rfl
      exact ld_48 rfl ((evt za 55).trans (optSVal (zc.dep 0 55 (by kernel_rfl) (by decide)) rfl rfl)) zc0 ⟨_, rfl, Below.refl _ _, optDef zβ rfl⟩
     refine ⟨.inl ⟨rfl, true, .none rfl, (fun gg b h => by cases h), fun h w => optUndef h, fun zβ za zw zc => ?_⟩, ?_⟩
     ·exact wp_move rfl (zc.kn.ev rfl) ⟨_, rfl, Below.refl _ _, optDef zβ rfl⟩
     refine ⟨.inl ⟨rfl, true, .none rfl, (fun gg b h => by cases h), fun h w => optUndef h, fun zβ za zw zc => ?_⟩, ?_⟩
     ·exact wp_move rfl (zc.kn.ev rfl) ⟨_, rfl, Below.refl _ _, optDef zβ rfl⟩
     refine ⟨.inl ⟨rfl, true, .none rfl, (fun gg b h => by cases h), fun h w => optUndef h, fun zβ za zw zc => ?_⟩, ?_⟩
     ·exact nilCheck_ rfl ((evt za 58).trans (optSVal (zc.dep 3 58 (by kernel_rfl) (by decide)) rfl rfl)) ⟨_, rfl, Below.refl _ _, optDef zβ rfl⟩
     refine ⟨.inl ⟨rfl, true, .none rfl, (fun gg b h => by cases h), fun h w => optUndef h, fun zβ za zw zc => ?_⟩, ?_⟩
     ·exact fld_32_1 rfl ((evt za 59).trans (optSVal (zc.dep 4 59 (by kernel_rfl) (by decide)) rfl rfl)) ⟨_, rfl, Below.refl _ _, optDef zβ rfl⟩
     refine ⟨.inl ⟨rfl, true, .none rfl, (fun gg b h => by cases h), fun h w => optUndef h, fun zβ za zw zc => ?_⟩, ?_⟩
     ·exact ld_30 rfl ((evt za 60).trans (optSVal (zc.dep 5 60 (by kernel_rfl) (by decide)) rfl rfl)) (chg_cell zc.chg (by intro h9; rcases h9 with h9 | h9 | h9; (have z := hZ90 _ h9; omega); omega; exact hown9 _ h9 hblt) hc38) ⟨_, rfl, Below.refl _ _, optDef zβ rfl⟩
     refine ⟨.inl ⟨rfl, true, .none rfl, (fun gg b h => by cases h), fun h w => optUndef h, fun zβ za zw zc => ?_⟩, ?_⟩
     ·exact wp_move rfl (zc.kn.ev rfl) ⟨_, rfl, Below.refl _ _, optDef zβ rfl⟩
     refine ⟨.inl ⟨rfl, true, .none rfl, (fun gg b h => by cases h), fun h w => optUndef h, fun zβ za zw zc => ?_⟩, ?_⟩
     ·exact ix_30 (k := x.1) rfl ((evt za 61).trans (optSVal (zc.dep 6 61 (by kernel_rfl) (by decide)) rfl rfl)) (ha43 x.1 (by first | omega | (simp; omega))) ((evt za 62).trans (optSVal (zc.dep 7 62 (by kernel_rfl) (by decide)) rfl rfl)) (by first | omega | (simp; omega)) ⟨_, rfl, Below.refl _ _, optDef zβ rfl⟩
     refine ⟨.inr ⟨0, rfl, by kernel_rfl, true, .none rfl, (fun gg b h => by cases h), (fun h => (nomatch h)), fun zβ za zw zvals zc => ?_⟩, ?_⟩
     ·obtain rfl := vlen0 zc.len
      have zn := zc.now
      obtain ⟨k1, k2, k3⟩ := zn
      have hbz := chg_below hb9 zc.chg (fun q hq h9 => by rcases h9 with h9 | h9 | h9; (have z := hZ90 q h9; omega); (have z := hb0.size; omega); exact hown9 q h9 hq)
      exact wp_call (by kernel_rfl) rfl (hv2 ((evt za 57).trans (optSVal (zc.dep 2 57 (by kernel_rfl) (by decide)) rfl rfl)) ((evt za 63).trans (optSVal (zc.dep 8 63 (by kernel_rfl) (by decide)) rfl rfl))) (ih _ hmem9 (T.putL (l.take x.1) st).1 U9 Z9 _ b39 (o40 + x.1 * 2) _ _ hpo.ok k1 hR9 (fun i hi => hκ i (by omega)) (by omega) (hlowL _ hmem9) hbz hZ90 (hc44 x.1 (by first | omega | (simp; omega))).1 (hc44 x.1 (by first | omega | (simp; omega))).2.1 (hc44 x.1 (by first | omega | (simp; omega))).2.2) (fun v w' h => by obtain ⟨m1, ⟨U8, Z8, m2, m3, m4, m5⟩, m6⟩ := h; exact ⟨v, rfl, m6.mono (fun q h9 => .inl h9), ⟨⟨U8, Z8, m2, m3, fun q h9 => by rcases m4 q h9 with z | z; exact hZ9 q z; exact .inr (by have z2 := zc.chg.size; omega), fun q h9 h8 => by rcases m4 q h8 with z | z; exact hX9 q h9 z; (have z2 := zc.chg.size; rcases h9 with h9 | h9; omega; (have z3 := hrlt q h9; omega))⟩, chg_blk k2 m6 (fun q => hX9 _ (.inl rfl) q), k3.chg m6 (fun q h9 h8 => hX9 q (.inr h9) h8) (fun q h9 => h9.elim)⟩, cvIs m1⟩)
     refine ⟨.inr ⟨1, rfl, by kernel_rfl, true, .none rfl, (fun gg b h => by cases h), (fun h => (nomatch h)), fun zβ za zw zvals zc => ?_⟩, ?_⟩
     ·obtain ⟨z0, rfl⟩ := vlen1 zc.len
      have zn := zc.now
      exact row_48_1 rfl ((evt za 64).trans (zc.link 0 9 64 _ _ rfl (by kernel_rfl) rfl rfl)) ⟨_, rfl, .ofBelow (balloc _ _), ⟨⟨zn.1.below (balloc _ _), zn.2.1.below (balloc _ _), zn.2.2.below (balloc _ _)⟩, _, rfl, Blk.new' rfl⟩, cvNo⟩
     refine ⟨.inr ⟨2, rfl, by kernel_rfl, true, .none rfl, (fun gg b h => by cases h), (fun h => (nomatch h)), fun zβ za zw zvals zc => ?_⟩, ?_⟩
     ·obtain ⟨z0, z1, rfl⟩ := vlen2 zc.len
      have zn := zc.now
      obtain ⟨⟨k1, k2, k3⟩, g1, e, k4⟩ := zn
      have e1 : z1 = za.tmps.getD 65 undef := Option.some.inj (zc.val 1 10 65 rfl (by kernel_rfl))
      exact wp_appD (E := eltN) (y := ((tget l x.1).put (T.putL (l.take x.1) st).1).2) (S2 := fun _ => False) (size := 1) (bytes := 8) (z := .int .i64 0) rfl Try.underlying48 (by kernel_rfl) rfl (by decide) rfl ((evt za 56).trans (optSVal (zc.dep 1 56 (by kernel_rfl) (by decide)) rfl rfl)) ((evt za 65).trans (e1.symm.trans e)) k3 k4 rfl (fun b q => q.elim) (by omega) (by omega) (fun ra rc w' h1 h2 h3 => ⟨_, rfl, h2.mono (fun b q => .inr (.inr q)), ⟨ra, rc, rfl, ((k1.avoid (X2 := fun q => (q = g16 ∨ obk x.2.1 x.1 x.2.2 = some q) ∨ zw.heap.size ≤ q) (fun q h9 => h9)).chg h2 (fun q h9 => .inl (.inr h9))).avoid (fun q h9 => .inl (by rcases h9 with h9 | h9; exact .inl (.inl h9); exact (h3 q h9).imp .inr id)), chg_blk k2 h2 (fun h9 => hrne _ h9 rfl), h1.mono (fun b q _ => by rcases q.1 with q | q <;> exact q) (fun b q => q.elim), fun q h9 => by rcases h3 q h9 with z | z; exact hownw q z; (have z2 := zc.chg.size; omega)⟩, cvNo⟩)
     refine ⟨.inl ⟨rfl, true, .none rfl, (fun gg b h => by cases h), fun h w => optUndef h, fun zβ za zw zc => ?_⟩, ?_⟩
     ·exact fld_57_1 rfl (zc.kn.ev rfl) ⟨_, rfl, Below.refl _ _, optDef zβ rfl⟩
     refine ⟨.inr ⟨3, rfl, by kernel_rfl, true, .none rfl, (fun gg b h => by cases h), (fun h => (nomatch h)), fun zβ za zw zvals zc => ?_⟩, ?_⟩
     ·obtain ⟨z0, z1, z2, rfl⟩ := vlen3 zc.len
      have zn := zc.now
      obtain ⟨ra, rc, e, k1, k2, k3, k9⟩ := zn
      have e2 : z2 = za.tmps.getD 66 undef := Option.some.inj (zc.val 2 11 66 rfl (by kernel_rfl))
      have hne6 : ∀ q, obk ra (x.1 + 1) rc = some q → q ≠ g16 := fun q h9 e9 => (RowD.neBlk k3 k2 (by decide)) (e9 ▸ h9)
      exact st_48 rfl ((evt za 67).trans (optSVal (zc.dep 12 67 (by kernel_rfl) (by decide)) rfl rfl)) ((evt za 66).trans (e2.symm.trans e)) k2 (by first | decide | simp) (fun v => ⟨v, rfl, .ofUpd (Upd.at_ _ _ _ _) (.inr (.inl rfl)), ⟨ra, rc, k1.upd (Upd.at_ _ _ _ _) (.inl rfl), k2.set_ 1 _, k3.chg (Z := fun q => q = g16) (.ofUpd (Upd.at_ _ _ _ _) rfl) (fun q h9 e9 => hne6 q h9 e9) (fun q h9 => h9.elim), k9⟩, cvNo⟩)
     exact trivial
    ·intro za w45 zvals zh zl hG46 hc47 zu zw zk
     obtain ⟨z0, z1, z2, z3, rfl⟩ := vlen4 zl
     obtain ⟨ra9, rc9, kn9, kb9, kr9, hown99⟩ := hG46
     have hC48 : Chg Z w w45 := chg_fresh hCx hc47 (fun q h9 => by rcases h9 with h9 | h9 | h9; exact hZ9 q h9; (right; omega); exact .inr (hownw q h9))
     have hb49 := chg_below hb9 hc47 (fun q hq h9 => by rcases h9 with h9 | h9 | h9; (have z := hZ90 q h9; omega); (have z := hb0.size; omega); exact hown9 q h9 hq)
     clear zu zw zk
     refine WE.go zh ?_
     refine WE.blockNormal (WE.next (WC.region ?_))
     refine WL.val (.int .i64 ((((x.1 + 1) : Nat) : Int))) rfl rfl rfl (fun za zC zh zk => addb_3 rfl (zh.ev rfl) (zh.ev rfl) (wrap_eq (by omega) (by omega) (by omega)) zk) ?_
     refine WL.mv rfl rfl rfl rfl rfl (WL.nil ?_)
     refine WE.round ((x.1 + 1, ra9, rc9)) ⟨rfl, rfl, rfl, rfl, rfl, rfl, rfl, trivial⟩ ?_ ?_
     ·exact ⟨by (try dsimp only); omega, hC48, hown99, hb49, kb9, (by dsimp only; rw [putL_take (by omega)]; exact kn9), (by dsimp only; rw [putL_take (by omega)]; exact kr9)⟩
     ·(try dsimp only); omega
   ·have h37 : ¬ ((((x.1 : Nat) : Int) : Int) < (((l.length : Nat) : Int) : Int)) := by simpa using h37
    refine WC.exit (WE.thenExit (WE.thenExit (WE.blockIs rfl (WE.next (WC.seq ?_)))))
    have hx1 : x.1 = l.length := by omega
    obtain ⟨U9, Z9, hR9, hN9, hZ9, hX9⟩ := ho35
    have hwW : w.heap.size ≤ w32.heap.size := hCx.size
    have hrlt := ho36.lt
    have hZ90 : ∀ q, Z9 q → w0.heap.size ≤ q := fun q h9 => by rcases hZ9 q h9 with z | z; exact hZ0 q z; (have z2 := hb0.size; omega)
    have hG12 : ∀ (vals : List Value) (wa wb : World), Below wa.heap.size wa wb → (fun vals wz => match vals with | [] => (NetX wz g Z9 U9 (T.putL (l.take x.1) st).1.N (T.putL (l.take x.1) st).1.V) ∧ RowD eltN (fun _ => False) wz 3 x.2.1 x.2.2 x.1 ((T.putL (l.take x.1) st).2) | [_] => NetJ wz w.heap.size Z κ d g (((T.putL (l.take x.1) st).1.N ++ [⟨f, (T.putL (l.take x.1) st).2⟩])) ((T.putL (l.take x.1) st).1.V) (fun _ => False) | _ => False) vals wa → (fun vals wz => match vals with | [] => (NetX wz g Z9 U9 (T.putL (l.take x.1) st).1.N (T.putL (l.take x.1) st).1.V) ∧ RowD eltN (fun _ => False) wz 3 x.2.1 x.2.2 x.1 ((T.putL (l.take x.1) st).2) | [_] => NetJ wz w.heap.size Z κ d g (((T.putL (l.take x.1) st).1.N ++ [⟨f, (T.putL (l.take x.1) st).2⟩])) ((T.putL (l.take x.1) st).1.V) (fun _ => False) | _ => False) vals wb := by
     intro vals wa wb hb h
     match vals, h with
     | [], h => exact ⟨h.1.below hb, h.2.below hb⟩
     | [_], h => exact NetJ.below h hb
    have hb9 : Below w0.heap.size w0 w32 := hb33
    refine WC.seqV (S := Z9) [(true, .val (.pointer (some ⟨g, 0, none⟩))), (true, .val (.pointer (some ⟨g, 0, none⟩))), (true, .val (.pointer (some ⟨g, 0, none⟩))), (true, .val (.agg #[.int .i64 f, .slice x.2.1 x.1 x.2.2])), (true, .val undef), (true, .val (.int .i64 (((((T.putL (l.take x.1) st).1.N).length : Nat) : Int))))] [(0, .pointer (some ⟨g, 0, none⟩)), (1, .pointer (some ⟨b, o, none⟩)), (6, .pointer (some ⟨g16, 0, none⟩)), (12, .bool ((decide ((f : Int) < (0 : Int))))), (51, .int .i64 (((l.length : Nat) : Int))), (52, .int .i64 (((x.1 : Nat) : Int))), (53, .bool ((decide ((((x.1 : Nat) : Int) : Int) < (((l.length : Nat) : Int) : Int)))))] [4] [some (true, .int .i64 (((((T.putL (l.take x.1) st).1.N).length : Nat) : Int)))] (fun vals wz => match vals with | [] => (NetX wz g Z9 U9 (T.putL (l.take x.1) st).1.N (T.putL (l.take x.1) st).1.V) ∧ RowD eltN (fun _ => False) wz 3 x.2.1 x.2.2 x.1 ((T.putL (l.take x.1) st).2) | [_] => NetJ wz w.heap.size Z κ d g (((T.putL (l.take x.1) st).1.N ++ [⟨f, (T.putL (l.take x.1) st).2⟩])) ((T.putL (l.take x.1) st).1.V) (fun _ => False) | _ => False) hG12 (by decide) ⟨rfl, rfl, rfl, rfl, rfl, rfl, rfl, trivial⟩ (by kernel_rfl) (by kernel_rfl) (by kernel_rfl) (by kernel_rfl) (⟨hN9, ho36⟩) ?_ ?_
    ·refine ⟨.inl ⟨rfl, true, .none rfl, (fun gg b h => by cases h), fun h w => optUndef h, fun zβ za zw zc => ?_⟩, ?_⟩
     ·exact wp_move rfl (zc.kn.ev rfl) ⟨_, rfl, Below.refl _ _, optDef zβ rfl⟩
     refine ⟨.inl ⟨rfl, true, .none rfl, (fun gg b h => by cases h), fun h w => optUndef h, fun zβ za zw zc => ?_⟩, ?_⟩
     ·exact nilCheck_ rfl ((evt za 69).trans (optSVal (zc.dep 0 69 (by kernel_rfl) (by decide)) rfl rfl)) ⟨_, rfl, Below.refl _ _, optDef zβ rfl⟩
     refine ⟨.inl ⟨rfl, true, .none rfl, (fun gg b h => by cases h), fun h w => optUndef h, fun zβ za zw zc => ?_⟩, ?_⟩
     ·exact fld_54_0 rfl ((evt za 70).trans (optSVal (zc.dep 1 70 (by kernel_rfl) (by decide)) rfl rfl)) ⟨_, rfl, Below.refl _ _, optDef zβ rfl⟩
     refine ⟨.inl ⟨rfl, true, .none rfl, (fun gg b h => by cases h), fun h w => optUndef h, fun zβ za zw zc => ?_⟩, ?_⟩
     ·exact ld_57 rfl (zc.kn.ev rfl) (chg_cell zc.chg (by intro h9; have z := hZ9 _ h9; (try dsimp only at *); exact hX9 _ (.inl rfl) h9) ((hB34.cell 0).trans rfl)) (chg_cell zc.chg (by intro h9; have z := hZ9 _ h9; (try dsimp only at *); exact hX9 _ (.inl rfl) h9) ((hB34.cell 1).trans rfl)) ⟨_, rfl, Below.refl _ _, optDef zβ rfl⟩
     refine ⟨.inr ⟨0, rfl, by kernel_rfl, true, .none rfl, (fun gg b h => by cases h), (fun h => (nomatch h)), fun zβ za zw zvals zc => ?_⟩, ?_⟩
     ·obtain rfl := vlen0 zc.len
      have zn := zc.now
      have hlt9 : ∀ q, obk x.2.1 x.1 x.2.2 = some q → q < zw.heap.size := zn.2.lt
      have hk9 := padd_any U9 _ _ g Z9 (fun q => obk x.2.1 x.1 x.2.2 = some q) ⟨f, (T.putL (l.take x.1) st).2⟩ x.2.1 x.2.2 _ zn.1 zn.2.inRowOwn (fun q h9 => ⟨hX9 q (.inr h9), hlt9 q h9⟩) (by omega)
      rw [show (Pt.mk f (T.putL (l.take x.1) st).2).args.length = x.1 from hlk] at hk9
      exact wp_call (by kernel_rfl) rfl (hv2 ((evt za 71).trans (optSVal (zc.dep 2 71 (by kernel_rfl) (by decide)) rfl rfl)) ((evt za 72).trans (optSVal (zc.dep 3 72 (by kernel_rfl) (by decide)) rfl rfl))) hk9 (fun v w' h => by obtain ⟨k1, ⟨Z', k2, k3⟩, k4⟩ := h; exact ⟨v, rfl, k4, ⟨_, Z', by rw [← hN9.len]; exact hR9.push (by rw [hN9.len]; exact fun i hi => hκ i (by omega)), k2, fun q h9 => by rcases k3 q h9 with z | z | z; exact hZ9 q z; exact .inr (hownw q z); exact .inr (by have z2 := zc.chg.size; omega), fun b q => q.elim⟩, cvIs k1⟩)
     refine ⟨.inl ⟨rfl, true, .none rfl, (fun gg b h => by cases h), fun h w => optUndef h, fun zβ za zw zc => ?_⟩, ?_⟩
     ·exact wp_assign rfl ((evt za 73).trans (zc.link 0 4 73 _ _ rfl (by kernel_rfl) rfl rfl)) ⟨_, rfl, Below.refl _ _, optDef zβ rfl⟩
     exact trivial
    ·intro za w50 zvals zh zl hG51 hc52 zu zw zk
     obtain ⟨z0, rfl⟩ := vlen1 zl
     have zh := zh.cons (d := 4) (v := .int .i64 (((((T.putL (l.take x.1) st).1.N).length : Nat) : Int))) (optSVal (zu 5 4 (by kernel_rfl) (by decide)) rfl rfl)
     have hC53 : Chg Z w w50 := chg_fresh hCx hc52 (fun q h9 => hZ9 q h9)
     have hb54 := chg_below hb9 hc52 (fun q hq h9 => by have z := hZ90 q h9; omega)
     clear zu zw zk
     refine WE.go zh ?_
     refine WE.next (WC.ret (WE.ret1 rfl rfl ?_))
     have e : (T.mk f l).put st = (⟨(T.putL (l.take x.1) st).1.N ++ [⟨f, (T.putL (l.take x.1) st).2⟩], (T.putL (l.take x.1) st).1.V⟩, ((T.putL (l.take x.1) st).1.N).length) := by
      rw [hx1, List.take_length, T.put, if_neg hf0]
     rw [e]
     exact ⟨_, rfl, rfl, hG51, hC53⟩
end Go.Proofs.Ythhgidliopohcaa

/- A term is put into the net: the document's program. -/
namespace Go.Proofs.Ythhgidliopohcaa
open Go.RowKit Go
set_option linter.unusedVariables false
set_option linter.unusedSimpArgs false
set_option maxRecDepth 100000 in
theorem radd_any (w0 : World) (κ d : Nat → Nat) (g : Nat) : ∀ (t : T) (st : NS) (U : List Nat) (Z : Nat → Prop) (w : World) (v : Value), NetOk st → RX w g Z U st.N st.V → Reps U κ d → (∀ i, st.N.length ≤ i → κ i = i) → st.N.length + t.size ≤ 1048576 → t.low 96 = true → Below w0.heap.size w0 w → (∀ b, Z b → w0.heap.size ≤ b) → IsT w0 t v →
  Calls Try.prog 46 #[.pointer (some ⟨g, 0, none⟩), v] w (Ret fun v' w' => v' = .int .i64 (((t.put st).2 : Nat) : Int) ∧ RJ w' w.heap.size Z κ d g (t.put st).1.N (t.put st).1.V (fun _ => False) ∧ Chg Z w w') := by
 refine T.ind (fun f l ih => ?_)
 intro st U Z w v hst hN hR hκ hsz hlow hb0 hZ0 hv
 have hlen := len_le_sizeL l
 have hz' := hsz
 simp only [T.size] at hz'
 obtain ⟨hfI, a, c, rfl, hlc, hcm, hl⟩ := hv
 unfold I64 at hfI
 have hgZ : Z g := hN.hg
 have hZl := hN.lt
 have hUl := hN.len
 have hlow' := hlow
 rw [T.low] at hlow'
 have hf96 : f < 0 → -96 ≤ f ∧ l = [] := fun q => by rw [if_pos q] at hlow'; simp at hlow'; exact ⟨by omega, hlow'.2⟩
 have hv9 : f < 0 → vnum f < 96 ∧ ((vnum f : Nat) : Int) = -1 - f := fun q => vnum_lt q (hf96 q).1
 have hvV := hst.vars (vnum f)
 have hC0 := Chg.refl Z w
 have hN0 := hN
 obtain ⟨S9, la9, lc9, ua9, uc9, vb9, vc9, hP9, _, hRZ9, _⟩ := hN0
 refine Calls.walk (l := [.pointer (some ⟨g, 0, none⟩), .agg #[.int .i64 f, .slice a l.length c]]) Try.func46 rfl (by kernel_rfl) ?_
 refine WC.sub (K' := [(0, .pointer (some ⟨g, 0, none⟩)), (1, .agg #[.int .i64 f, .slice a l.length c])]) ⟨rfl, rfl, trivial⟩ ?_
 refine WC.seq (WC.region ?_)
 refine WL.step (post := NewBlk w 32 #[.int .i64 f, .slice a l.length c]) rfl rfl rfl (fun za zC zh zk => box_32 rfl (zh.ev rfl) (zk _ _ (newBlk _ _ _))) ?_
 rintro _ w1 ⟨g2, rfl, hg3, hB4, hb5, hz6⟩
 have hl7 : w0.heap.size ≤ g2 := by have z2 := (hb0).size; omega
 have hl8 : w.heap.size ≤ g2 := by omega
 refine WL.asg rfl rfl rfl rfl rfl (WL.nil (WE.next (WC.seq (WC.seq ?_))))
 have ho9 := hP9.below hb5
 refine WC.opt [(true, .val (.pointer (some ⟨g2, 0, none⟩))), (true, .val (.int .i64 f)), (true, .val (.bool ((decide ((f : Int) < (0 : Int)))))), (true, .val (.bool ((decide ((f : Int) < (0 : Int)))))), ((true && (decide ((f : Int) < (0 : Int)))), .val (.pointer (some ⟨g, 0, none⟩))), ((true && (decide ((f : Int) < (0 : Int)))), .val (.pointer (some ⟨g, 0, none⟩))), ((true && (decide ((f : Int) < (0 : Int)))), .val (.pointer (some ⟨g, 2, none⟩))), ((true && (decide ((f : Int) < (0 : Int)))), .val (.slice ((some ⟨vb9, 0, none⟩)) 96 vc9)), ((true && (decide ((f : Int) < (0 : Int)))), .val (.pointer (some ⟨g2, 0, none⟩))), ((true && (decide ((f : Int) < (0 : Int)))), .val (.int .i64 f)), ((true && (decide ((f : Int) < (0 : Int)))), .val (.int .i64 ((((vnum f) : Nat) : Int)))), ((true && (decide ((f : Int) < (0 : Int)))), .val (.pointer (some ⟨vb9, 0 + (vnum f), none⟩))), ((true && (decide ((f : Int) < (0 : Int)))), .val (.int .i64 (((st.V (vnum f) : Int) - 1)))), ((true && (decide ((f : Int) < (0 : Int)))), .val (.bool ((decide ((0 : Int) ≤ (((st.V (vnum f) : Int) - 1) : Int)))))), (true, .val (.bool (((decide ((f : Int) < (0 : Int))) && (decide ((0 : Int) ≤ (((st.V (vnum f) : Int) - 1) : Int)))))))] [(0, .pointer (some ⟨g, 0, none⟩)), (1, .agg #[.int .i64 f, .slice a l.length c]), (3, .pointer (some ⟨g2, 0, none⟩)), (4, .int .i64 0)] ⟨rfl, rfl, rfl, rfl, trivial⟩ (by kernel_rfl) (by kernel_rfl) (by kernel_rfl) ?_ ?_
 ·refine ⟨⟨true, .none rfl, fun h w => optUndef h, fun zβ za zw zc => ?_⟩, ?_⟩
  ·exact fld_32_0 rfl (zc.kn.ev rfl) ⟨_, rfl, Below.refl _ _, optDef zβ rfl⟩
  refine ⟨⟨true, .none rfl, fun h w => optUndef h, fun zβ za zw zc => ?_⟩, ?_⟩
  ·exact ld_3 rfl ((evt za 7).trans (optVal (zc.dep 0 7 (by kernel_rfl)) rfl rfl)) (bkeeps zc.below _ _ ((hB4.cell 0).trans rfl)) ⟨_, rfl, Below.refl _ _, optDef zβ rfl⟩
  refine ⟨⟨true, .none rfl, fun h w => optUndef h, fun zβ za zw zc => ?_⟩, ?_⟩
  ·exact lss_3 rfl ((evt za 8).trans (optVal (zc.dep 1 8 (by kernel_rfl)) rfl rfl)) (zc.kn.ev rfl) ⟨_, rfl, Below.refl _ _, optDef zβ rfl⟩
  refine ⟨⟨true, .none rfl, fun h w => optUndef h, fun zβ za zw zc => ?_⟩, ?_⟩
  ·exact wp_move rfl ((evt za 9).trans (optVal (zc.dep 2 9 (by kernel_rfl)) rfl rfl)) ⟨_, rfl, Below.refl _ _, optDef zβ rfl⟩
  refine ⟨⟨_, .yes (c := (decide ((f : Int) < (0 : Int)))) (d := true) rfl (fun v w h => h), fun h w => optUndef h, fun zβ za zw zc => ?_⟩, ?_⟩
  ·exact wp_move rfl (zc.kn.ev rfl) ⟨_, rfl, Below.refl _ _, optDef zβ rfl⟩
  refine ⟨⟨_, .yes (c := (decide ((f : Int) < (0 : Int)))) (d := true) rfl (fun v w h => h), fun h w => optUndef h, fun zβ za zw zc => ?_⟩, ?_⟩
  ·exact nilCheck_ rfl ((evt za 11).trans (optVal (zc.dep 4 11 (by kernel_rfl)) rfl zβ)) ⟨_, rfl, Below.refl _ _, optDef zβ rfl⟩
  refine ⟨⟨_, .yes (c := (decide ((f : Int) < (0 : Int)))) (d := true) rfl (fun v w h => h), fun h w => optUndef h, fun zβ za zw zc => ?_⟩, ?_⟩
  ·exact fld_67_2 rfl ((evt za 12).trans (optVal (zc.dep 5 12 (by kernel_rfl)) rfl zβ)) ⟨_, rfl, Below.refl _ _, optDef zβ rfl⟩
  refine ⟨⟨_, .yes (c := (decide ((f : Int) < (0 : Int)))) (d := true) rfl (fun v w h => h), fun h w => optUndef h, fun zβ za zw zc => ?_⟩, ?_⟩
  ·exact ld_48 rfl ((evt za 13).trans (optVal (zc.dep 6 13 (by kernel_rfl)) rfl zβ)) (bkeeps zc.below _ _ ho9.c2) ⟨_, rfl, Below.refl _ _, optDef zβ rfl⟩
  refine ⟨⟨_, .yes (c := (decide ((f : Int) < (0 : Int)))) (d := true) rfl (fun v w h => h), fun h w => optUndef h, fun zβ za zw zc => ?_⟩, ?_⟩
  ·exact fld_32_0 rfl (zc.kn.ev rfl) ⟨_, rfl, Below.refl _ _, optDef zβ rfl⟩
  refine ⟨⟨_, .yes (c := (decide ((f : Int) < (0 : Int)))) (d := true) rfl (fun v w h => h), fun h w => optUndef h, fun zβ za zw zc => ?_⟩, ?_⟩
  ·exact ld_3 rfl ((evt za 15).trans (optVal (zc.dep 8 15 (by kernel_rfl)) rfl zβ)) (bkeeps zc.below _ _ ((hB4.cell 0).trans rfl)) ⟨_, rfl, Below.refl _ _, optDef zβ rfl⟩
  refine ⟨⟨_, .yes (c := (decide ((f : Int) < (0 : Int)))) (d := true) rfl (fun v w h => h), fun h w => optUndef h, fun zβ za zw zc => ?_⟩, ?_⟩
  ·exact subb_3 rfl (zc.kn.ev rfl) ((evt za 16).trans (optVal (zc.dep 9 16 (by kernel_rfl)) rfl zβ)) (wrap_eq (by have zz := zβ; simp only [Bool.true_and, Bool.and_eq_true, decide_eq_true_eq] at zz; have z := hv9 zz; omega) (by have zz := zβ; simp only [Bool.true_and, Bool.and_eq_true, decide_eq_true_eq] at zz; have z := hv9 zz; omega) (by have zz := zβ; simp only [Bool.true_and, Bool.and_eq_true, decide_eq_true_eq] at zz; have z := hv9 zz; omega)) ⟨_, rfl, Below.refl _ _, optDef zβ rfl⟩
  refine ⟨⟨_, .yes (c := (decide ((f : Int) < (0 : Int)))) (d := true) rfl (fun v w h => h), fun h w => optUndef h, fun zβ za zw zc => ?_⟩, ?_⟩
  ·exact ix_48 (k := vnum f) rfl ((evt za 14).trans (optVal (zc.dep 7 14 (by kernel_rfl)) rfl zβ)) rfl ((evt za 17).trans (optVal (zc.dep 10 17 (by kernel_rfl)) rfl zβ)) (by have zz := zβ; simp only [Bool.true_and, Bool.and_eq_true, decide_eq_true_eq] at zz; have z := hv9 zz; exact z.1) ⟨_, rfl, Below.refl _ _, optDef zβ rfl⟩
  refine ⟨⟨_, .yes (c := (decide ((f : Int) < (0 : Int)))) (d := true) rfl (fun v w h => h), fun h w => optUndef h, fun zβ za zw zc => ?_⟩, ?_⟩
  ·exact ld_3 rfl ((evt za 18).trans (optVal (zc.dep 11 18 (by kernel_rfl)) rfl zβ)) (bkeeps zc.below _ _ (PR.of ho9 |>.cell (by have zz := zβ; simp only [Bool.true_and, Bool.and_eq_true, decide_eq_true_eq] at zz; have z := hv9 zz; exact z.1))) ⟨_, rfl, Below.refl _ _, optDef zβ rfl⟩
  refine ⟨⟨_, .yes (c := (decide ((f : Int) < (0 : Int)))) (d := true) rfl (fun v w h => h), fun h w => optUndef h, fun zβ za zw zc => ?_⟩, ?_⟩
  ·exact geq_3 rfl ((evt za 19).trans (optVal (zc.dep 12 19 (by kernel_rfl)) rfl zβ)) (zc.kn.ev rfl) ⟨_, rfl, Below.refl _ _, optDef zβ rfl⟩
  refine ⟨⟨true, .none rfl, fun h w => optUndef h, fun zβ za zw zc => ?_⟩, ?_⟩
  ·exact wp_and rfl ((evt za 10).trans (optVal (zc.dep 3 10 (by kernel_rfl)) rfl rfl)) (fun hp => ((evt za 20).trans (optVal (zc.dep 13 20 (by kernel_rfl)) rfl (bMk zβ hp)))) ⟨_, rfl, Below.refl _ _, optDef zβ rfl⟩
  exact trivial
 ·intro za w10 zh hb11 zu
  have zh := zh.cons (d := 21) (v := .bool (((decide ((f : Int) < (0 : Int))) && (decide ((0 : Int) ≤ (((st.V (vnum f) : Int) - 1) : Int)))))) (optVal (zu 14 21 (by kernel_rfl)) rfl rfl)
  clear zu
  refine WE.go zh ?_
  refine WE.next ?_
  refine WC.cond rfl (fun h12 => ?_) (fun h12 => ?_)
  ·have h12 : ((f : Int) < (0 : Int)) ∧ ((0 : Int) ≤ (((st.V (vnum f) : Int) - 1) : Int)) := by simpa using h12
   refine WC.seq ?_
   have ho13 := ho9.below hb11
   have hB14 := hB4.below hb11
   refine WC.opt [(true, .val (.pointer (some ⟨g, 0, none⟩))), (true, .val (.pointer (some ⟨g, 0, none⟩))), (true, .val (.pointer (some ⟨g, 2, none⟩))), (true, .val (.slice ((some ⟨vb9, 0, none⟩)) 96 vc9)), (true, .val (.pointer (some ⟨g2, 0, none⟩))), (true, .val (.int .i64 f)), (true, .val (.int .i64 ((((vnum f) : Nat) : Int)))), (true, .val (.pointer (some ⟨vb9, 0 + (vnum f), none⟩))), (true, .val (.int .i64 (((st.V (vnum f) : Int) - 1)))), (true, .val (.int .i64 (((st.V (vnum f) : Int) - 1))))] [(0, .pointer (some ⟨g, 0, none⟩)), (1, .agg #[.int .i64 f, .slice a l.length c]), (3, .pointer (some ⟨g2, 0, none⟩)), (21, .bool (((decide ((f : Int) < (0 : Int))) && (decide ((0 : Int) ≤ (((st.V (vnum f) : Int) - 1) : Int))))))] ⟨rfl, rfl, rfl, rfl, trivial⟩ (by kernel_rfl) (by kernel_rfl) (by kernel_rfl) ?_ ?_
   ·refine ⟨⟨true, .none rfl, fun h w => optUndef h, fun zβ za zw zc => ?_⟩, ?_⟩
    ·exact wp_move rfl (zc.kn.ev rfl) ⟨_, rfl, Below.refl _ _, optDef zβ rfl⟩
    refine ⟨⟨true, .none rfl, fun h w => optUndef h, fun zβ za zw zc => ?_⟩, ?_⟩
    ·exact nilCheck_ rfl ((evt za 22).trans (optVal (zc.dep 0 22 (by kernel_rfl)) rfl rfl)) ⟨_, rfl, Below.refl _ _, optDef zβ rfl⟩
    refine ⟨⟨true, .none rfl, fun h w => optUndef h, fun zβ za zw zc => ?_⟩, ?_⟩
    ·exact fld_67_2 rfl ((evt za 23).trans (optVal (zc.dep 1 23 (by kernel_rfl)) rfl rfl)) ⟨_, rfl, Below.refl _ _, optDef zβ rfl⟩
    refine ⟨⟨true, .none rfl, fun h w => optUndef h, fun zβ za zw zc => ?_⟩, ?_⟩
    ·exact ld_48 rfl ((evt za 24).trans (optVal (zc.dep 2 24 (by kernel_rfl)) rfl rfl)) (bkeeps zc.below _ _ ho13.c2) ⟨_, rfl, Below.refl _ _, optDef zβ rfl⟩
    refine ⟨⟨true, .none rfl, fun h w => optUndef h, fun zβ za zw zc => ?_⟩, ?_⟩
    ·exact fld_32_0 rfl (zc.kn.ev rfl) ⟨_, rfl, Below.refl _ _, optDef zβ rfl⟩
    refine ⟨⟨true, .none rfl, fun h w => optUndef h, fun zβ za zw zc => ?_⟩, ?_⟩
    ·exact ld_3 rfl ((evt za 26).trans (optVal (zc.dep 4 26 (by kernel_rfl)) rfl rfl)) (bkeeps zc.below _ _ ((hB14.cell 0).trans rfl)) ⟨_, rfl, Below.refl _ _, optDef zβ rfl⟩
    refine ⟨⟨true, .none rfl, fun h w => optUndef h, fun zβ za zw zc => ?_⟩, ?_⟩
    ·exact subb_3 rfl (zc.kn.ev rfl) ((evt za 27).trans (optVal (zc.dep 5 27 (by kernel_rfl)) rfl rfl)) (wrap_eq (by have z := hv9 (by omega); omega) (by have z := hv9 (by omega); omega) (by have z := hv9 (by omega); omega)) ⟨_, rfl, Below.refl _ _, optDef zβ rfl⟩
    refine ⟨⟨true, .none rfl, fun h w => optUndef h, fun zβ za zw zc => ?_⟩, ?_⟩
    ·exact ix_48 (k := vnum f) rfl ((evt za 25).trans (optVal (zc.dep 3 25 (by kernel_rfl)) rfl rfl)) rfl ((evt za 28).trans (optVal (zc.dep 6 28 (by kernel_rfl)) rfl rfl)) (by have z := hv9 (by omega); exact z.1) ⟨_, rfl, Below.refl _ _, optDef zβ rfl⟩
    refine ⟨⟨true, .none rfl, fun h w => optUndef h, fun zβ za zw zc => ?_⟩, ?_⟩
    ·exact ld_3 rfl ((evt za 29).trans (optVal (zc.dep 7 29 (by kernel_rfl)) rfl rfl)) (bkeeps zc.below _ _ (PR.of ho13 |>.cell (by have z := hv9 (by omega); exact z.1))) ⟨_, rfl, Below.refl _ _, optDef zβ rfl⟩
    refine ⟨⟨true, .none rfl, fun h w => optUndef h, fun zβ za zw zc => ?_⟩, ?_⟩
    ·exact wp_assign rfl ((evt za 30).trans (optVal (zc.dep 8 30 (by kernel_rfl)) rfl rfl)) ⟨_, rfl, Below.refl _ _, optDef zβ rfl⟩
    exact trivial
   ·intro za w15 zh hb16 zu
    have zh := zh.cons (d := 4) (v := .int .i64 (((st.V (vnum f) : Int) - 1))) (optVal (zu 9 4 (by kernel_rfl)) rfl rfl)
    clear zu
    refine WE.go zh ?_
    refine WE.next (WC.ret (WE.thenRet (WE.ret1 rfl rfl ?_)))
    have ho17 := ho13.below hb16
    have hb18 : Below w.heap.size w w15 := (bstep (bstep hb5 hb11) hb16)
    have hC19 := Chg.trans hC0 (.ofBelow hb18)
    have hVn : st.V (vnum f) ≠ 0 := by omega
    have e : (T.mk f l).put st = (st, st.V (vnum f) - 1) := by
     rw [T.put, if_pos (by omega)]; unfold NS.var; rw [if_pos hVn]
    rw [e]
    exact ⟨_, rfl, congrArg (Value.int .i64) (by omega), ⟨U, Z, hR, hN.below hb18, fun b q => .inl q, fun b q => q.elim⟩, hC19⟩
  ·have h12 : ¬ (((f : Int) < (0 : Int)) ∧ ((0 : Int) ≤ (((st.V (vnum f) : Int) - 1) : Int))) := by simpa using h12
   refine WC.skip (WE.next (WC.seq (WC.region ?_)))
   refine WL.val _ rfl rfl rfl (fun za zC zh zk => fld_32_0 rfl (zh.ev rfl) zk) ?_
   have hB20 := hB4.below hb11
   refine WL.val _ rfl rfl rfl (fun za zC zh zk => ld_3 rfl (zh.ev rfl) ((hB20.cell 0).trans rfl) zk) ?_
   refine WL.val (.agg #[.int .i64 f, .slice none 0 0]) rfl rfl rfl (fun za zC zh zk => build_69_0 rfl (zh.ev rfl) zk) ?_
   refine WL.step (post := NewBlk w10 69 #[.int .i64 0, .slice none 0 0]) rfl rfl rfl (fun za zC zh zk => alloc_69 rfl (zk _ _ (newBlk _ _ _))) ?_
   rintro _ w21 ⟨g22, rfl, hg23, hB24, hb25, hz26⟩
   have hl27 : g2 < g22 := by have z1 := hB20.lt; omega
   have hb28 : Below w0.heap.size w0 w10 := (bstep (bstep hb0 hb5) hb11)
   have hl29 : w0.heap.size ≤ g22 := by have z2 := (hb28).size; omega
   have hl30 : w1.heap.size ≤ g22 := by have z2 := (hb11).size; omega
   refine WL.step (post := fun _ w' => Upd g22 w21 w' ∧ Blk w' g22 69 #[.int .i64 f, .slice none 0 0]) rfl rfl rfl (fun za zC zh zk => st_69 rfl (zh.ev rfl) (zh.ev rfl) rfl rfl hB24 (by first | decide | simp) (fun v => zk v _ ⟨(Upd.at_ _ _ _ _).trans (Upd.at_ _ _ _ _), (hB24.set_ 0 _).set_ 1 _⟩)) ?_
   rintro v34 w31 ⟨hu32, hB33⟩
   have hb35 : Below w0.heap.size w0 w21 := (bstep hb28 hb25)
   have hb36 : Below w1.heap.size w1 w21 := (bstep hb11 hb25)
   have hb37 := upd_below hb35 hu32 (by omega)
   have hb38 := upd_below hb36 hu32 (by omega)
   have hB39 := hB20.below hb25
   have hB40 := upd_blk hB39 hu32 (by omega)
   refine WL.nil (WE.next (WC.seq (WC.seq (WC.region (WL.asg rfl rfl rfl rfl rfl (WL.nil (WE.next (WC.block ?_))))))))
   have hgZ41 : ¬ Z g2 ∧ w.heap.size ≤ g2 := by have z : w.heap.size ≤ g2 := (by omega); exact ⟨fun q => by have z := hZl _ q; omega, z⟩
   have hgZ42 : ¬ Z g22 ∧ w.heap.size ≤ g22 := by have z : w.heap.size ≤ g22 := (by omega); exact ⟨fun q => by have z := hZl _ q; omega, z⟩
   have hg5w : w.heap.size ≤ g22 := by omega
   have hg3w : w.heap.size ≤ g2 := by omega
   have hb43 : Below w.heap.size w w31 := (bstep hb5 hb38)
   have hJ1 : RJ w31 w.heap.size Z κ d g ((T.putL (l.take 0) st).1.N) ((T.putL (l.take 0) st).1.V) (fun q => q = g22 ∨ q = g2 ∨ obk none 0 0 = some q) := by
    have e : T.putL (l.take 0) st = (st, []) := rfl
    rw [e]
    exact ⟨U, Z, hR, hN.below hb43, fun b q => .inl q, fun b q h9 => by have z := hZl b h9; rcases q with q | q | q; omega; omega; cases q⟩
   have hr0 : RowD eltN (fun _ => False) w31 3 none 0 0 ((T.putL (l.take 0) st).2) := RowD.nil
   have hC44 := Chg.trans hC0 (.ofBelow hb43)
   refine WC.loop (X := Nat × Option Addr × Nat) (fun x => l.length - x.1) (fun x => [(0, .pointer (some ⟨g, 0, none⟩)), (1, .agg #[.int .i64 f, .slice a l.length c]), (3, .pointer (some ⟨g2, 0, none⟩)), (4, .int .i64 0), (5, .pointer (some ⟨g22, 0, none⟩)), (6, .int .i64 (((x.1 : Nat) : Int))), (21, .bool (((decide ((f : Int) < (0 : Int))) && (decide ((0 : Int) ≤ (((st.V (vnum f) : Int) - 1) : Int))))))]) (fun x w45 => x.1 ≤ l.length ∧ Chg Z w w45 ∧ (∀ q, obk x.2.1 x.1 x.2.2 = some q → w.heap.size ≤ q ∧ q ≠ g2 ∧ q ≠ g22) ∧ Below w0.heap.size w0 w45 ∧ Blk w45 g2 32 #[.int .i64 f, .slice a l.length c] ∧ Blk w45 g22 69 #[.int .i64 f, .slice x.2.1 x.1 x.2.2] ∧ RJ (w45) w.heap.size Z κ d g ((T.putL (l.take x.1) st).1.N) ((T.putL (l.take x.1) st).1.V) (fun q => q = g22 ∨ q = g2 ∨ obk x.2.1 x.1 x.2.2 = some q) ∧ RowD eltN (fun _ => False) (w45) 3 x.2.1 x.2.2 x.1 ((T.putL (l.take x.1) st).2)) ((0, none, 0)) ⟨rfl, rfl, rfl, rfl, rfl, rfl, rfl, trivial⟩ ?_ ?_
   ·exact ⟨Nat.zero_le _, hC44, (fun q h9 => nomatch h9), hb37, hB40, hB33, hJ1, hr0⟩
   ·rintro x w45 ⟨hk, hCx, hownw, hb46, hB47, hB48, ho49, ho50⟩
    have hlk : (T.putL (l.take x.1) st).2.length = x.1 := putL_take_len hst hk
    have hpo := (putL_ok (l.take x.1) st hst).1
    have hpl := hpo.len
    have hle9 := hpo.le
    have htk := T.sizeL_take_le l x.1
    refine WC.seq (WC.seq (WC.region (WL.mv rfl rfl rfl rfl rfl ?_)))
    refine WL.val _ rfl rfl rfl (fun za zC zh zk => fld_32_1 rfl (zh.ev rfl) zk) ?_
    refine WL.val _ rfl rfl rfl (fun za zC zh zk => ld_30 rfl (zh.ev rfl) ((hB47.cell 1).trans rfl) zk) ?_
    refine WL.val (.int .i64 (((l.length : Nat) : Int))) rfl rfl rfl (fun za zC zh zk => len_30 rfl (zh.ev rfl) zk) ?_
    refine WL.val (.bool ((decide ((((x.1 : Nat) : Int) : Int) < (((l.length : Nat) : Int) : Int))))) rfl rfl rfl (fun za zC zh zk => lss_3 rfl (zh.ev rfl) (zh.ev rfl) zk) ?_
    refine WL.nil (WE.next ?_)
    refine WC.cond rfl (fun h51 => ?_) (fun h51 => ?_)
    ·have h51 : (((x.1 : Nat) : Int) : Int) < (((l.length : Nat) : Int) : Int) := by simpa using h51
     refine WC.skip (WE.next (WC.seq (WC.block ?_)))
     obtain ⟨U9, Z9, hR9, hN9, hZ9, hX9⟩ := ho49
     have hwW : w.heap.size ≤ w45.heap.size := (hCx).size
     have hrlt := ho50.lt
     have hg5lt : g22 < w45.heap.size := hB48.lt
     have hg3lt : g2 < w45.heap.size := hB47.lt
     have hmem9 : tget l x.1 ∈ l := tget_mem (by omega)
     have hsz9 := T.sizeL_take_succ l x.1 (by omega)
     have htg9 := tget_lt (show x.1 < l.length by omega)
     rw [← htg9] at hsz9
     have hst9 := T.sizeL_take_le l (x.1 + 1)
     have hown9 : ∀ q, obk x.2.1 x.1 x.2.2 = some q → ¬ q < w0.heap.size := fun q h9 => by have z := (hownw q h9).1; have z2 := hb0.size; omega
     have hZ90 : ∀ q, Z9 q → w0.heap.size ≤ q := fun q h9 => by rcases hZ9 q h9 with z | z; exact hZ0 q z; (have z2 := hb0.size; omega)
     have hf0 : ¬ f < 0 := fun q => by have z : l.length = 0 := (by rw [(hf96 q).2]; rfl); omega
     have hlowL : ∀ q ∈ l, T.low 96 q = true := by rw [if_neg hf0] at hlow'; exact lowL_mem.1 hlow'
     have hG10 : ∀ (vals : List Value) (wa wb : World), Below wa.heap.size wa wb → (fun vals wz => match vals with | [] => (RX wz g Z9 U9 ((T.putL (l.take x.1) st).1.N) ((T.putL (l.take x.1) st).1.V)) ∧ (Blk wz g22 69 #[.int .i64 f, .slice x.2.1 x.1 x.2.2]) ∧ RowD eltN (fun _ => False) wz 3 x.2.1 x.2.2 x.1 ((T.putL (l.take x.1) st).2) | [_] => (RJ wz w.heap.size Z κ d g (((tget l x.1).put (T.putL (l.take x.1) st).1).1.N) (((tget l x.1).put (T.putL (l.take x.1) st).1).1.V) (fun q => q = g22 ∨ q = g2 ∨ obk x.2.1 x.1 x.2.2 = some q)) ∧ (Blk wz g22 69 #[.int .i64 f, .slice x.2.1 x.1 x.2.2]) ∧ RowD eltN (fun _ => False) wz 3 x.2.1 x.2.2 x.1 ((T.putL (l.take x.1) st).2) | [_, z1] => ((RJ wz w.heap.size Z κ d g (((tget l x.1).put (T.putL (l.take x.1) st).1).1.N) (((tget l x.1).put (T.putL (l.take x.1) st).1).1.V) (fun q => q = g22 ∨ q = g2 ∨ obk x.2.1 x.1 x.2.2 = some q)) ∧ (Blk wz g22 69 #[.int .i64 f, .slice x.2.1 x.1 x.2.2]) ∧ RowD eltN (fun _ => False) wz 3 x.2.1 x.2.2 x.1 ((T.putL (l.take x.1) st).2)) ∧ ∃ g1, z1 = .slice (some ⟨g1, 0, none⟩) 1 1 ∧ Blk wz g1 3 #[.int .i64 ((((tget l x.1).put (T.putL (l.take x.1) st).1).2 : Nat) : Int)] | [_, _, z2] => ∃ ra rc, z2 = .slice ra (x.1 + 1) rc ∧ (RJ wz w.heap.size Z κ d g (((tget l x.1).put (T.putL (l.take x.1) st).1).1.N) (((tget l x.1).put (T.putL (l.take x.1) st).1).1.V) (fun q => q = g22 ∨ q = g2 ∨ obk ra ((x.1 + 1)) rc = some q)) ∧ (Blk wz g22 69 #[.int .i64 f, .slice x.2.1 x.1 x.2.2]) ∧ (RowD eltN (fun _ => False) wz 3 ra rc ((x.1 + 1)) (((T.putL (l.take x.1) st).2 ++ [((tget l x.1).put (T.putL (l.take x.1) st).1).2]))) ∧ (∀ q, obk ra (x.1 + 1) rc = some q → w.heap.size ≤ q ∧ q ≠ g2 ∧ q ≠ g22) | [_, _, _, _] => ∃ ra rc, (RJ wz w.heap.size Z κ d g (((tget l x.1).put (T.putL (l.take x.1) st).1).1.N) (((tget l x.1).put (T.putL (l.take x.1) st).1).1.V) (fun q => q = g22 ∨ q = g2 ∨ obk ra ((x.1 + 1)) rc = some q)) ∧ (Blk wz g22 69 #[.int .i64 f, .slice ra (x.1 + 1) rc]) ∧ (RowD eltN (fun _ => False) wz 3 ra rc ((x.1 + 1)) (((T.putL (l.take x.1) st).2 ++ [((tget l x.1).put (T.putL (l.take x.1) st).1).2]))) ∧ (∀ q, obk ra (x.1 + 1) rc = some q → w.heap.size ≤ q ∧ q ≠ g2 ∧ q ≠ g22) | _ => False) vals wa → (fun vals wz => match vals with | [] => (RX wz g Z9 U9 ((T.putL (l.take x.1) st).1.N) ((T.putL (l.take x.1) st).1.V)) ∧ (Blk wz g22 69 #[.int .i64 f, .slice x.2.1 x.1 x.2.2]) ∧ RowD eltN (fun _ => False) wz 3 x.2.1 x.2.2 x.1 ((T.putL (l.take x.1) st).2) | [_] => (RJ wz w.heap.size Z κ d g (((tget l x.1).put (T.putL (l.take x.1) st).1).1.N) (((tget l x.1).put (T.putL (l.take x.1) st).1).1.V) (fun q => q = g22 ∨ q = g2 ∨ obk x.2.1 x.1 x.2.2 = some q)) ∧ (Blk wz g22 69 #[.int .i64 f, .slice x.2.1 x.1 x.2.2]) ∧ RowD eltN (fun _ => False) wz 3 x.2.1 x.2.2 x.1 ((T.putL (l.take x.1) st).2) | [_, z1] => ((RJ wz w.heap.size Z κ d g (((tget l x.1).put (T.putL (l.take x.1) st).1).1.N) (((tget l x.1).put (T.putL (l.take x.1) st).1).1.V) (fun q => q = g22 ∨ q = g2 ∨ obk x.2.1 x.1 x.2.2 = some q)) ∧ (Blk wz g22 69 #[.int .i64 f, .slice x.2.1 x.1 x.2.2]) ∧ RowD eltN (fun _ => False) wz 3 x.2.1 x.2.2 x.1 ((T.putL (l.take x.1) st).2)) ∧ ∃ g1, z1 = .slice (some ⟨g1, 0, none⟩) 1 1 ∧ Blk wz g1 3 #[.int .i64 ((((tget l x.1).put (T.putL (l.take x.1) st).1).2 : Nat) : Int)] | [_, _, z2] => ∃ ra rc, z2 = .slice ra (x.1 + 1) rc ∧ (RJ wz w.heap.size Z κ d g (((tget l x.1).put (T.putL (l.take x.1) st).1).1.N) (((tget l x.1).put (T.putL (l.take x.1) st).1).1.V) (fun q => q = g22 ∨ q = g2 ∨ obk ra ((x.1 + 1)) rc = some q)) ∧ (Blk wz g22 69 #[.int .i64 f, .slice x.2.1 x.1 x.2.2]) ∧ (RowD eltN (fun _ => False) wz 3 ra rc ((x.1 + 1)) (((T.putL (l.take x.1) st).2 ++ [((tget l x.1).put (T.putL (l.take x.1) st).1).2]))) ∧ (∀ q, obk ra (x.1 + 1) rc = some q → w.heap.size ≤ q ∧ q ≠ g2 ∧ q ≠ g22) | [_, _, _, _] => ∃ ra rc, (RJ wz w.heap.size Z κ d g (((tget l x.1).put (T.putL (l.take x.1) st).1).1.N) (((tget l x.1).put (T.putL (l.take x.1) st).1).1.V) (fun q => q = g22 ∨ q = g2 ∨ obk ra ((x.1 + 1)) rc = some q)) ∧ (Blk wz g22 69 #[.int .i64 f, .slice ra (x.1 + 1) rc]) ∧ (RowD eltN (fun _ => False) wz 3 ra rc ((x.1 + 1)) (((T.putL (l.take x.1) st).2 ++ [((tget l x.1).put (T.putL (l.take x.1) st).1).2]))) ∧ (∀ q, obk ra (x.1 + 1) rc = some q → w.heap.size ≤ q ∧ q ≠ g2 ∧ q ≠ g22) | _ => False) vals wb := by
      intro vals wa wb hb h
      match vals, h with
      | [], h => exact ⟨h.1.below hb, h.2.1.below hb, h.2.2.below hb⟩
      | [_], h => exact ⟨h.1.below hb, h.2.1.below hb, h.2.2.below hb⟩
      | [_, z1], h =>
       obtain ⟨⟨k1, k2, k3⟩, g1, e, k4⟩ := h
       exact ⟨⟨k1.below hb, k2.below hb, k3.below hb⟩, g1, e, k4.below hb⟩
      | [_, _, z2], h =>
       obtain ⟨ra, rc, e, k1, k2, k3, k4⟩ := h
       exact ⟨ra, rc, e, k1.below hb, k2.below hb, k3.below hb, k4⟩
      | [_, _, _, _], h =>
       obtain ⟨ra, rc, k1, k2, k3, k4⟩ := h
       exact ⟨ra, rc, k1.below hb, k2.below hb, k3.below hb, k4⟩
     have hb9 : Below w0.heap.size w0 w45 := hb46
     obtain ⟨b52, o53, A54, C55, ha56, hc57⟩ := IsTs.open hl
     refine WC.seqV (S := ((fun q => Z9 q ∨ q = g22 ∨ obk x.2.1 x.1 x.2.2 = some q))) [(true, .val (.pointer (some ⟨g22, 1, none⟩))), (true, .val (.slice x.2.1 x.1 x.2.2)), (true, .val (.pointer (some ⟨g, 0, none⟩))), (true, .val (.pointer (some ⟨g2, 1, none⟩))), (true, .val (.slice a l.length c)), (true, .val (.int .i64 (((x.1 : Nat) : Int)))), (true, .val (.pointer (some ⟨b52, o53 + x.1 * 2, none⟩))), (true, .val (.agg #[.int .i64 ((tget l x.1).f), .slice ((A54 x.1)) ((tget l x.1).args.length) ((C55 x.1))])), (true, .val undef), (true, .val undef), (true, .val undef), (true, .val (.pointer (some ⟨g22, 1, none⟩))), (true, .val undef)] [(0, .pointer (some ⟨g, 0, none⟩)), (1, .agg #[.int .i64 f, .slice a l.length c]), (3, .pointer (some ⟨g2, 0, none⟩)), (4, .int .i64 0), (5, .pointer (some ⟨g22, 0, none⟩)), (6, .int .i64 (((x.1 : Nat) : Int))), (21, .bool (((decide ((f : Int) < (0 : Int))) && (decide ((0 : Int) ≤ (((st.V (vnum f) : Int) - 1) : Int)))))), (38, .bool ((decide ((((x.1 : Nat) : Int) : Int) < (((l.length : Nat) : Int) : Int)))))] [8, 9, 10, 12] [some (true, .int .i64 (((((tget l x.1).put (T.putL (l.take x.1) st).1).2 : Nat) : Int))), none, none, none] (fun vals wz => match vals with | [] => (RX wz g Z9 U9 ((T.putL (l.take x.1) st).1.N) ((T.putL (l.take x.1) st).1.V)) ∧ (Blk wz g22 69 #[.int .i64 f, .slice x.2.1 x.1 x.2.2]) ∧ RowD eltN (fun _ => False) wz 3 x.2.1 x.2.2 x.1 ((T.putL (l.take x.1) st).2) | [_] => (RJ wz w.heap.size Z κ d g (((tget l x.1).put (T.putL (l.take x.1) st).1).1.N) (((tget l x.1).put (T.putL (l.take x.1) st).1).1.V) (fun q => q = g22 ∨ q = g2 ∨ obk x.2.1 x.1 x.2.2 = some q)) ∧ (Blk wz g22 69 #[.int .i64 f, .slice x.2.1 x.1 x.2.2]) ∧ RowD eltN (fun _ => False) wz 3 x.2.1 x.2.2 x.1 ((T.putL (l.take x.1) st).2) | [_, z1] => ((RJ wz w.heap.size Z κ d g (((tget l x.1).put (T.putL (l.take x.1) st).1).1.N) (((tget l x.1).put (T.putL (l.take x.1) st).1).1.V) (fun q => q = g22 ∨ q = g2 ∨ obk x.2.1 x.1 x.2.2 = some q)) ∧ (Blk wz g22 69 #[.int .i64 f, .slice x.2.1 x.1 x.2.2]) ∧ RowD eltN (fun _ => False) wz 3 x.2.1 x.2.2 x.1 ((T.putL (l.take x.1) st).2)) ∧ ∃ g1, z1 = .slice (some ⟨g1, 0, none⟩) 1 1 ∧ Blk wz g1 3 #[.int .i64 ((((tget l x.1).put (T.putL (l.take x.1) st).1).2 : Nat) : Int)] | [_, _, z2] => ∃ ra rc, z2 = .slice ra (x.1 + 1) rc ∧ (RJ wz w.heap.size Z κ d g (((tget l x.1).put (T.putL (l.take x.1) st).1).1.N) (((tget l x.1).put (T.putL (l.take x.1) st).1).1.V) (fun q => q = g22 ∨ q = g2 ∨ obk ra ((x.1 + 1)) rc = some q)) ∧ (Blk wz g22 69 #[.int .i64 f, .slice x.2.1 x.1 x.2.2]) ∧ (RowD eltN (fun _ => False) wz 3 ra rc ((x.1 + 1)) (((T.putL (l.take x.1) st).2 ++ [((tget l x.1).put (T.putL (l.take x.1) st).1).2]))) ∧ (∀ q, obk ra (x.1 + 1) rc = some q → w.heap.size ≤ q ∧ q ≠ g2 ∧ q ≠ g22) | [_, _, _, _] => ∃ ra rc, (RJ wz w.heap.size Z κ d g (((tget l x.1).put (T.putL (l.take x.1) st).1).1.N) (((tget l x.1).put (T.putL (l.take x.1) st).1).1.V) (fun q => q = g22 ∨ q = g2 ∨ obk ra ((x.1 + 1)) rc = some q)) ∧ (Blk wz g22 69 #[.int .i64 f, .slice ra (x.1 + 1) rc]) ∧ (RowD eltN (fun _ => False) wz 3 ra rc ((x.1 + 1)) (((T.putL (l.take x.1) st).2 ++ [((tget l x.1).put (T.putL (l.take x.1) st).1).2]))) ∧ (∀ q, obk ra (x.1 + 1) rc = some q → w.heap.size ≤ q ∧ q ≠ g2 ∧ q ≠ g22) | _ => False) hG10 (by decide) ⟨rfl, rfl, rfl, rfl, rfl, rfl, rfl, rfl, trivial⟩ (by kernel_rfl) (by kernel_rfl) (by kernel_rfl) (by kernel_rfl) (⟨hN9, hB48, ho50⟩) ?_ ?_
     ·refine ⟨.inl ⟨rfl, true, .none rfl, (fun gg b h => by cases h), fun h w => optUndef h, fun zβ za zw zc => ?_⟩, ?_⟩
      ·exact fld_69_1 rfl (zc.kn.ev rfl) ⟨_, rfl, Below.refl _ _, optDef zβ rfl⟩
      refine ⟨.inl ⟨rfl, true, .none rfl, (fun gg b h => by cases h), fun h w => optUndef h, fun zβ za zw zc => ?_⟩, ?_⟩
      ·obtain ⟨vals, hle, hgv, _⟩ := zc.early 2 10 rfl (by kernel_rfl)
       have hb5 : Blk zw g22 69 #[.int .i64 f, .slice x.2.1 x.1 x.2.2] := by
        match vals, hle, hgv with
        | [], _, hg => exact hg.2.1
        | [_], _, hg => exact hg.2.1
        | [_, _], _, hg => exact hg.1.2.1
       exact ld_48 rfl ((evt za 41).trans (optSVal (zc.dep 0 41 (by kernel_rfl) (by decide)) rfl rfl)) ((hb5.cell 1).trans rfl) ⟨_, rfl, Below.refl _ _, optDef zβ rfl⟩
      refine ⟨.inl ⟨rfl, true, .none rfl, (fun gg b h => by cases h), fun h w => optUndef h, fun zβ za zw zc => ?_⟩, ?_⟩
      ·exact wp_move rfl (zc.kn.ev rfl) ⟨_, rfl, Below.refl _ _, optDef zβ rfl⟩
      refine ⟨.inl ⟨rfl, true, .none rfl, (fun gg b h => by cases h), fun h w => optUndef h, fun zβ za zw zc => ?_⟩, ?_⟩
      ·exact fld_32_1 rfl (zc.kn.ev rfl) ⟨_, rfl, Below.refl _ _, optDef zβ rfl⟩
      refine ⟨.inl ⟨rfl, true, .none rfl, (fun gg b h => by cases h), fun h w => optUndef h, fun zβ za zw zc => ?_⟩, ?_⟩
      ·exact ld_30 rfl ((evt za 44).trans (optSVal (zc.dep 3 44 (by kernel_rfl) (by decide)) rfl rfl)) (chg_cell zc.chg (by first | (intro h9; rcases h9 with h9 | h9 | h9; exact hX9 _ (.inr (.inl rfl)) h9; omega; exact (hownw _ h9).2.1 rfl)) ((hB47.cell 1).trans rfl)) ⟨_, rfl, Below.refl _ _, optDef zβ rfl⟩
      refine ⟨.inl ⟨rfl, true, .none rfl, (fun gg b h => by cases h), fun h w => optUndef h, fun zβ za zw zc => ?_⟩, ?_⟩
      ·exact wp_move rfl (zc.kn.ev rfl) ⟨_, rfl, Below.refl _ _, optDef zβ rfl⟩
      refine ⟨.inl ⟨rfl, true, .none rfl, (fun gg b h => by cases h), fun h w => optUndef h, fun zβ za zw zc => ?_⟩, ?_⟩
      ·exact ix_30 (k := x.1) rfl ((evt za 45).trans (optSVal (zc.dep 4 45 (by kernel_rfl) (by decide)) rfl rfl)) (ha56 x.1 (by first | omega | (simp; omega))) ((evt za 46).trans (optSVal (zc.dep 5 46 (by kernel_rfl) (by decide)) rfl rfl)) (by first | omega | (simp; omega)) ⟨_, rfl, Below.refl _ _, optDef zβ rfl⟩
      refine ⟨.inl ⟨rfl, true, .none rfl, (fun gg b h => by cases h), fun h w => optUndef h, fun zβ za zw zc => ?_⟩, ?_⟩
      ·exact ld_32 rfl ((evt za 47).trans (optSVal (zc.dep 6 47 (by kernel_rfl) (by decide)) rfl rfl)) (chg_old hb46 zc.chg (fun b hb => by intro h9; rcases h9 with h9 | h9 | h9; (have z := hZ90 _ h9; omega); (have z := hb0.size; omega); exact hown9 _ h9 hb) (hc57 x.1 (by first | omega | (simp; omega))).1) (chg_old hb46 zc.chg (fun b hb => by intro h9; rcases h9 with h9 | h9 | h9; (have z := hZ90 _ h9; omega); (have z := hb0.size; omega); exact hown9 _ h9 hb) (hc57 x.1 (by first | omega | (simp; omega))).2.1) ⟨_, rfl, Below.refl _ _, optDef zβ rfl⟩
      refine ⟨.inr ⟨0, rfl, by kernel_rfl, true, .none rfl, (fun gg b h => by cases h), (fun h => (nomatch h)), fun zβ za zw zvals zc => ?_⟩, ?_⟩
      ·obtain rfl := vlen0 zc.len
       have zn := zc.now
       obtain ⟨k1, k2, k3⟩ := zn
       have hbz := chg_below hb9 zc.chg (fun q hq h9 => by rcases h9 with h9 | h9 | h9; (have z := hZ90 q h9; omega); (have z := hb0.size; omega); exact hown9 q h9 hq)
       exact wp_call (by kernel_rfl) rfl (hv2 ((evt za 43).trans (optSVal (zc.dep 2 43 (by kernel_rfl) (by decide)) rfl rfl)) ((evt za 48).trans (optSVal (zc.dep 7 48 (by kernel_rfl) (by decide)) rfl rfl))) (ih _ hmem9 (T.putL (l.take x.1) st).1 U9 Z9 _ _ hpo.ok k1 hR9 (fun i hi => hκ i (by omega)) (by omega) (hlowL _ hmem9) hbz hZ90 (hc57 x.1 (by first | omega | (simp; omega))).2.2) (fun v w' h => by obtain ⟨m1, ⟨U8, Z8, m2, m3, m4, m5⟩, m6⟩ := h; exact ⟨v, rfl, m6.mono (fun q h9 => .inl h9), ⟨⟨U8, Z8, m2, m3, fun q h9 => by rcases m4 q h9 with z | z; exact hZ9 q z; exact .inr (by have z2 := zc.chg.size; omega), fun q h9 h8 => by rcases m4 q h8 with z | z; exact hX9 q h9 z; (have z2 := zc.chg.size; rcases h9 with h9 | h9 | h9; omega; omega; (have z3 := hrlt q h9; omega))⟩, chg_blk k2 m6 (fun q => hX9 _ (.inl rfl) q), k3.chg m6 (fun q h9 h8 => hX9 q (.inr (.inr h9)) h8) (fun q h9 => h9.elim)⟩, cvIs m1⟩)
      refine ⟨.inr ⟨1, rfl, by kernel_rfl, true, .none rfl, (fun gg b h => by cases h), (fun h => (nomatch h)), fun zβ za zw zvals zc => ?_⟩, ?_⟩
      ·obtain ⟨z0, rfl⟩ := vlen1 zc.len
       have zn := zc.now
       exact row_48_1 rfl ((evt za 49).trans (zc.link 0 8 49 _ _ rfl (by kernel_rfl) rfl rfl)) ⟨_, rfl, .ofBelow (balloc _ _), ⟨⟨zn.1.below (balloc _ _), zn.2.1.below (balloc _ _), zn.2.2.below (balloc _ _)⟩, _, rfl, Blk.new' rfl⟩, cvNo⟩
      refine ⟨.inr ⟨2, rfl, by kernel_rfl, true, .none rfl, (fun gg b h => by cases h), (fun h => (nomatch h)), fun zβ za zw zvals zc => ?_⟩, ?_⟩
      ·obtain ⟨z0, z1, rfl⟩ := vlen2 zc.len
       have zn := zc.now
       obtain ⟨⟨k1, k2, k3⟩, g1, e, k4⟩ := zn
       have e1 : z1 = za.tmps.getD 50 undef := Option.some.inj (zc.val 1 9 50 rfl (by kernel_rfl))
       exact wp_appD (E := eltN) (y := ((tget l x.1).put (T.putL (l.take x.1) st).1).2) (S2 := fun _ => False) (size := 1) (bytes := 8) (z := .int .i64 0) rfl Try.underlying48 (by kernel_rfl) rfl (by decide) rfl ((evt za 42).trans (optSVal (zc.dep 1 42 (by kernel_rfl) (by decide)) rfl rfl)) ((evt za 50).trans (e1.symm.trans e)) k3 k4 rfl (fun b q => q.elim) (by omega) (by omega) (fun ra rc w' h1 h2 h3 => ⟨_, rfl, h2.mono (fun b q => .inr (.inr q)), ⟨ra, rc, rfl, ((k1.avoid (X2 := fun q => (q = g22 ∨ q = g2 ∨ obk x.2.1 x.1 x.2.2 = some q) ∨ zw.heap.size ≤ q) (fun q h9 => h9)).chg h2 (fun q h9 => .inl (.inr (.inr h9)))).avoid (fun q h9 => .inl (by rcases h9 with h9 | h9 | h9; exact .inl (.inl h9); exact .inl (.inr (.inl h9)); exact (h3 q h9).imp (fun z => .inr (.inr z)) id)), chg_blk k2 h2 (fun h9 => (hownw _ h9).2.2 rfl), h1.mono (fun b q _ => by rcases q.1 with q | q <;> exact q) (fun b q => q.elim), fun q h9 => by rcases h3 q h9 with z | z; exact hownw q z; (have z2 := zc.chg.size; exact ⟨by omega, by omega, by omega⟩)⟩, cvNo⟩)
      refine ⟨.inl ⟨rfl, true, .none rfl, (fun gg b h => by cases h), fun h w => optUndef h, fun zβ za zw zc => ?_⟩, ?_⟩
      ·exact fld_69_1 rfl (zc.kn.ev rfl) ⟨_, rfl, Below.refl _ _, optDef zβ rfl⟩
      refine ⟨.inr ⟨3, rfl, by kernel_rfl, true, .none rfl, (fun gg b h => by cases h), (fun h => (nomatch h)), fun zβ za zw zvals zc => ?_⟩, ?_⟩
      ·obtain ⟨z0, z1, z2, rfl⟩ := vlen3 zc.len
       have zn := zc.now
       obtain ⟨ra, rc, e, k1, k2, k3, k9⟩ := zn
       have e2 : z2 = za.tmps.getD 51 undef := Option.some.inj (zc.val 2 10 51 rfl (by kernel_rfl))
       exact st_48 rfl ((evt za 52).trans (optSVal (zc.dep 11 52 (by kernel_rfl) (by decide)) rfl rfl)) ((evt za 51).trans (e2.symm.trans e)) k2 (by first | decide | simp) (fun v => ⟨v, rfl, .ofUpd (Upd.at_ _ _ _ _) (.inr (.inl rfl)), ⟨ra, rc, k1.upd (Upd.at_ _ _ _ _) (.inl rfl), k2.set_ 1 _, k3.chg (Z := fun q => q = g22) (.ofUpd (Upd.at_ _ _ _ _) rfl) (fun q h9 e9 => (k9 q h9).2.2 e9) (fun q h9 => h9.elim), k9⟩, cvNo⟩)
      exact trivial
     ·intro za w58 zvals zh zl hG59 hc60 zu zw zk
      obtain ⟨z0, z1, z2, z3, rfl⟩ := vlen4 zl
      obtain ⟨ra9, rc9, kn9, kb9, kr9, hown99⟩ := hG59
      have hC61 : Chg Z w w58 := chg_fresh hCx hc60 (fun q h9 => by rcases h9 with h9 | h9 | h9; exact hZ9 q h9; (right; omega); exact .inr (hownw q h9).1)
      have hb62 := chg_below hb9 hc60 (fun q hq h9 => by rcases h9 with h9 | h9 | h9; (have z := hZ90 q h9; omega); (have z := hb0.size; omega); exact hown9 q h9 hq)
      have hB63 := chg_blk hB47 hc60 (fun h9 => by rcases h9 with h9 | h9 | h9; exact hX9 _ (.inr (.inl rfl)) h9; omega; exact (hownw _ h9).2.1 rfl)
      clear zu zw zk
      refine WE.go zh ?_
      refine WE.blockNormal (WE.next (WC.region (WL.mv rfl rfl rfl rfl rfl ?_)))
      refine WL.val (.int .i64 ((((x.1 + 1) : Nat) : Int))) rfl rfl rfl (fun za zC zh zk => addb_3 rfl (zh.ev rfl) (zh.ev rfl) (wrap_eq (by omega) (by omega) (by omega)) zk) ?_
      refine WL.asg rfl rfl rfl rfl rfl (WL.nil ?_)
      refine WE.round ((x.1 + 1, ra9, rc9)) ⟨rfl, rfl, rfl, rfl, rfl, rfl, rfl, trivial⟩ ?_ ?_
      ·exact ⟨by (try dsimp only); omega, hC61, hown99, hb62, hB63, kb9, (by dsimp only; rw [putL_take (by omega)]; exact kn9), (by dsimp only; rw [putL_take (by omega)]; exact kr9)⟩
      ·(try dsimp only); omega
    ·have h51 : ¬ ((((x.1 : Nat) : Int) : Int) < (((l.length : Nat) : Int) : Int)) := by simpa using h51
     refine WC.exit (WE.thenExit (WE.thenExit (WE.blockIs rfl (WE.next (WC.seq ?_)))))
     have hx1 : x.1 = l.length := by omega
     have hput : l.take x.1 = l := by rw [hx1, List.take_length]
     obtain ⟨U7, Z7, hR7, ⟨S7, la7, lc7, ua7, uc7, vb7, vc7, hP7, hU7, hRZ7, hZl7⟩, hZ7, hX7⟩ := id ho49
     have hrlt := ho50.lt
     have hwW : w.heap.size ≤ w45.heap.size := (hCx).size
     have hZ70 : ∀ q, Z7 q → w0.heap.size ≤ q := fun q h9 => by rcases hZ7 q h9 with z | z; exact hZ0 q z; (have z2 := hb0.size; omega)
     have hb9 : Below w0.heap.size w0 w45 := hb46
     have hGW9 : ∀ (vals : List Value) (wa wb : World), Below wa.heap.size wa wb → (fun vals wz => match vals with | [] => PR wz g S7 (la7, ((T.putL (l.take x.1) st).1.N).length, lc7) (ua7, U7.length, uc7) la7 lc7 ((T.putL (l.take x.1) st).1.N) ua7 uc7 U7 vb7 vc7 ((T.putL (l.take x.1) st).1.V) ∧ (∀ b, (fun b => obk x.2.1 x.1 x.2.2 = some b) b → b < wz.heap.size) ∧ InRow eltN (fun b => obk x.2.1 x.1 x.2.2 = some b) wz ((T.putL (l.take x.1) st).2) x.2.1 | [z0] => (PR wz g S7 (la7, ((T.putL (l.take x.1) st).1.N).length, lc7) (ua7, U7.length, uc7) la7 lc7 ((T.putL (l.take x.1) st).1.N) ua7 uc7 U7 vb7 vc7 ((T.putL (l.take x.1) st).1.V) ∧ (∀ b, (fun b => obk x.2.1 x.1 x.2.2 = some b) b → b < wz.heap.size) ∧ InRow eltN (fun b => obk x.2.1 x.1 x.2.2 = some b) wz ((T.putL (l.take x.1) st).2) x.2.1) ∧ ∃ g1, z0 = .slice (some ⟨g1, 0, none⟩) 1 1 ∧ Blk wz g1 69 (List.toArray [.int .i64 f, .slice x.2.1 x.1 x.2.2]) | [_, z1] => ∃ pa3 pc3, z1 = .slice pa3 ((T.putL (l.take x.1) st).1.N ++ [(Pt.mk f (T.putL (l.take x.1) st).2)]).length pc3 ∧ (∃ S3 : Nat → Prop, PR wz g S3 (la7, ((T.putL (l.take x.1) st).1.N).length, lc7) (ua7, U7.length, uc7) pa3 pc3 ((T.putL (l.take x.1) st).1.N ++ [(Pt.mk f (T.putL (l.take x.1) st).2)]) ua7 uc7 U7 vb7 vc7 ((T.putL (l.take x.1) st).1.V) ∧ ∀ b, S3 b → S7 b ∨ (fun b => obk x.2.1 x.1 x.2.2 = some b) b) ∧ ∀ b, obk pa3 ((T.putL (l.take x.1) st).1.N ++ [(Pt.mk f (T.putL (l.take x.1) st).2)]).length pc3 = some b → Z7 b ∨ w45.heap.size ≤ b | [_, _, _] => ∃ pa3 pc3, (∃ S3 : Nat → Prop, PR wz g S3 (pa3, ((T.putL (l.take x.1) st).1.N ++ [(Pt.mk f (T.putL (l.take x.1) st).2)]).length, pc3) (ua7, U7.length, uc7) pa3 pc3 ((T.putL (l.take x.1) st).1.N ++ [(Pt.mk f (T.putL (l.take x.1) st).2)]) ua7 uc7 U7 vb7 vc7 ((T.putL (l.take x.1) st).1.V) ∧ ∀ b, S3 b → S7 b ∨ (fun b => obk x.2.1 x.1 x.2.2 = some b) b) ∧ ∀ b, obk pa3 ((T.putL (l.take x.1) st).1.N ++ [(Pt.mk f (T.putL (l.take x.1) st).2)]).length pc3 = some b → Z7 b ∨ w45.heap.size ≤ b | _ => False) vals wa → (fun vals wz => match vals with | [] => PR wz g S7 (la7, ((T.putL (l.take x.1) st).1.N).length, lc7) (ua7, U7.length, uc7) la7 lc7 ((T.putL (l.take x.1) st).1.N) ua7 uc7 U7 vb7 vc7 ((T.putL (l.take x.1) st).1.V) ∧ (∀ b, (fun b => obk x.2.1 x.1 x.2.2 = some b) b → b < wz.heap.size) ∧ InRow eltN (fun b => obk x.2.1 x.1 x.2.2 = some b) wz ((T.putL (l.take x.1) st).2) x.2.1 | [z0] => (PR wz g S7 (la7, ((T.putL (l.take x.1) st).1.N).length, lc7) (ua7, U7.length, uc7) la7 lc7 ((T.putL (l.take x.1) st).1.N) ua7 uc7 U7 vb7 vc7 ((T.putL (l.take x.1) st).1.V) ∧ (∀ b, (fun b => obk x.2.1 x.1 x.2.2 = some b) b → b < wz.heap.size) ∧ InRow eltN (fun b => obk x.2.1 x.1 x.2.2 = some b) wz ((T.putL (l.take x.1) st).2) x.2.1) ∧ ∃ g1, z0 = .slice (some ⟨g1, 0, none⟩) 1 1 ∧ Blk wz g1 69 (List.toArray [.int .i64 f, .slice x.2.1 x.1 x.2.2]) | [_, z1] => ∃ pa3 pc3, z1 = .slice pa3 ((T.putL (l.take x.1) st).1.N ++ [(Pt.mk f (T.putL (l.take x.1) st).2)]).length pc3 ∧ (∃ S3 : Nat → Prop, PR wz g S3 (la7, ((T.putL (l.take x.1) st).1.N).length, lc7) (ua7, U7.length, uc7) pa3 pc3 ((T.putL (l.take x.1) st).1.N ++ [(Pt.mk f (T.putL (l.take x.1) st).2)]) ua7 uc7 U7 vb7 vc7 ((T.putL (l.take x.1) st).1.V) ∧ ∀ b, S3 b → S7 b ∨ (fun b => obk x.2.1 x.1 x.2.2 = some b) b) ∧ ∀ b, obk pa3 ((T.putL (l.take x.1) st).1.N ++ [(Pt.mk f (T.putL (l.take x.1) st).2)]).length pc3 = some b → Z7 b ∨ w45.heap.size ≤ b | [_, _, _] => ∃ pa3 pc3, (∃ S3 : Nat → Prop, PR wz g S3 (pa3, ((T.putL (l.take x.1) st).1.N ++ [(Pt.mk f (T.putL (l.take x.1) st).2)]).length, pc3) (ua7, U7.length, uc7) pa3 pc3 ((T.putL (l.take x.1) st).1.N ++ [(Pt.mk f (T.putL (l.take x.1) st).2)]) ua7 uc7 U7 vb7 vc7 ((T.putL (l.take x.1) st).1.V) ∧ ∀ b, S3 b → S7 b ∨ (fun b => obk x.2.1 x.1 x.2.2 = some b) b) ∧ ∀ b, obk pa3 ((T.putL (l.take x.1) st).1.N ++ [(Pt.mk f (T.putL (l.take x.1) st).2)]).length pc3 = some b → Z7 b ∨ w45.heap.size ≤ b | _ => False) vals wb := by
      intro vals wa wb hb h
      match vals, h with
      | [], h => exact ⟨h.1.below hb, fun b q => Nat.lt_of_lt_of_le (h.2.1 b q) hb.size, h.2.2.below hb⟩
      | [z0], h =>
       obtain ⟨⟨k1, k0, k9⟩, g1, e, k2⟩ := h
       exact ⟨⟨k1.below hb, fun b q => Nat.lt_of_lt_of_le (k0 b q) hb.size, k9.below hb⟩, g1, e, k2.below hb⟩
      | [_, z1], h =>
       obtain ⟨ra, rc, e, ⟨S3, k1, k3⟩, k2⟩ := h
       exact ⟨ra, rc, e, ⟨S3, k1.below hb, k3⟩, k2⟩
      | [_, _, _], h =>
       obtain ⟨ra, rc, ⟨S3, k1, k3⟩, k2⟩ := h
       exact ⟨ra, rc, ⟨S3, k1.below hb, k3⟩, k2⟩
     have hS2g : ∀ b, (fun b => obk x.2.1 x.1 x.2.2 = some b) b → b ≠ g ∧ b ≠ vb7 ∧ obk ua7 U7.length uc7 ≠ some b := fun b q => ⟨fun e => hX7 b (.inr (.inr q)) (e ▸ hRZ7 g (.inl rfl)), fun e => hX7 b (.inr (.inr q)) (e ▸ hRZ7 vb7 (.inr (.inl rfl))), fun e => hX7 b (.inr (.inr q)) (hRZ7 b (.inr (.inr (.inr (.inl e)))))⟩
     have hll : ∀ b, obk la7 ((T.putL (l.take x.1) st).1.N).length lc7 = some b → Z7 b := fun b q => hRZ7 b (.inr (.inr (.inl q)))
     have hg7 : Z7 g := hRZ7 g (.inl rfl)
     refine WC.seqV (S := ((fun b => b = g ∨ obk la7 ((T.putL (l.take x.1) st).1.N).length lc7 = some b))) [(true, .val (.pointer (some ⟨g, 0, none⟩))), (true, .val (.pointer (some ⟨g, 0, none⟩))), (true, .val (.pointer (some ⟨g, 0, none⟩))), (true, .val (.pointer (some ⟨g, 0, none⟩))), (true, .val (.slice la7 (((T.putL (l.take x.1) st).1.N).length) lc7)), (true, .val (.agg #[.int .i64 f, .slice x.2.1 x.1 x.2.2])), (true, .val undef), (true, .val undef), (true, .val (.pointer (some ⟨g, 0, none⟩))), (true, .val (.pointer (some ⟨g, 0, none⟩))), (true, .val undef)] [(0, .pointer (some ⟨g, 0, none⟩)), (1, .agg #[.int .i64 f, .slice a l.length c]), (3, .pointer (some ⟨g2, 0, none⟩)), (4, .int .i64 0), (5, .pointer (some ⟨g22, 0, none⟩)), (6, .int .i64 (((x.1 : Nat) : Int))), (21, .bool (((decide ((f : Int) < (0 : Int))) && (decide ((0 : Int) ≤ (((st.V (vnum f) : Int) - 1) : Int)))))), (38, .bool ((decide ((((x.1 : Nat) : Int) : Int) < (((l.length : Nat) : Int) : Int)))))] [6, 7, 10] [none, none, none] (fun vals wz => match vals with | [] => PR wz g S7 (la7, ((T.putL (l.take x.1) st).1.N).length, lc7) (ua7, U7.length, uc7) la7 lc7 ((T.putL (l.take x.1) st).1.N) ua7 uc7 U7 vb7 vc7 ((T.putL (l.take x.1) st).1.V) ∧ (∀ b, (fun b => obk x.2.1 x.1 x.2.2 = some b) b → b < wz.heap.size) ∧ InRow eltN (fun b => obk x.2.1 x.1 x.2.2 = some b) wz ((T.putL (l.take x.1) st).2) x.2.1 | [z0] => (PR wz g S7 (la7, ((T.putL (l.take x.1) st).1.N).length, lc7) (ua7, U7.length, uc7) la7 lc7 ((T.putL (l.take x.1) st).1.N) ua7 uc7 U7 vb7 vc7 ((T.putL (l.take x.1) st).1.V) ∧ (∀ b, (fun b => obk x.2.1 x.1 x.2.2 = some b) b → b < wz.heap.size) ∧ InRow eltN (fun b => obk x.2.1 x.1 x.2.2 = some b) wz ((T.putL (l.take x.1) st).2) x.2.1) ∧ ∃ g1, z0 = .slice (some ⟨g1, 0, none⟩) 1 1 ∧ Blk wz g1 69 (List.toArray [.int .i64 f, .slice x.2.1 x.1 x.2.2]) | [_, z1] => ∃ pa3 pc3, z1 = .slice pa3 ((T.putL (l.take x.1) st).1.N ++ [(Pt.mk f (T.putL (l.take x.1) st).2)]).length pc3 ∧ (∃ S3 : Nat → Prop, PR wz g S3 (la7, ((T.putL (l.take x.1) st).1.N).length, lc7) (ua7, U7.length, uc7) pa3 pc3 ((T.putL (l.take x.1) st).1.N ++ [(Pt.mk f (T.putL (l.take x.1) st).2)]) ua7 uc7 U7 vb7 vc7 ((T.putL (l.take x.1) st).1.V) ∧ ∀ b, S3 b → S7 b ∨ (fun b => obk x.2.1 x.1 x.2.2 = some b) b) ∧ ∀ b, obk pa3 ((T.putL (l.take x.1) st).1.N ++ [(Pt.mk f (T.putL (l.take x.1) st).2)]).length pc3 = some b → Z7 b ∨ w45.heap.size ≤ b | [_, _, _] => ∃ pa3 pc3, (∃ S3 : Nat → Prop, PR wz g S3 (pa3, ((T.putL (l.take x.1) st).1.N ++ [(Pt.mk f (T.putL (l.take x.1) st).2)]).length, pc3) (ua7, U7.length, uc7) pa3 pc3 ((T.putL (l.take x.1) st).1.N ++ [(Pt.mk f (T.putL (l.take x.1) st).2)]) ua7 uc7 U7 vb7 vc7 ((T.putL (l.take x.1) st).1.V) ∧ ∀ b, S3 b → S7 b ∨ (fun b => obk x.2.1 x.1 x.2.2 = some b) b) ∧ ∀ b, obk pa3 ((T.putL (l.take x.1) st).1.N ++ [(Pt.mk f (T.putL (l.take x.1) st).2)]).length pc3 = some b → Z7 b ∨ w45.heap.size ≤ b | _ => False) hGW9 (by decide) ⟨rfl, rfl, rfl, rfl, rfl, rfl, rfl, rfl, trivial⟩ (by kernel_rfl) (by kernel_rfl) (by kernel_rfl) (by kernel_rfl) (⟨hP7, hrlt, ho50.inRowOwn⟩) ?_ ?_
     ·refine ⟨.inl ⟨rfl, true, .none rfl, (fun gg b h => by cases h), fun h w => optUndef h, fun zβ za zw zc => ?_⟩, ?_⟩
      ·exact wp_move rfl (zc.kn.ev rfl) ⟨_, rfl, Below.refl _ _, optDef zβ rfl⟩
      refine ⟨.inl ⟨rfl, true, .none rfl, (fun gg b h => by cases h), fun h w => optUndef h, fun zβ za zw zc => ?_⟩, ?_⟩
      ·exact wp_move rfl (zc.kn.ev rfl) ⟨_, rfl, Below.refl _ _, optDef zβ rfl⟩
      refine ⟨.inl ⟨rfl, true, .none rfl, (fun gg b h => by cases h), fun h w => optUndef h, fun zβ za zw zc => ?_⟩, ?_⟩
      ·exact nilCheck_ rfl ((evt za 54).trans (optSVal (zc.dep 1 54 (by kernel_rfl) (by decide)) rfl rfl)) ⟨_, rfl, Below.refl _ _, optDef zβ rfl⟩
      refine ⟨.inl ⟨rfl, true, .none rfl, (fun gg b h => by cases h), fun h w => optUndef h, fun zβ za zw zc => ?_⟩, ?_⟩
      ·exact fld_67_0 rfl ((evt za 55).trans (optSVal (zc.dep 2 55 (by kernel_rfl) (by decide)) rfl rfl)) ⟨_, rfl, Below.refl _ _, optDef zβ rfl⟩
      refine ⟨.inl ⟨rfl, true, .none rfl, (fun gg b h => by cases h), fun h w => optUndef h, fun zβ za zw zc => ?_⟩, ?_⟩
      ·obtain ⟨vals, hle, hgv, _⟩ := zc.early 2 10 rfl (by kernel_rfl)
       have hb5 : zw.cell? ⟨g, 0, none⟩ = some (.slice la7 ((T.putL (l.take x.1) st).1.N).length lc7) := by
        match vals, hle, hgv with
        | [], _, hg => exact hg.1.c0
        | [_], _, hg => exact hg.1.1.c0
        | [_, _], _, hg => obtain ⟨_, _, _, ⟨_, k, _⟩, _⟩ := hg; exact k.c0
       exact ld_65 rfl ((evt za 56).trans (optSVal (zc.dep 3 56 (by kernel_rfl) (by decide)) rfl rfl)) hb5 ⟨_, rfl, Below.refl _ _, optDef zβ rfl⟩
      refine ⟨.inl ⟨rfl, true, .none rfl, (fun gg b h => by cases h), fun h w => optUndef h, fun zβ za zw zc => ?_⟩, ?_⟩
      ·exact ld_69 rfl (zc.kn.ev rfl) (chg_cell zc.chg (by first | (intro h9; rcases h9 with h9 | h9; exact hX7 _ (.inl rfl) (h9 ▸ hg7); exact hX7 _ (.inl rfl) (hll _ h9)) | (intro h9; rcases h9 with h9 | h9; exact hX7 _ (.inr (.inl rfl)) (h9 ▸ hg7); exact hX7 _ (.inr (.inl rfl)) (hll _ h9))) ((hB48.cell 0).trans rfl)) (chg_cell zc.chg (by first | (intro h9; rcases h9 with h9 | h9; exact hX7 _ (.inl rfl) (h9 ▸ hg7); exact hX7 _ (.inl rfl) (hll _ h9)) | (intro h9; rcases h9 with h9 | h9; exact hX7 _ (.inr (.inl rfl)) (h9 ▸ hg7); exact hX7 _ (.inr (.inl rfl)) (hll _ h9))) ((hB48.cell 1).trans rfl)) ⟨_, rfl, Below.refl _ _, optDef zβ rfl⟩
      refine ⟨.inr ⟨0, rfl, by kernel_rfl, true, .none rfl, (fun gg b h => by cases h), (fun h => (nomatch h)), fun zβ za zw zvals zc => ?_⟩, ?_⟩
      ·obtain rfl := vlen0 zc.len
       have zn := zc.now
       exact row_65_1 rfl ((evt za 58).trans (optSVal (zc.dep 5 58 (by kernel_rfl) (by decide)) rfl rfl)) ⟨_, rfl, .ofBelow (balloc _ _), ⟨⟨zn.1.below (balloc _ _), fun b q => Nat.lt_of_lt_of_le (zn.2.1 b q) (balloc _ _).size, zn.2.2.below (balloc _ _)⟩, _, rfl, Blk.new' rfl⟩, cvNo⟩
      refine ⟨.inr ⟨1, rfl, by kernel_rfl, true, .none rfl, (fun gg b h => by cases h), (fun h => (nomatch h)), fun zβ za zw zvals zc => ?_⟩, ?_⟩
      ·obtain ⟨z0, rfl⟩ := vlen1 zc.len
       have zn := zc.now
       obtain ⟨⟨k1, k0, k9⟩, g1, e, k2⟩ := zn
       have e0 : z0 = za.tmps.getD 59 undef := Option.some.inj (zc.val 0 6 59 rfl (by kernel_rfl))
       exact wp_appD (E := eltP) (y := (Pt.mk f (T.putL (l.take x.1) st).2)) (S2 := (fun b => obk x.2.1 x.1 x.2.2 = some b)) (size := 2) (bytes := 32) (z := .agg #[.int .i64 0, .slice none 0 0]) rfl Try.underlying65 (by kernel_rfl) rfl (by decide) rfl ((evt za 57).trans (optSVal (zc.dep 4 57 (by kernel_rfl) (by decide)) rfl rfl)) ((evt za 59).trans (e0.symm.trans e)) k1.l k2 ⟨x.2.1, x.2.2, by rw [hlk], k9⟩ (fun b q q2 => hX7 b (.inr (.inr q)) (hll b q2)) (by omega) (by omega) (fun ra3 rc3 w' h1 h2 h3 => ⟨_, rfl, h2.mono (fun b q => .inr q), ⟨ra3, rc3, by rw [List.length_append]; rfl, ⟨_, k1.growL (fun b q => ⟨(hS2g b q).1, (hS2g b q).2.1, k0 b q, (hS2g b q).2.2⟩) h1 h2 h3, fun b q => q.1⟩, fun b q => by rw [List.length_append] at q; exact (h3 b q).imp (hll b) (fun z => Nat.le_trans zc.chg.size z)⟩, cvNo⟩)
      refine ⟨.inl ⟨rfl, true, .none rfl, (fun gg b h => by cases h), fun h w => optUndef h, fun zβ za zw zc => ?_⟩, ?_⟩
      ·exact nilCheck_ rfl ((evt za 53).trans (optSVal (zc.dep 0 53 (by kernel_rfl) (by decide)) rfl rfl)) ⟨_, rfl, Below.refl _ _, optDef zβ rfl⟩
      refine ⟨.inl ⟨rfl, true, .none rfl, (fun gg b h => by cases h), fun h w => optUndef h, fun zβ za zw zc => ?_⟩, ?_⟩
      ·exact fld_67_0 rfl ((evt za 61).trans (optSVal (zc.dep 8 61 (by kernel_rfl) (by decide)) rfl rfl)) ⟨_, rfl, Below.refl _ _, optDef zβ rfl⟩
      refine ⟨.inr ⟨2, rfl, by kernel_rfl, true, .none rfl, (fun gg b h => by cases h), (fun h => (nomatch h)), fun zβ za zw zvals zc => ?_⟩, ?_⟩
      ·obtain ⟨z0, z1, rfl⟩ := vlen2 zc.len
       have zn := zc.now
       obtain ⟨ra3, rc3, e, ⟨S3, k1, k3⟩, k2⟩ := zn
       have e1 : z1 = za.tmps.getD 60 undef := Option.some.inj (zc.val 1 7 60 rfl (by kernel_rfl))
       exact st_65 rfl ((evt za 62).trans (optSVal (zc.dep 9 62 (by kernel_rfl) (by decide)) rfl rfl)) ((evt za 60).trans (e1.symm.trans e)) k1.blk (by first | decide | simp) (fun v => ⟨v, rfl, .ofUpd (Upd.at_ _ _ _ _) (.inl rfl), ⟨ra3, rc3, ⟨S3, k1.storeL, k3⟩, k2⟩, cvNo⟩)
      exact trivial
     ·intro za w64 zvals zh zl hG65 hc66 zu zw zk
      obtain ⟨z0, z1, z2, rfl⟩ := vlen3 zl
      obtain ⟨pa3, pc3, ⟨S3, k29, hS3⟩, hpaZ⟩ := hG65
      have hcz : Chg Z7 w45 w64 := hc66.mono (fun b q => by rcases q with q | q; (rw [q]; exact hg7); exact hll b q)
      have hC67 : Chg Z w w64 := chg_fresh hCx hcz hZ7
      have hb68 := chg_below hb9 hcz (fun q hq h9 => by have z := hZ70 q h9; omega)
      have hB69 := chg_blk hB47 hcz (fun h9 => hX7 _ (.inr (.inl rfl)) h9)
      have hB70 := chg_blk hB48 hcz (fun h9 => hX7 _ (.inl rfl) h9)
      clear zu zw zk
      refine WE.go zh ?_
      refine WE.next (WC.seq ?_)
      have hGY9 : ∀ (vals : List Value) (wa wb : World), Below wa.heap.size wa wb → (fun vals wz => match vals with | [] => PR wz g S3 (pa3, ((T.putL (l.take x.1) st).1.N ++ [(Pt.mk f (T.putL (l.take x.1) st).2)]).length, pc3) (ua7, U7.length, uc7) pa3 pc3 ((T.putL (l.take x.1) st).1.N ++ [(Pt.mk f (T.putL (l.take x.1) st).2)]) ua7 uc7 U7 vb7 vc7 ((T.putL (l.take x.1) st).1.V) | [z0] => (PR wz g S3 (pa3, ((T.putL (l.take x.1) st).1.N ++ [(Pt.mk f (T.putL (l.take x.1) st).2)]).length, pc3) (ua7, U7.length, uc7) pa3 pc3 ((T.putL (l.take x.1) st).1.N ++ [(Pt.mk f (T.putL (l.take x.1) st).2)]) ua7 uc7 U7 vb7 vc7 ((T.putL (l.take x.1) st).1.V)) ∧ ∃ g1, z0 = .slice (some ⟨g1, 0, none⟩) 1 1 ∧ Blk wz g1 3 #[.int .i64 ((((T.putL (l.take x.1) st).1.N).length : Nat) : Int)] | [_, z1] => ∃ ra3 rc3, z1 = .slice ra3 (U7 ++ [((T.putL (l.take x.1) st).1.N).length]).length rc3 ∧ PR wz g S3 (pa3, ((T.putL (l.take x.1) st).1.N ++ [(Pt.mk f (T.putL (l.take x.1) st).2)]).length, pc3) (ua7, U7.length, uc7) pa3 pc3 ((T.putL (l.take x.1) st).1.N ++ [(Pt.mk f (T.putL (l.take x.1) st).2)]) ra3 rc3 ((U7 ++ [((T.putL (l.take x.1) st).1.N).length])) vb7 vc7 ((T.putL (l.take x.1) st).1.V) ∧ (∀ b, obk ra3 (U7 ++ [((T.putL (l.take x.1) st).1.N).length]).length rc3 = some b → Z7 b ∨ w64.heap.size ≤ b) | [_, _, _] => ∃ ra3 rc3, PR wz g S3 (pa3, ((T.putL (l.take x.1) st).1.N ++ [(Pt.mk f (T.putL (l.take x.1) st).2)]).length, pc3) (ra3, (U7 ++ [((T.putL (l.take x.1) st).1.N).length]).length, rc3) pa3 pc3 ((T.putL (l.take x.1) st).1.N ++ [(Pt.mk f (T.putL (l.take x.1) st).2)]) ra3 rc3 ((U7 ++ [((T.putL (l.take x.1) st).1.N).length])) vb7 vc7 ((T.putL (l.take x.1) st).1.V) ∧ (∀ b, obk ra3 (U7 ++ [((T.putL (l.take x.1) st).1.N).length]).length rc3 = some b → Z7 b ∨ w64.heap.size ≤ b) | _ => False) vals wa → (fun vals wz => match vals with | [] => PR wz g S3 (pa3, ((T.putL (l.take x.1) st).1.N ++ [(Pt.mk f (T.putL (l.take x.1) st).2)]).length, pc3) (ua7, U7.length, uc7) pa3 pc3 ((T.putL (l.take x.1) st).1.N ++ [(Pt.mk f (T.putL (l.take x.1) st).2)]) ua7 uc7 U7 vb7 vc7 ((T.putL (l.take x.1) st).1.V) | [z0] => (PR wz g S3 (pa3, ((T.putL (l.take x.1) st).1.N ++ [(Pt.mk f (T.putL (l.take x.1) st).2)]).length, pc3) (ua7, U7.length, uc7) pa3 pc3 ((T.putL (l.take x.1) st).1.N ++ [(Pt.mk f (T.putL (l.take x.1) st).2)]) ua7 uc7 U7 vb7 vc7 ((T.putL (l.take x.1) st).1.V)) ∧ ∃ g1, z0 = .slice (some ⟨g1, 0, none⟩) 1 1 ∧ Blk wz g1 3 #[.int .i64 ((((T.putL (l.take x.1) st).1.N).length : Nat) : Int)] | [_, z1] => ∃ ra3 rc3, z1 = .slice ra3 (U7 ++ [((T.putL (l.take x.1) st).1.N).length]).length rc3 ∧ PR wz g S3 (pa3, ((T.putL (l.take x.1) st).1.N ++ [(Pt.mk f (T.putL (l.take x.1) st).2)]).length, pc3) (ua7, U7.length, uc7) pa3 pc3 ((T.putL (l.take x.1) st).1.N ++ [(Pt.mk f (T.putL (l.take x.1) st).2)]) ra3 rc3 ((U7 ++ [((T.putL (l.take x.1) st).1.N).length])) vb7 vc7 ((T.putL (l.take x.1) st).1.V) ∧ (∀ b, obk ra3 (U7 ++ [((T.putL (l.take x.1) st).1.N).length]).length rc3 = some b → Z7 b ∨ w64.heap.size ≤ b) | [_, _, _] => ∃ ra3 rc3, PR wz g S3 (pa3, ((T.putL (l.take x.1) st).1.N ++ [(Pt.mk f (T.putL (l.take x.1) st).2)]).length, pc3) (ra3, (U7 ++ [((T.putL (l.take x.1) st).1.N).length]).length, rc3) pa3 pc3 ((T.putL (l.take x.1) st).1.N ++ [(Pt.mk f (T.putL (l.take x.1) st).2)]) ra3 rc3 ((U7 ++ [((T.putL (l.take x.1) st).1.N).length])) vb7 vc7 ((T.putL (l.take x.1) st).1.V) ∧ (∀ b, obk ra3 (U7 ++ [((T.putL (l.take x.1) st).1.N).length]).length rc3 = some b → Z7 b ∨ w64.heap.size ≤ b) | _ => False) vals wb := by
       intro vals wa wb hb h
       match vals, h with
       | [], h => exact PR.below h hb
       | [z0], h =>
        obtain ⟨k1, g1, e, k2⟩ := h
        exact ⟨k1.below hb, g1, e, k2.below hb⟩
       | [_, z1], h =>
        obtain ⟨ra, rc, e, k1, k2⟩ := h
        exact ⟨ra, rc, e, k1.below hb, k2⟩
       | [_, _, _], h =>
        obtain ⟨ra, rc, k1, k2⟩ := h
        exact ⟨ra, rc, k1.below hb, k2⟩
      have huu : ∀ b, obk ua7 U7.length uc7 = some b → Z7 b := fun b q => hRZ7 b (.inr (.inr (.inr (.inl q))))
      have hb9b : Below w0.heap.size w0 w64 := hb68
      have hw89 : w45.heap.size ≤ w64.heap.size := hc66.size
      refine WC.seqV (S := ((fun b => b = g ∨ obk ua7 U7.length uc7 = some b))) [(true, .val (.pointer (some ⟨g, 0, none⟩))), (true, .val (.pointer (some ⟨g, 0, none⟩))), (true, .val (.pointer (some ⟨g, 0, none⟩))), (true, .val (.pointer (some ⟨g, 1, none⟩))), (true, .val (.slice ua7 U7.length uc7)), (true, .val (.pointer (some ⟨g, 0, none⟩))), (true, .val (.pointer (some ⟨g, 0, none⟩))), (true, .val (.pointer (some ⟨g, 0, none⟩))), (true, .val (.slice pa3 (((T.putL (l.take x.1) st).1.N ++ [(Pt.mk f (T.putL (l.take x.1) st).2)]).length) pc3)), (true, .val (.int .i64 (((((T.putL (l.take x.1) st).1.N ++ [(Pt.mk f (T.putL (l.take x.1) st).2)]).length : Nat) : Int)))), (true, .val (.int .i64 (((((T.putL (l.take x.1) st).1.N).length : Nat) : Int)))), (true, .val undef), (true, .val undef), (true, .val (.pointer (some ⟨g, 0, none⟩))), (true, .val (.pointer (some ⟨g, 1, none⟩))), (true, .val undef)] [(0, .pointer (some ⟨g, 0, none⟩)), (1, .agg #[.int .i64 f, .slice a l.length c]), (3, .pointer (some ⟨g2, 0, none⟩)), (4, .int .i64 0), (5, .pointer (some ⟨g22, 0, none⟩)), (6, .int .i64 (((x.1 : Nat) : Int))), (21, .bool (((decide ((f : Int) < (0 : Int))) && (decide ((0 : Int) ≤ (((st.V (vnum f) : Int) - 1) : Int)))))), (38, .bool ((decide ((((x.1 : Nat) : Int) : Int) < (((l.length : Nat) : Int) : Int)))))] [11, 12, 15] [none, none, none] (fun vals wz => match vals with | [] => PR wz g S3 (pa3, ((T.putL (l.take x.1) st).1.N ++ [(Pt.mk f (T.putL (l.take x.1) st).2)]).length, pc3) (ua7, U7.length, uc7) pa3 pc3 ((T.putL (l.take x.1) st).1.N ++ [(Pt.mk f (T.putL (l.take x.1) st).2)]) ua7 uc7 U7 vb7 vc7 ((T.putL (l.take x.1) st).1.V) | [z0] => (PR wz g S3 (pa3, ((T.putL (l.take x.1) st).1.N ++ [(Pt.mk f (T.putL (l.take x.1) st).2)]).length, pc3) (ua7, U7.length, uc7) pa3 pc3 ((T.putL (l.take x.1) st).1.N ++ [(Pt.mk f (T.putL (l.take x.1) st).2)]) ua7 uc7 U7 vb7 vc7 ((T.putL (l.take x.1) st).1.V)) ∧ ∃ g1, z0 = .slice (some ⟨g1, 0, none⟩) 1 1 ∧ Blk wz g1 3 #[.int .i64 ((((T.putL (l.take x.1) st).1.N).length : Nat) : Int)] | [_, z1] => ∃ ra3 rc3, z1 = .slice ra3 (U7 ++ [((T.putL (l.take x.1) st).1.N).length]).length rc3 ∧ PR wz g S3 (pa3, ((T.putL (l.take x.1) st).1.N ++ [(Pt.mk f (T.putL (l.take x.1) st).2)]).length, pc3) (ua7, U7.length, uc7) pa3 pc3 ((T.putL (l.take x.1) st).1.N ++ [(Pt.mk f (T.putL (l.take x.1) st).2)]) ra3 rc3 ((U7 ++ [((T.putL (l.take x.1) st).1.N).length])) vb7 vc7 ((T.putL (l.take x.1) st).1.V) ∧ (∀ b, obk ra3 (U7 ++ [((T.putL (l.take x.1) st).1.N).length]).length rc3 = some b → Z7 b ∨ w64.heap.size ≤ b) | [_, _, _] => ∃ ra3 rc3, PR wz g S3 (pa3, ((T.putL (l.take x.1) st).1.N ++ [(Pt.mk f (T.putL (l.take x.1) st).2)]).length, pc3) (ra3, (U7 ++ [((T.putL (l.take x.1) st).1.N).length]).length, rc3) pa3 pc3 ((T.putL (l.take x.1) st).1.N ++ [(Pt.mk f (T.putL (l.take x.1) st).2)]) ra3 rc3 ((U7 ++ [((T.putL (l.take x.1) st).1.N).length])) vb7 vc7 ((T.putL (l.take x.1) st).1.V) ∧ (∀ b, obk ra3 (U7 ++ [((T.putL (l.take x.1) st).1.N).length]).length rc3 = some b → Z7 b ∨ w64.heap.size ≤ b) | _ => False) hGY9 (by decide) ⟨rfl, rfl, rfl, rfl, rfl, rfl, rfl, rfl, trivial⟩ (by kernel_rfl) (by kernel_rfl) (by kernel_rfl) (by kernel_rfl) k29 ?_ ?_
      ·refine ⟨.inl ⟨rfl, true, .none rfl, (fun gg b h => by cases h), fun h w => optUndef h, fun zβ za zw zc => ?_⟩, ?_⟩
       ·exact wp_move rfl (zc.kn.ev rfl) ⟨_, rfl, Below.refl _ _, optDef zβ rfl⟩
       refine ⟨.inl ⟨rfl, true, .none rfl, (fun gg b h => by cases h), fun h w => optUndef h, fun zβ za zw zc => ?_⟩, ?_⟩
       ·exact wp_move rfl (zc.kn.ev rfl) ⟨_, rfl, Below.refl _ _, optDef zβ rfl⟩
       refine ⟨.inl ⟨rfl, true, .none rfl, (fun gg b h => by cases h), fun h w => optUndef h, fun zβ za zw zc => ?_⟩, ?_⟩
       ·exact nilCheck_ rfl ((evt za 64).trans (optSVal (zc.dep 1 64 (by kernel_rfl) (by decide)) rfl rfl)) ⟨_, rfl, Below.refl _ _, optDef zβ rfl⟩
       refine ⟨.inl ⟨rfl, true, .none rfl, (fun gg b h => by cases h), fun h w => optUndef h, fun zβ za zw zc => ?_⟩, ?_⟩
       ·exact fld_67_1 rfl ((evt za 65).trans (optSVal (zc.dep 2 65 (by kernel_rfl) (by decide)) rfl rfl)) ⟨_, rfl, Below.refl _ _, optDef zβ rfl⟩
       refine ⟨.inl ⟨rfl, true, .none rfl, (fun gg b h => by cases h), fun h w => optUndef h, fun zβ za zw zc => ?_⟩, ?_⟩
       ·obtain ⟨vals, hle, hgv, _⟩ := zc.early 2 15 rfl (by kernel_rfl)
        have hb5 : zw.cell? ⟨g, 1, none⟩ = some (.slice ua7 U7.length uc7) := by
         match vals, hle, hgv with
         | [], _, hg => exact PR.c1 hg
         | [_], _, hg => exact hg.1.c1
         | [_, _], _, hg => obtain ⟨_, _, _, k, _⟩ := hg; exact k.c1
        exact ld_48 rfl ((evt za 66).trans (optSVal (zc.dep 3 66 (by kernel_rfl) (by decide)) rfl rfl)) hb5 ⟨_, rfl, Below.refl _ _, optDef zβ rfl⟩
       refine ⟨.inl ⟨rfl, true, .none rfl, (fun gg b h => by cases h), fun h w => optUndef h, fun zβ za zw zc => ?_⟩, ?_⟩
       ·exact wp_move rfl (zc.kn.ev rfl) ⟨_, rfl, Below.refl _ _, optDef zβ rfl⟩
       refine ⟨.inl ⟨rfl, true, .none rfl, (fun gg b h => by cases h), fun h w => optUndef h, fun zβ za zw zc => ?_⟩, ?_⟩
       ·exact nilCheck_ rfl ((evt za 68).trans (optSVal (zc.dep 5 68 (by kernel_rfl) (by decide)) rfl rfl)) ⟨_, rfl, Below.refl _ _, optDef zβ rfl⟩
       refine ⟨.inl ⟨rfl, true, .none rfl, (fun gg b h => by cases h), fun h w => optUndef h, fun zβ za zw zc => ?_⟩, ?_⟩
       ·exact fld_67_0 rfl ((evt za 69).trans (optSVal (zc.dep 6 69 (by kernel_rfl) (by decide)) rfl rfl)) ⟨_, rfl, Below.refl _ _, optDef zβ rfl⟩
       refine ⟨.inl ⟨rfl, true, .none rfl, (fun gg b h => by cases h), fun h w => optUndef h, fun zβ za zw zc => ?_⟩, ?_⟩
       ·obtain ⟨vals, hle, hgv, _⟩ := zc.early 2 15 rfl (by kernel_rfl)
        have hb5 : zw.cell? ⟨g, 0, none⟩ = some (.slice pa3 (((T.putL (l.take x.1) st).1.N ++ [(Pt.mk f (T.putL (l.take x.1) st).2)]).length) pc3) := by
         match vals, hle, hgv with
         | [], _, hg => exact PR.c0 hg
         | [_], _, hg => exact hg.1.c0
         | [_, _], _, hg => obtain ⟨_, _, _, k, _⟩ := hg; exact k.c0
        exact ld_65 rfl ((evt za 70).trans (optSVal (zc.dep 7 70 (by kernel_rfl) (by decide)) rfl rfl)) hb5 ⟨_, rfl, Below.refl _ _, optDef zβ rfl⟩
       refine ⟨.inl ⟨rfl, true, .none rfl, (fun gg b h => by cases h), fun h w => optUndef h, fun zβ za zw zc => ?_⟩, ?_⟩
       ·exact len_65 rfl ((evt za 71).trans (optSVal (zc.dep 8 71 (by kernel_rfl) (by decide)) rfl rfl)) ⟨_, rfl, Below.refl _ _, optDef zβ rfl⟩
       refine ⟨.inl ⟨rfl, true, .none rfl, (fun gg b h => by cases h), fun h w => optUndef h, fun zβ za zw zc => ?_⟩, ?_⟩
       ·exact subb_3 rfl ((evt za 72).trans (optSVal (zc.dep 9 72 (by kernel_rfl) (by decide)) rfl rfl)) (zc.kn.ev rfl) (wrap_eq (by rw [List.length_append]; show ((((T.putL (l.take x.1) st).1.N).length + 1 : Nat) : Int) - 1 = _; omega) (by omega) (by omega)) ⟨_, rfl, Below.refl _ _, optDef zβ rfl⟩
       refine ⟨.inr ⟨0, rfl, by kernel_rfl, true, .none rfl, (fun gg b h => by cases h), (fun h => (nomatch h)), fun zβ za zw zvals zc => ?_⟩, ?_⟩
       ·obtain rfl := vlen0 zc.len
        have zn := zc.now
        exact row_48_1 rfl ((evt za 73).trans (optSVal (zc.dep 10 73 (by kernel_rfl) (by decide)) rfl rfl)) ⟨_, rfl, .ofBelow (balloc _ _), ⟨PR.below zn (balloc _ _), _, rfl, Blk.new' rfl⟩, cvNo⟩
       refine ⟨.inr ⟨1, rfl, by kernel_rfl, true, .none rfl, (fun gg b h => by cases h), (fun h => (nomatch h)), fun zβ za zw zvals zc => ?_⟩, ?_⟩
       ·obtain ⟨z0, rfl⟩ := vlen1 zc.len
        have zn := zc.now
        obtain ⟨k1, g1, e, k2⟩ := zn
        have e0 : z0 = za.tmps.getD 74 undef := Option.some.inj (zc.val 0 11 74 rfl (by kernel_rfl))
        exact wp_appD (E := eltN) (y := ((T.putL (l.take x.1) st).1.N).length) (S2 := fun _ => False) (size := 1) (bytes := 8) (z := .int .i64 0) rfl Try.underlying48 (by kernel_rfl) rfl (by decide) rfl ((evt za 67).trans (optSVal (zc.dep 4 67 (by kernel_rfl) (by decide)) rfl rfl)) ((evt za 74).trans (e0.symm.trans e)) k1.up k2 rfl (fun b q => q.elim) (by omega) (by omega) (fun ra rc w' h1 h2 h3 => ⟨_, rfl, h2.mono (fun b q => .inr q), ⟨ra, rc, by rw [List.length_append]; rfl, k1.growU h1 h2 h3, fun b q => by rw [List.length_append] at q; exact (h3 b q).imp (huu b) (fun z => Nat.le_trans zc.chg.size z)⟩, cvNo⟩)
       refine ⟨.inl ⟨rfl, true, .none rfl, (fun gg b h => by cases h), fun h w => optUndef h, fun zβ za zw zc => ?_⟩, ?_⟩
       ·exact nilCheck_ rfl ((evt za 63).trans (optSVal (zc.dep 0 63 (by kernel_rfl) (by decide)) rfl rfl)) ⟨_, rfl, Below.refl _ _, optDef zβ rfl⟩
       refine ⟨.inl ⟨rfl, true, .none rfl, (fun gg b h => by cases h), fun h w => optUndef h, fun zβ za zw zc => ?_⟩, ?_⟩
       ·exact fld_67_1 rfl ((evt za 76).trans (optSVal (zc.dep 13 76 (by kernel_rfl) (by decide)) rfl rfl)) ⟨_, rfl, Below.refl _ _, optDef zβ rfl⟩
       refine ⟨.inr ⟨2, rfl, by kernel_rfl, true, .none rfl, (fun gg b h => by cases h), (fun h => (nomatch h)), fun zβ za zw zvals zc => ?_⟩, ?_⟩
       ·obtain ⟨z0, z1, rfl⟩ := vlen2 zc.len
        have zn := zc.now
        obtain ⟨ra, rc, e, k1, k2⟩ := zn
        have e1 : z1 = za.tmps.getD 75 undef := Option.some.inj (zc.val 1 12 75 rfl (by kernel_rfl))
        exact st_48 rfl ((evt za 77).trans (optSVal (zc.dep 14 77 (by kernel_rfl) (by decide)) rfl rfl)) ((evt za 75).trans (e1.symm.trans e)) k1.blk (by first | decide | simp) (fun v => ⟨v, rfl, .ofUpd (Upd.at_ _ _ _ _) (.inl rfl), ⟨ra, rc, k1.storeU, k2⟩, cvNo⟩)
       exact trivial
      ·intro za w71 zvals zh zl hG72 hc73 zu zw zk
       obtain ⟨z0, z1, z2, rfl⟩ := vlen3 zl
       obtain ⟨ra3, rc3, k39, hraZ⟩ := hG72
       have hcy : Chg Z7 w64 w71 := hc73.mono (fun b q => by rcases q with q | q; (rw [q]; exact hg7); exact huu b q)
       have hC74 : Chg Z w w71 := chg_fresh hC67 hcy hZ7
       have hb75 := chg_below hb9b hcy (fun q hq h9 => by have z := hZ70 q h9; omega)
       have hB76 := chg_blk hB69 hcy (fun h9 => hX7 _ (.inr (.inl rfl)) h9)
       have hB77 := chg_blk hB70 hcy (fun h9 => hX7 _ (.inl rfl) h9)
       clear zu zw zk
       refine WE.go zh ?_
       refine WE.next (WC.seq (WC.seq (WC.region ?_)))
       refine WL.val _ rfl rfl rfl (fun za zC zh zk => fld_32_0 rfl (zh.ev rfl) zk) ?_
       refine WL.val _ rfl rfl rfl (fun za zC zh zk => ld_3 rfl (zh.ev rfl) ((hB76.cell 0).trans rfl) zk) ?_
       refine WL.val (.bool ((decide ((f : Int) < (0 : Int))))) rfl rfl rfl (fun za zC zh zk => lss_3 rfl (zh.ev rfl) (zh.ev rfl) zk) ?_
       refine WL.nil (WE.next ?_)
       refine WC.cond rfl (fun h78 => ?_) (fun h78 => ?_)
       ·have h78 : (f : Int) < (0 : Int) := by simpa using h78
        have hb79 : Below w0.heap.size w0 w71 := hb75
        have hv11 := hv9 (by omega)
        have hvZ : Z7 vb7 := hRZ7 vb7 (.inr (.inl rfl))
        have hvl : vb7 < w71.heap.size := k39.of.lt
        have hSlt : ∀ b, (fun b => b = vb7) b → b < w71.heap.size := fun b e => by rw [show b = vb7 from e]; exact hvl
        refine WC.tail1 (S := ((fun b => b = vb7))) [(true, .val (.pointer (some ⟨g, 0, none⟩))), (true, .val (.pointer (some ⟨g, 0, none⟩))), (true, .val (.pointer (some ⟨g, 2, none⟩))), (true, .val (.slice ((some ⟨vb7, 0, none⟩)) 96 vc7)), (true, .val (.pointer (some ⟨g2, 0, none⟩))), (true, .val (.int .i64 f)), (true, .val (.int .i64 ((((vnum f) : Nat) : Int)))), (true, .val (.pointer (some ⟨g, 0, none⟩))), (true, .val (.pointer (some ⟨g, 0, none⟩))), (true, .val (.pointer (some ⟨g, 0, none⟩))), (true, .val (.slice pa3 (((T.putL (l.take x.1) st).1.N ++ [(Pt.mk f (T.putL (l.take x.1) st).2)]).length) pc3)), (true, .val (.int .i64 (((((T.putL (l.take x.1) st).1.N ++ [(Pt.mk f (T.putL (l.take x.1) st).2)]).length : Nat) : Int)))), (true, .val (.int .i64 ((((((T.putL (l.take x.1) st).1.N).length + 1 : Nat) : Int) - 1)))), (true, .val (.pointer (some ⟨vb7, 0 + (vnum f), none⟩))), (true, .val undef)] [(0, .pointer (some ⟨g, 0, none⟩)), (1, .agg #[.int .i64 f, .slice a l.length c]), (3, .pointer (some ⟨g2, 0, none⟩)), (4, .int .i64 0), (5, .pointer (some ⟨g22, 0, none⟩)), (6, .int .i64 (((x.1 : Nat) : Int))), (21, .bool (((decide ((f : Int) < (0 : Int))) && (decide ((0 : Int) ≤ (((st.V (vnum f) : Int) - 1) : Int)))))), (38, .bool ((decide ((((x.1 : Nat) : Int) : Int) < (((l.length : Nat) : Int) : Int))))), (80, .bool ((decide ((f : Int) < (0 : Int)))))] 14 (fun wz => PR wz g S3 (pa3, ((T.putL (l.take x.1) st).1.N ++ [(Pt.mk f (T.putL (l.take x.1) st).2)]).length, pc3) (ra3, (U7 ++ [((T.putL (l.take x.1) st).1.N).length]).length, rc3) pa3 pc3 ((T.putL (l.take x.1) st).1.N ++ [(Pt.mk f (T.putL (l.take x.1) st).2)]) ra3 rc3 ((U7 ++ [((T.putL (l.take x.1) st).1.N).length])) vb7 vc7 (NS.setV ((T.putL (l.take x.1) st).1.V) (vnum f) (((T.putL (l.take x.1) st).1.N).length + 1))) (fun w w' hb h => h.below hb) ⟨rfl, rfl, rfl, rfl, rfl, rfl, rfl, rfl, rfl, trivial⟩ (by kernel_rfl) (by kernel_rfl) (by kernel_rfl) (by kernel_rfl) ?_ ?_
        ·refine ⟨.inl ⟨rfl, true, .none rfl, (fun gg b h => by cases h), fun h w => optUndef h, fun zβ za zw zc => ?_⟩, ?_⟩
         ·exact wp_move rfl (zc.kn.ev rfl) ⟨_, rfl, Below.refl _ _, optDef zβ rfl⟩
         refine ⟨.inl ⟨rfl, true, .none rfl, (fun gg b h => by cases h), fun h w => optUndef h, fun zβ za zw zc => ?_⟩, ?_⟩
         ·exact nilCheck_ rfl ((evt za 81).trans (optSVal (zc.dep 0 81 (by kernel_rfl) (by decide)) rfl rfl)) ⟨_, rfl, Below.refl _ _, optDef zβ rfl⟩
         refine ⟨.inl ⟨rfl, true, .none rfl, (fun gg b h => by cases h), fun h w => optUndef h, fun zβ za zw zc => ?_⟩, ?_⟩
         ·exact fld_67_2 rfl ((evt za 82).trans (optSVal (zc.dep 1 82 (by kernel_rfl) (by decide)) rfl rfl)) ⟨_, rfl, Below.refl _ _, optDef zβ rfl⟩
         refine ⟨.inl ⟨rfl, true, .none rfl, (fun gg b h => by cases h), fun h w => optUndef h, fun zβ za zw zc => ?_⟩, ?_⟩
         ·exact ld_48 rfl ((evt za 83).trans (optSVal (zc.dep 2 83 (by kernel_rfl) (by decide)) rfl rfl)) (bkeeps (zc.early (by kernel_rfl)) _ _ k39.c2) ⟨_, rfl, Below.refl _ _, optDef zβ rfl⟩
         refine ⟨.inl ⟨rfl, true, .none rfl, (fun gg b h => by cases h), fun h w => optUndef h, fun zβ za zw zc => ?_⟩, ?_⟩
         ·exact fld_32_0 rfl (zc.kn.ev rfl) ⟨_, rfl, Below.refl _ _, optDef zβ rfl⟩
         refine ⟨.inl ⟨rfl, true, .none rfl, (fun gg b h => by cases h), fun h w => optUndef h, fun zβ za zw zc => ?_⟩, ?_⟩
         ·exact ld_3 rfl ((evt za 85).trans (optSVal (zc.dep 4 85 (by kernel_rfl) (by decide)) rfl rfl)) (bkeeps (zc.early (by kernel_rfl)) _ _ ((hB76.cell 0).trans rfl)) ⟨_, rfl, Below.refl _ _, optDef zβ rfl⟩
         refine ⟨.inl ⟨rfl, true, .none rfl, (fun gg b h => by cases h), fun h w => optUndef h, fun zβ za zw zc => ?_⟩, ?_⟩
         ·exact subb_3 rfl (zc.kn.ev rfl) ((evt za 86).trans (optSVal (zc.dep 5 86 (by kernel_rfl) (by decide)) rfl rfl)) (wrap_eq (by have z := hv9 (by omega); omega) (by have z := hv9 (by omega); omega) (by have z := hv9 (by omega); omega)) ⟨_, rfl, Below.refl _ _, optDef zβ rfl⟩
         refine ⟨.inl ⟨rfl, true, .none rfl, (fun gg b h => by cases h), fun h w => optUndef h, fun zβ za zw zc => ?_⟩, ?_⟩
         ·exact wp_move rfl (zc.kn.ev rfl) ⟨_, rfl, Below.refl _ _, optDef zβ rfl⟩
         refine ⟨.inl ⟨rfl, true, .none rfl, (fun gg b h => by cases h), fun h w => optUndef h, fun zβ za zw zc => ?_⟩, ?_⟩
         ·exact nilCheck_ rfl ((evt za 88).trans (optSVal (zc.dep 7 88 (by kernel_rfl) (by decide)) rfl rfl)) ⟨_, rfl, Below.refl _ _, optDef zβ rfl⟩
         refine ⟨.inl ⟨rfl, true, .none rfl, (fun gg b h => by cases h), fun h w => optUndef h, fun zβ za zw zc => ?_⟩, ?_⟩
         ·exact fld_67_0 rfl ((evt za 89).trans (optSVal (zc.dep 8 89 (by kernel_rfl) (by decide)) rfl rfl)) ⟨_, rfl, Below.refl _ _, optDef zβ rfl⟩
         refine ⟨.inl ⟨rfl, true, .none rfl, (fun gg b h => by cases h), fun h w => optUndef h, fun zβ za zw zc => ?_⟩, ?_⟩
         ·exact ld_65 rfl ((evt za 90).trans (optSVal (zc.dep 9 90 (by kernel_rfl) (by decide)) rfl rfl)) (bkeeps (zc.early (by kernel_rfl)) _ _ k39.c0) ⟨_, rfl, Below.refl _ _, optDef zβ rfl⟩
         refine ⟨.inl ⟨rfl, true, .none rfl, (fun gg b h => by cases h), fun h w => optUndef h, fun zβ za zw zc => ?_⟩, ?_⟩
         ·exact len_65 rfl ((evt za 91).trans (optSVal (zc.dep 10 91 (by kernel_rfl) (by decide)) rfl rfl)) ⟨_, rfl, Below.refl _ _, optDef zβ rfl⟩
         refine ⟨.inl ⟨rfl, true, .none rfl, (fun gg b h => by cases h), fun h w => optUndef h, fun zβ za zw zc => ?_⟩, ?_⟩
         ·exact subb_3 rfl ((evt za 92).trans (optSVal (zc.dep 11 92 (by kernel_rfl) (by decide)) rfl rfl)) (zc.kn.ev rfl) (wrap_eq (by rw [List.length_append]; rfl) (by omega) (by omega)) ⟨_, rfl, Below.refl _ _, optDef zβ rfl⟩
         refine ⟨.inl ⟨rfl, true, .none rfl, (fun gg b h => by cases h), fun h w => optUndef h, fun zβ za zw zc => ?_⟩, ?_⟩
         ·exact ix_48 (k := vnum f) rfl ((evt za 84).trans (optSVal (zc.dep 3 84 (by kernel_rfl) (by decide)) rfl rfl)) rfl ((evt za 87).trans (optSVal (zc.dep 6 87 (by kernel_rfl) (by decide)) rfl rfl)) (hv9 (by omega)).1 ⟨_, rfl, Below.refl _ _, optDef zβ rfl⟩
         refine ⟨.inr ⟨rfl, rfl, fun za zw zc => ?_⟩, ?_⟩
         ·have hpz := PR.below k39 zc.below
          obtain ⟨⟨cs9, hB9, hs9⟩, _⟩ := hpz.of.set_ (v := vnum f) (x := ((T.putL (l.take x.1) st).1.N).length + 1) hv11.1
          exact st_3 rfl ((evt za 94).trans (optSVal (zc.dep 13 94 (by kernel_rfl) (by decide)) rfl rfl)) ((evt za 93).trans (optSVal (zc.dep 12 93 (by kernel_rfl) (by decide)) rfl rfl)) hB9 hs9 (fun v => ⟨v, rfl, hpz.setV hv11.1, .ofUpd (Upd.at_ _ _ _ _) rfl⟩)
         exact trivial
        ·intro za w80 zh hG81 hc82 zu
         have hcv : Chg Z7 w71 w80 := Chg.mono hc82 (fun b e => by rw [show b = vb7 from e]; exact hvZ)
         have hC83 : Chg Z w w80 := chg_fresh hC74 hcv hZ7
         have hb84 := chg_below hb79 hcv (fun q hq h9 => by have z := hZ70 q h9; omega)
         have hB85 := chg_blk hB76 hcv (fun h9 => hX7 _ (.inr (.inl rfl)) h9)
         have hB86 := chg_blk hB77 hcv (fun h9 => hX7 _ (.inl rfl) h9)
         clear zu
         refine WE.go zh ?_
         refine WE.next (WC.seq (WC.region (WL.mv rfl rfl rfl rfl rfl ?_)))
         refine WL.val _ rfl rfl rfl (fun za zC zh zk => nilCheck_ rfl (zh.ev rfl) zk) ?_
         refine WL.val _ rfl rfl rfl (fun za zC zh zk => fld_67_0 rfl (zh.ev rfl) zk) ?_
         refine WL.val _ rfl rfl rfl (fun za zC zh zk => ld_65 rfl (zh.ev rfl) hG81.c0 zk) ?_
         refine WL.val (.int .i64 (((((T.putL (l.take x.1) st).1.N ++ [(Pt.mk f (T.putL (l.take x.1) st).2)]).length : Nat) : Int))) rfl rfl rfl (fun za zC zh zk => len_65 rfl (zh.ev rfl) zk) ?_
         refine WL.val (.int .i64 (((((T.putL (l.take x.1) st).1.N).length : Nat) : Int))) rfl rfl rfl (fun za zC zh zk => subb_3 rfl (zh.ev rfl) (zh.ev rfl) (wrap_eq (by rw [List.length_append]; show ((((T.putL (l.take x.1) st).1.N).length + 1 : Nat) : Int) - 1 = _; omega) (by omega) (by omega)) zk) ?_
         refine WL.asg rfl rfl rfl rfl rfl ?_
         refine WL.nil (WE.sub (K' := [(0, .pointer (some ⟨g, 0, none⟩)), (1, .agg #[.int .i64 f, .slice a l.length c]), (3, .pointer (some ⟨g2, 0, none⟩)), (4, .int .i64 (((((T.putL (l.take x.1) st).1.N).length : Nat) : Int))), (5, .pointer (some ⟨g22, 0, none⟩)), (6, .int .i64 (((x.1 : Nat) : Int))), (21, .bool (((decide ((f : Int) < (0 : Int))) && (decide ((0 : Int) ≤ (((st.V (vnum f) : Int) - 1) : Int)))))), (38, .bool ((decide ((((x.1 : Nat) : Int) : Int) < (((l.length : Nat) : Int) : Int))))), (80, .bool ((decide ((f : Int) < (0 : Int)))))]) ⟨rfl, rfl, rfl, rfl, rfl, rfl, rfl, rfl, rfl, trivial⟩ ?_)
         refine WE.next (WC.ret (WE.ret1 rfl rfl ?_))
         have hz7 : T.putL (l.take x.1) st = (st, []) := by rw [hput, (hf96 (by omega)).2]; rfl
         have hV0 : st.V (vnum f) = 0 := by omega
         have e : (T.mk f l).put st = (⟨((T.putL (l.take x.1) st).1.N ++ [(Pt.mk f (T.putL (l.take x.1) st).2)]), (NS.setV ((T.putL (l.take x.1) st).1.V) (vnum f) (((T.putL (l.take x.1) st).1.N).length + 1))⟩, ((T.putL (l.take x.1) st).1.N).length) := by
          rw [hz7, T.put, if_pos (by omega)]; unfold NS.var; rw [if_neg (by omega)]
         have hU2 : (U7 ++ [((T.putL (l.take x.1) st).1.N).length]).length = ((T.putL (l.take x.1) st).1.N ++ [(Pt.mk f (T.putL (l.take x.1) st).2)]).length := by rw [List.length_append, List.length_append, hU7]; rfl
         rw [e]
         refine ⟨_, rfl, rfl, ⟨(U7 ++ [((T.putL (l.take x.1) st).1.N).length]), fun b => (Z b ∨ w.heap.size ≤ b) ∧ b < w80.heap.size, by rw [← hU7]; exact hR7.push (by rw [hU7]; exact fun i hi => hκ i (by omega)), ⟨S3, pa3, pc3, ra3, rc3, vb7, vc7, hG81, hU2, fun b q => ⟨?_, hG81.lt b q⟩, fun b q => q.2⟩, fun b q => q.1, fun b q => q.elim⟩, hC83⟩
         have hw8 : w.heap.size ≤ w45.heap.size := hwW
         have hz9 : ∀ b, Z7 b → Z b ∨ w.heap.size ≤ b := hZ7
         rcases q with q | q | q | q | q
         ·exact .inl (q ▸ hgZ)
         ·exact hz9 b (q ▸ hRZ7 vb7 (.inr (.inl rfl)))
         ·rcases hpaZ b q with z | z; exact hz9 b z; (right; omega)
         ·rcases hraZ b q with z | z; exact hz9 b z; (right; omega)
         ·rcases hS3 b q with z | z; exact hz9 b (hRZ7 b (.inr (.inr (.inr (.inr z))))); exact .inr (hownw b z).1
       ·have h78 : ¬ ((f : Int) < (0 : Int)) := by simpa using h78
        refine WC.skip (WE.next (WC.seq (WC.region (WL.mv rfl rfl rfl rfl rfl ?_))))
        refine WL.val _ rfl rfl rfl (fun za zC zh zk => nilCheck_ rfl (zh.ev rfl) zk) ?_
        refine WL.val _ rfl rfl rfl (fun za zC zh zk => fld_67_0 rfl (zh.ev rfl) zk) ?_
        refine WL.val _ rfl rfl rfl (fun za zC zh zk => ld_65 rfl (zh.ev rfl) k39.c0 zk) ?_
        refine WL.val (.int .i64 (((((T.putL (l.take x.1) st).1.N ++ [(Pt.mk f (T.putL (l.take x.1) st).2)]).length : Nat) : Int))) rfl rfl rfl (fun za zC zh zk => len_65 rfl (zh.ev rfl) zk) ?_
        refine WL.val (.int .i64 (((((T.putL (l.take x.1) st).1.N).length : Nat) : Int))) rfl rfl rfl (fun za zC zh zk => subb_3 rfl (zh.ev rfl) (zh.ev rfl) (wrap_eq (by rw [List.length_append]; show ((((T.putL (l.take x.1) st).1.N).length + 1 : Nat) : Int) - 1 = _; omega) (by omega) (by omega)) zk) ?_
        refine WL.asg rfl rfl rfl rfl rfl ?_
        refine WL.nil (WE.sub (K' := [(0, .pointer (some ⟨g, 0, none⟩)), (1, .agg #[.int .i64 f, .slice a l.length c]), (3, .pointer (some ⟨g2, 0, none⟩)), (4, .int .i64 (((((T.putL (l.take x.1) st).1.N).length : Nat) : Int))), (5, .pointer (some ⟨g22, 0, none⟩)), (6, .int .i64 (((x.1 : Nat) : Int))), (21, .bool (((decide ((f : Int) < (0 : Int))) && (decide ((0 : Int) ≤ (((st.V (vnum f) : Int) - 1) : Int)))))), (38, .bool ((decide ((((x.1 : Nat) : Int) : Int) < (((l.length : Nat) : Int) : Int))))), (80, .bool ((decide ((f : Int) < (0 : Int)))))]) ⟨rfl, rfl, rfl, rfl, rfl, rfl, rfl, rfl, rfl, trivial⟩ ?_)
        refine WE.next (WC.ret (WE.ret1 rfl rfl ?_))
        have e : (T.mk f l).put st = (⟨((T.putL (l.take x.1) st).1.N ++ [(Pt.mk f (T.putL (l.take x.1) st).2)]), (T.putL (l.take x.1) st).1.V⟩, ((T.putL (l.take x.1) st).1.N).length) := by
         rw [hput, T.put, if_neg (by omega)]
        have hU2 : (U7 ++ [((T.putL (l.take x.1) st).1.N).length]).length = ((T.putL (l.take x.1) st).1.N ++ [(Pt.mk f (T.putL (l.take x.1) st).2)]).length := by rw [List.length_append, List.length_append, hU7]; rfl
        rw [e]
        refine ⟨_, rfl, rfl, ⟨(U7 ++ [((T.putL (l.take x.1) st).1.N).length]), fun b => (Z b ∨ w.heap.size ≤ b) ∧ b < w71.heap.size, by rw [← hU7]; exact hR7.push (by rw [hU7]; exact fun i hi => hκ i (by omega)), ⟨S3, pa3, pc3, ra3, rc3, vb7, vc7, k39, hU2, fun b q => ⟨?_, k39.lt b q⟩, fun b q => q.2⟩, fun b q => q.1, fun b q => q.elim⟩, hC74⟩
        have hw8 : w.heap.size ≤ w45.heap.size := hwW
        have hz9 : ∀ b, Z7 b → Z b ∨ w.heap.size ≤ b := hZ7
        rcases q with q | q | q | q | q
        ·exact .inl (q ▸ hgZ)
        ·exact hz9 b (q ▸ hRZ7 vb7 (.inr (.inl rfl)))
        ·rcases hpaZ b q with z | z; exact hz9 b z; (right; omega)
        ·rcases hraZ b q with z | z; exact hz9 b z; (right; omega)
        ·rcases hS3 b q with z | z; exact hz9 b (hRZ7 b (.inr (.inr (.inr (.inr z))))); exact .inr (hownw b z).1
end Go.Proofs.Ythhgidliopohcaa

/- Pairs of terms, in memory. -/
namespace Go.Proofs.Ythhgidliopohcaa
open Go.RowKit Go
set_option linter.unusedVariables false
set_option linter.unusedSimpArgs false
def eltD : Elt (T × T) where
  k := 4
  In := fun S w p cs => ∃ u v x y, cs = [u, v, x, y] ∧ InT S w p.1 (.agg #[u, v]) ∧ InT S w p.2 (.agg #[x, y])
  keep := fun hb ⟨u, v, x, y, e, h1, h2⟩ => ⟨u, v, x, y, e, h1.keep hb, h2.keep hb⟩
  mono := fun hb ⟨u, v, x, y, e, h1, h2⟩ => ⟨u, v, x, y, e, h1.mono hb, h2.mono hb⟩
  len := fun ⟨_, _, _, _, e, _, _⟩ => by rw [e]; rfl
  one := fun ⟨u, v, x, y, e, h1, h2⟩ q hq => by
    obtain ⟨_, a, c, e1, _⟩ := h1.form
    obtain ⟨_, a', c', e2, _⟩ := h2.form
    simp only [Value.agg.injEq, Array.mk.injEq, List.cons.injEq, and_true] at e1 e2
    rw [e] at hq
    simp only [List.mem_cons, List.not_mem_nil, or_false] at hq
    rcases hq with rfl | rfl | rfl | rfl
    · rw [e1.1]; rfl
    · rw [e1.2]; rfl
    · rw [e2.1]; rfl
    · rw [e2.2]; rfl
def prget (l : List (T × T)) (k : Nat) : T × T := l.getD k (.mk 0 [], .mk 0 [])
theorem prget_lt {l : List (T × T)} {k : Nat} (h : k < l.length) : prget l k = l[k] := by simp [prget, h]
theorem prget_mem {l : List (T × T)} {k : Nat} (h : k < l.length) : prget l k ∈ l := by rw [prget_lt h]; exact List.getElem_mem h
/-- A row of pairs of terms. -/
def IsPs (w : World) (l : List (T × T)) (a : Option Addr) (c : Nat) : Prop := InRow eltD (fun _ => True) w l a ∧ l.length ≤ c ∧ c ≤ maxLen
section
variable {w w' : World} {l : List (T × T)} {a : Option Addr} {c : Nat}
theorem IsPs.below (h : IsPs w l a c) (hb : Below w.heap.size w w') : IsPs w' l a c := ⟨h.1.below hb, h.2⟩
theorem IsPs.open (h : IsPs w l a c) : ∃ (b o : Nat) (A1 : Nat → Option Addr) (C1 : Nat → Nat) (A2 : Nat → Option Addr) (C2 : Nat → Nat), (∀ k, k < l.length → a = some ⟨b, o, none⟩) ∧
    ∀ k, k < l.length → w.cell? ⟨b, o + k * 4, none⟩ = some (.int .i64 (prget l k).1.f) ∧ w.cell? ⟨b, o + k * 4 + 1, none⟩ = some (.slice (A1 k) (prget l k).1.args.length (C1 k)) ∧ w.cell? ⟨b, o + k * 4 + 2, none⟩ = some (.int .i64 (prget l k).2.f) ∧ w.cell? ⟨b, o + k * 4 + 3, none⟩ = some (.slice (A2 k) (prget l k).2.args.length (C2 k)) ∧
      IsT w (prget l k).1 (.agg #[.int .i64 (prget l k).1.f, .slice (A1 k) (prget l k).1.args.length (C1 k)]) ∧ IsT w (prget l k).2 (.agg #[.int .i64 (prget l k).2.f, .slice (A2 k) (prget l k).2.args.length (C2 k)]) := by
  rcases Nat.eq_zero_or_pos l.length with h0 | h0
  · exact ⟨0, 0, fun _ => none, fun _ => 0, fun _ => none, fun _ => 0, fun k hk => by omega, fun k hk => by omega⟩
  · obtain ⟨b, o, _, ha, _⟩ := h.1 0 h0
    have key : ∀ k, k < l.length → ∃ p : (Option Addr × Nat) × Option Addr × Nat, w.cell? ⟨b, o + k * 4, none⟩ = some (.int .i64 (prget l k).1.f) ∧ w.cell? ⟨b, o + k * 4 + 1, none⟩ = some (.slice p.1.1 (prget l k).1.args.length p.1.2) ∧ w.cell? ⟨b, o + k * 4 + 2, none⟩ = some (.int .i64 (prget l k).2.f) ∧ w.cell? ⟨b, o + k * 4 + 3, none⟩ = some (.slice p.2.1 (prget l k).2.args.length p.2.2) ∧
        IsT w (prget l k).1 (.agg #[.int .i64 (prget l k).1.f, .slice p.1.1 (prget l k).1.args.length p.1.2]) ∧ IsT w (prget l k).2 (.agg #[.int .i64 (prget l k).2.f, .slice p.2.1 (prget l k).2.args.length p.2.2]) := by
      intro k hk
      obtain ⟨b2, o2, cs, e1, _, ⟨u, v, x, y, h3, h5, h6⟩, h4⟩ := h.1 k hk
      rw [ha] at e1
      simp only [Option.some.injEq, Addr.mk.injEq, and_true] at e1
      obtain ⟨rfl, rfl⟩ := e1
      subst h3
      rw [← prget_lt hk] at h5 h6
      obtain ⟨_, a1, c1, e1, _⟩ := h5.isT.form
      obtain ⟨_, a2, c2, e2, _⟩ := h6.isT.form
      have k1 := h5.isT
      have k2 := h6.isT
      simp only [Value.agg.injEq, Array.mk.injEq, List.cons.injEq, and_true] at e1 e2
      obtain ⟨rfl, rfl⟩ := e1
      obtain ⟨rfl, rfl⟩ := e2
      exact ⟨((a1, c1), (a2, c2)), h4 0 (by decide), h4 1 (by decide), h4 2 (by decide), h4 3 (by decide), k1, k2⟩
    have : Inhabited ((Option Addr × Nat) × Option Addr × Nat) := ⟨((none, 0), (none, 0))⟩
    obtain ⟨F, hF⟩ := Go.Deep.choose_lt key
    exact ⟨b, o, fun k => (F k).1.1, fun k => (F k).1.2, fun k => (F k).2.1, fun k => (F k).2.2, fun _ _ => ha, hF⟩
/-- One pair in a block of its own. -/
theorem IsPs.one {g e : Nat} {t s : T} {u v x y : Value} (hB : Blk w g e #[u, v, x, y]) (h1 : IsT w t (.agg #[u, v])) (h2 : IsT w s (.agg #[x, y])) : IsPs w [(t, s)] (some ⟨g, 0, none⟩) 1 := by
  refine ⟨fun i hi => ?_, Nat.le_refl _, by unfold maxLen; omega⟩
  have hi' : i < 1 := hi
  obtain rfl : i = 0 := by omega
  refine ⟨g, 0, [u, v, x, y], rfl, trivial, ⟨u, v, x, y, rfl, h1.inT.mono (fun _ _ _ => trivial), h2.inT.mono (fun _ _ _ => trivial)⟩, fun j hj => ?_⟩
  rw [Nat.zero_mul, Nat.zero_add, hB.cell j]; simp
end
end Go.Proofs.Ythhgidliopohcaa

/- All pairs are joined, plain: how it stands behind so many of them. -/
namespace Go.Proofs.Ythhgidliopohcaa
open Go.RowKit Go
set_option linter.unusedVariables false
set_option linter.unusedSimpArgs false
mutual
/-- The symbols are ints. -/
def T.sy : T → Prop
  | .mk f l => I64 f ∧ T.syL l
def T.syL : List T → Prop
  | [] => True
  | t :: r => t.sy ∧ T.syL r
end
mutual
theorem IsT.sy {w : World} : ∀ {t : T} {v : Value}, IsT w t v → t.sy
  | .mk f l, v, ⟨h1, _, _, _, _, _, h2⟩ => ⟨h1, IsTs.syL h2⟩
theorem IsTs.syL {w : World} : ∀ {l : List T} {a : Option Addr} {i : Nat}, IsTs w l a i → T.syL l
  | [], _, _, _ => trivial
  | t :: r, a, i, ⟨⟨_, _, _, _, _, _, _, h3⟩, h4⟩ => ⟨IsT.sy h3, IsTs.syL h4⟩
end
def NSy (N : List Pt) : Prop := ∀ p ∈ N, I64 p.fn
theorem NSy.app {N : List Pt} {x : Pt} (h : NSy N) (hx : I64 x.fn) : NSy (N ++ [x]) := fun p hp => by
  rcases List.mem_append.1 hp with q | q
  · exact h p q
  · rw [List.mem_singleton.1 q]; exact hx
theorem NSy.at_ {N : List Pt} (h : NSy N) {i : Nat} (hi : i < N.length) : I64 (pget N i).fn := by rw [pget_lt hi]; exact h _ (List.getElem_mem hi)
mutual
theorem put_sy : ∀ (t : T) (st : NS), t.sy → NSy st.N → NSy (t.put st).1.N
  | .mk f l, st, ⟨h1, h2⟩, h => by
    rw [T.put]
    split
    · unfold NS.var
      split
      · exact h
      · exact h.app h1
    · exact (putL_sy l st h2 h).app h1
theorem putL_sy : ∀ (l : List T) (st : NS), T.syL l → NSy st.N → NSy (T.putL l st).1.N
  | [], st, _, h => h
  | t :: r, st, ⟨h1, h2⟩, h => by rw [T.putL]; exact putL_sy r _ h2 (put_sy t st h1 h)
end
/-- So many pairs have been joined. -/
structure SolveGo (rv : Bool) (l : List (T × T)) (k : Nat) (st : NS) (κ : Nat → Nat) : Prop where
  run : NRun rv (l.take k) ⟨[], fun _ => 0⟩ id (some (st, κ))
  ok : NetOk st
  cl : KCl st.N κ
  len : st.N.length ≤ k * 600
  arg : argN st.N ≤ k * 600
  sy : NSy st.N
theorem SolveGo.start (rv : Bool) (l : List (T × T)) : SolveGo rv l 0 ⟨[], fun _ => 0⟩ id := ⟨.nil _ _, net0_ok, kcl0, Nat.zero_le _, Nat.le_refl _, fun p hp => by simp at hp⟩
theorem prtake_succ {l : List (T × T)} {k : Nat} (h : k < l.length) : l.take (k + 1) = l.take k ++ [((prget l k).1, (prget l k).2)] := by
  rw [List.take_succ_eq_append_getElem h, prget_lt h]
theorem prdrop {l : List (T × T)} {k : Nat} (h : k < l.length) : l = l.take k ++ ((prget l k).1, (prget l k).2) :: l.drop (k + 1) := by
  conv => lhs; rw [← List.take_append_drop k l, List.drop_eq_getElem_cons h, ← prget_lt h]
/-- One pair more: put, and then joined. -/
structure SolvePut (rv : Bool) (l : List (T × T)) (k : Nat) (st st1 st2 : NS) (κ : Nat → Nat) (i j : Nat) : Prop where
  ok1 : NetOk st1
  ok2 : NetOk st2
  len1 : st1.N.length ≤ k * 600 + 300
  len2 : st2.N.length ≤ (k + 1) * 600
  le : st.N.length ≤ st1.N.length
  arg2 : argN st2.N ≤ (k + 1) * 600
  cl : KCl st2.N κ
  hi : i < st2.N.length
  hj : j < st2.N.length
  yes : ∀ κ', Run rv st2.N [(i, j)] κ (some κ') → SolveGo rv l (k + 1) st2 κ'
  no : Run rv st2.N [(i, j)] κ none → NRun rv l ⟨[], fun _ => 0⟩ id none
theorem SolveGo.put {rv : Bool} {l : List (T × T)} {k : Nat} {st : NS} {κ : Nat → Nat} (h : SolveGo rv l k st κ) (hk : k < l.length) (h1 : (prget l k).1.size ≤ 300) (h2 : (prget l k).2.size ≤ 300) (s1 : (prget l k).1.sy) (s2 : (prget l k).2.sy) :
    SolvePut rv l k st ((prget l k).1.put st).1 ((prget l k).2.put ((prget l k).1.put st).1).1 κ ((prget l k).1.put st).2 ((prget l k).2.put ((prget l k).1.put st).1).2 := by
  have p1 := put_ok (prget l k).1 st h.ok
  have p2 := put_ok (prget l k).2 _ p1.1.ok
  have a1 := put_argN (prget l k).1 st h.ok
  have a2 := put_argN (prget l k).2 _ p1.1.ok
  have y1 := put_sy _ st s1 h.sy
  have y2 := put_sy _ _ s2 y1
  have l1 := p1.1.len
  have l2 := p2.1.len
  have e1 := p2.1.le
  have hl := h.len
  have ha := h.arg
  have hc : KCl ((prget l k).2.put ((prget l k).1.put st).1).1.N κ := by
    obtain ⟨M1, m1⟩ := p1.1.ext
    obtain ⟨M2, m2⟩ := p2.1.ext
    rw [m2, m1]; exact h.cl.grow.grow
  have hi : ((prget l k).1.put st).2 < ((prget l k).2.put ((prget l k).1.put st).1).1.N.length := by have := p1.2; omega
  have hIR : InR ((prget l k).2.put ((prget l k).1.put st).1).1.N [(((prget l k).1.put st).2, ((prget l k).2.put ((prget l k).1.put st).1).2)] := fun p hp => by
    rw [List.mem_singleton.1 hp]; exact ⟨hi, p2.2⟩
  refine ⟨p1.1.ok, p2.1.ok, by omega, by omega, p1.1.le, by omega, hc, hi, p2.2, fun κ' hr => ?_, fun hr => ?_⟩
  · have hin : Inv ((prget l k).2.put ((prget l k).1.put st).1).1.N κ [(((prget l k).1.put st).2, ((prget l k).2.put ((prget l k).1.put st).1).2)] := fun p q hp hq e h0 h1 => by
      obtain ⟨z1, z2, z3⟩ := hc.inv p q hp hq e h0 h1
      exact ⟨z1, z2, fun S hS hκ ht => z3 S hS hκ (fun x hx => by simp at hx)⟩
    obtain ⟨hz, _⟩ := Run.ok p2.1.ok.args hr hc.ok hIR hin
    obtain ⟨k1, k2, _⟩ := hz κ' rfl
    exact ⟨by rw [prtake_succ hk]; exact (NRun.snoc h.run).1 κ' hr, p2.1.ok, ⟨k1, k2⟩, by omega, by omega, y2⟩
  · have := (NRun.snoc h.run).2 hr (l.drop (k + 1))
    rw [← prdrop hk] at this; exact this
/-- What may be asked. -/
def wideB (l : List (T × T)) : Bool := decide (l.length ≤ 64) && l.all (fun p => p.1.small 96 && p.2.small 96)
theorem wide_at {l : List (T × T)} (h : l.length ≤ 64) : wideB l = true ↔ ∀ k, k < l.length → (prget l k).1.small 96 = true ∧ (prget l k).2.small 96 = true := by
  unfold wideB
  rw [Bool.and_eq_true, decide_eq_true_eq, List.all_eq_true]
  constructor
  · intro ⟨_, h2⟩ k hk
    have := h2 _ (prget_mem hk)
    rwa [Bool.and_eq_true] at this
  · intro h2
    refine ⟨h, fun p hp => ?_⟩
    obtain ⟨k, hk, rfl⟩ := List.getElem_of_mem hp
    rw [← prget_lt hk, Bool.and_eq_true]; exact h2 k hk
theorem wide_no {l : List (T × T)} {k : Nat} (hk : k < l.length) (h : ¬ ((prget l k).1.small 96 = true ∧ (prget l k).2.small 96 = true)) : wideB l = false := by
  rw [Bool.eq_false_iff]; intro e
  have h64 : l.length ≤ 64 := by unfold wideB at e; rw [Bool.and_eq_true, decide_eq_true_eq] at e; exact e.1
  exact h ((wide_at h64).1 e k hk)
theorem wide_len {l : List (T × T)} (h : 64 < l.length) : wideB l = false := by
  unfold wideB; rw [decide_eq_false (by omega)]; rfl
theorem small_low {t : T} (h : t.small 96 = true) : t.size ≤ 300 ∧ t.low 96 = true := by
  unfold T.small at h
  rw [Bool.and_eq_true, Bool.and_eq_true, decide_eq_true_eq] at h
  exact ⟨h.1.1, h.2⟩
end Go.Proofs.Ythhgidliopohcaa

/- A new net; its variables, read all at once. -/
namespace Go.Proofs.Ythhgidliopohcaa
open Go.RowKit Go
set_option linter.unusedVariables false
set_option linter.unusedSimpArgs false
section
variable {w : World} {a : Act} {K : Act → World → Prop} {Q : Exit → Act → World → Prop} {o : Oper}
def net0 : Array Value := netC none 0 0 none 0 0 (fun _ => 0)
theorem build_net (ho : o.op = .build 54 #[]) (hK : K (a.put o.dst (.agg net0)) w) : o.wp Try.prog a w K Q := by
  have e : (Try.prog.built 54 (((#[] : Array (Nat × Operand)).map fun (i, x) => (i, a.eval x)).toList)) = some net0 := by
    simp only [List.map_toArray, List.map_nil]
    kernel_rfl
  refine wp_build _ _ ho (by rw [e]; rfl) ?_
  rw [e]; exact hK
theorem box_net {x : Operand} {cs : Array Value} (ho : o.op = .box 54 x) (hx : a.eval x = .agg cs) (hK : K (a.put o.dst (.pointer (some ⟨w.heap.size, 0, none⟩))) (w.alloc (.cells cs 54))) : o.wp Try.prog a w K Q := by
  unfold Oper.wp execOp
  simp only [ho, hx]
  go_simp
  exact hK
def varsC (V : Nat → Nat) : List Value := (List.range 96).map (fun v => Value.int .i64 ((V v : Nat) : Int))
theorem ld_vars {x : Operand} {g : Nat} {V : Nat → Nat} (ho : o.op = .load 52 x) (hx : a.eval x = .pointer (some ⟨g, 2, none⟩)) (hc : ∀ v, v < 96 → w.cell? ⟨g, 2 + v, none⟩ = some (.int .i64 ((V v : Nat) : Int))) (hK : K (a.put o.dst (.agg (varsC V).toArray)) w) : o.wp Try.prog a w K Q :=
  wp_load_mid 52 x ho g 2 hx (varsC V) (.array 96 3) (fun j v hv => by
    unfold varsC at hv
    rw [List.getElem?_map] at hv
    by_cases hj : j < 96
    · rw [List.getElem?_range hj] at hv
      obtain rfl := Option.some.inj hv
      exact hc j hj
    · rw [List.getElem?_eq_none (by simpa using hj)] at hv; cases hv) Try.underlying52 rfl (by
      rw [show (varsC V).length = 96 by simp [varsC]]; kernel_rfl) hK
theorem ix_vars {x y : Operand} {V : Nat → Nat} {k : Nat} (ho : o.op = .index 52 x y) (hx : a.eval x = .agg (varsC V).toArray) (hy : a.eval y = .int .i64 (k : Int)) (hk : k < 96) (hK : K (a.put o.dst (.int .i64 ((V k : Nat) : Int))) w) : o.wp Try.prog a w K Q := by
  have h : (varsC V)[k]? = some (.int .i64 ((V k : Nat) : Int)) := by
    unfold varsC
    rw [List.getElem?_map, List.getElem?_range hk]; rfl
  have h0 : (0 : Int) ≤ (k : Int) := by omega
  have h1 : (k : Int) < 96 := by omega
  unfold Oper.wp execOp
  simp only [ho, hx, hy, Instr.index]
  go_simp
  exact hK
end
/-- A new net holds nothing. -/
theorem NetX.new {w : World} {g : Nat} (hB : Blk w g 54 net0) : NetX w g (fun b => b = g) [] [] (fun _ => 0) :=
  ⟨fun _ => False, none, 0, none, 0, ⟨hB, RowD.nil, RowD.nil, (fun b q => nomatch q), (fun b q => nomatch q), (fun b q => q.elim)⟩, (fun b q => by
    rcases q with q | q | q | q
    · exact q
    · cases q
    · cases q
    · cases q), (fun b q => by rw [show b = g from q]; exact hB.lt)⟩
theorem reps0 : Reps [] id (fun _ => 0) := ⟨fun i hi => by simp at hi⟩
theorem MB.made {w : World} {b n : Nat} (hB : Blk w b 59 (madeCells (Value.cells (.agg #[.int .i64 0, .int .i64 0, .bool false])) (n * 3))) : MB w b (List.replicate n ⟨0, 0, false⟩) := by
  refine ⟨_, hB, by rw [size_madeCells, List.length_replicate], fun k hk t ht => ?_⟩
  rw [List.length_replicate] at hk
  have e : mget (List.replicate n (⟨0, 0, false⟩ : Ms)) k = ⟨0, 0, false⟩ := by rw [mget_lt (by simpa using hk)]; simp
  rw [e]
  have hz : Value.cells (.agg #[.int .i64 0, .int .i64 0, .bool false]) = #[.int .i64 0, .int .i64 0, .bool false] := rfl
  unfold madeCells
  rw [hz, Array.getElem?_map, Array.getElem?_range, if_pos (by omega)]
  have hm : (k * 3 + t) % 3 = t := by omega
  show some _ = _
  simp only [Option.map_some, List.size_toArray, List.length_cons, List.length_nil, Nat.zero_add, Nat.reduceAdd, hm]
  match t, ht with
  | 0, _ => rfl
  | 1, _ => rfl
  | 2, _ => rfl
theorem AskOk.new (N : List Pt) (κ : Nat → Nat) : AskOk N κ (List.replicate N.length ⟨0, 0, false⟩) := by
  have e : ∀ k, (mget (List.replicate N.length (⟨0, 0, false⟩ : Ms)) k).sz = 0 := fun k => by
    by_cases h : k < N.length
    · rw [mget_lt (by simpa using h)]; simp
    · rw [mget_ge (by simpa using h)]
  exact ⟨by simp, fun r h => by rw [e] at h; omega, fun r h => by rw [e] at h; omega⟩
end Go.Proofs.Ythhgidliopohcaa

namespace Go.Proofs.Ythhgidliopohcaa
open Go.RowKit Go
set_option linter.unusedVariables false
set_option linter.unusedSimpArgs false
section
variable {P : Program} {n : Fr} {K : Known} {w : World} {Q : Exit → Act → World → Prop} {c : Code}
theorem WC.scope (hr : n.r = none) (h : WC P n K w c (Exit.noGoto Q)) : WC P n K w (.scope c) Q := fun a ha => by
  have z := h a ha
  rw [hr] at z ⊢
  exact wpIn_wide.2 (wp_scope_straight (wpIn_wide.1 z))
theorem WE.scopeRet (h : WE n K w Q .ret) : WE n K w (Exit.noGoto Q) .ret := h
end
end Go.Proofs.Ythhgidliopohcaa
