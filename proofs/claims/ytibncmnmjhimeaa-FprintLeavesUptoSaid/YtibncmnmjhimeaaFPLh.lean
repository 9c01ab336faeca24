/- Terms compared and found the same: the document's way. -/
import Derived.Test.YtibncmnmjhimeaaFPLg
import Derived.Test.YtibncmnmjhimeaaFPLc
import Derived.Test.YtibncmnmjhimeaaFPLd
import Derived.Test.YtibncmnmjhimeaaFPLb
import Derived.Test.YtibncmnmjhimeaaFPLa

/- What an index tells: the program. -/
namespace Go.Proofs.Ytibncmnmjhimeaa
open Go.RowKit Go
set_option linter.unusedVariables false
set_option linter.unusedSimpArgs false
set_option maxRecDepth 100000 in
theorem rise_any {S : Nat → Prop} {ra : Option Addr} {rc n : Nat} {L : List Int} (w : World) (hR : Own w S 3 1 ra rc n (L.map (Value.int .i64))) (hz : n ≤ 4294967296) : Calls Try.prog 42 #[.slice ra n rc] w (Ret fun v' w' => ∃ (l : List Int) (a : Option Addr) (c : Nat), v' = .slice a l.length c ∧ l.length ≤ c ∧ c ≤ maxLen ∧ InRow eltI S w' l a ∧ ((∀ x, x ∈ l ↔ x ∈ L) ∧ RiseP l) ∧ Chg S w w') := by
 skip
 refine Calls.walk (l := [.slice ra n rc]) Try.func42 rfl (by kernel_rfl) ?_
 refine WC.sub (K' := [(0, .slice ra n rc)]) ⟨rfl, trivial⟩ ?_
 refine WC.seq (WC.region (WL.asg rfl rfl rfl rfl rfl (WL.nil (WE.next (WC.seq (WC.region (WL.mv rfl rfl rfl rfl rfl ?_)))))))
 refine WL.call rfl rfl rfl (fun za zh zC => wp_call (by kernel_rfl) rfl (hv1 (zh.ev rfl))) (sort_own hR hz) ?_
 rintro _ w1 ⟨L2, rfl, ⟨hm2, hp2⟩, hR2, hcs⟩
 refine WL.nil (WE.next (WC.seq (WC.region (WL.mv rfl rfl rfl rfl rfl ?_))))
 refine WL.call rfl rfl rfl (fun za zh zC => wp_call (by kernel_rfl) rfl (hv1 (zh.ev rfl))) (compact_own hR2 hz hp2) ?_
 rintro _ w2 ⟨l3, a3, c3, rfl, hl3, hc3, hr3, ⟨hm3, hp3⟩, hcs3⟩
 refine WL.asg rfl rfl rfl rfl rfl (WL.nil (WE.next (WC.ret (WE.ret1 rfl rfl ?_))))
 exact ⟨_, rfl, l3, a3, c3, rfl, hl3, hc3, hr3, ⟨fun x => (hm3 x).trans (hm2 x), hp3⟩, Chg.trans hcs hcs3⟩
/-- A bucket's numbers. -/
abbrev bagI (B : List TI) (k : List Int) : List Int := (bag B k).map (·.2)
theorem ext1_0 {P : Program} {w : World} {a : Act} {K : Act → World → Prop} {Q : Exit → Act → World → Prop} {o : Oper} {x : Operand} {v0 : Value} (ho : o.op = .extract x 0) (hx : a.eval x = .tuple #[v0]) (hK : K (a.put o.dst (v0)) w) : o.wp P a w K Q := by
 unfold Oper.wp execOp
 simp only [ho, hx]
 go_simp
 exact hK
theorem take_int {l : List Int} {k : Nat} (h : k < l.length) : l.take (k + 1) = l.take k ++ [l.getD k 0] := by
 rw [List.take_add_one, List.getElem?_eq_getElem h, List.getD_eq_getElem?_getD, List.getElem?_eq_getElem h]; rfl
/-- What is told lies in rows of its own. -/
def Told (w0 w : World) (l : List Int) (v : Value) : Prop := ∃ a c, v = .slice a l.length c ∧ l.length ≤ c ∧ c ≤ maxLen ∧ InRow eltI (fun b => w0.heap.size ≤ b) w l a
set_option maxRecDepth 100000 in
set_option maxHeartbeats 1000000 in
theorem ask_any (g : Nat) (Z : Nat → Prop) (B : List TI) (w : World) (way : Nat) (t : T) (v : Value) (hBl : B.length ≤ 1000000) (ht : IsT w t v) (hK : FpIs w g Z B) : Calls Try.prog 27 #[.pointer (some ⟨g, 0, none⟩), v, .func (.func (fnW way)) #[] #[]] w (Ret fun v' w' => Told w w' (askP B way (prt t)) v' ∧ Below w.heap.size w w') := by
 have hvt := ht
 obtain ⟨_, ta, tc, rfl, _, _, _⟩ := ht.form
 have hK0 := hK
 obtain ⟨m, es, clock, KL, S9, hO, hZ, hZl⟩ := hK0
 have hgl := hO.blk.lt
 have hml := hO.obj.lt
 refine Calls.walk (l := [.pointer (some ⟨g, 0, none⟩), .agg #[.int .i64 t.f, .slice ta t.args.length tc], .func (.func (fnW way)) #[] #[]]) Try.func27 rfl (by kernel_rfl) ?_
 refine WC.sub (K' := [(0, .pointer (some ⟨g, 0, none⟩)), (1, .agg #[.int .i64 t.f, .slice ta t.args.length tc]), (2, .func (.func (fnW way)) #[] #[])]) ⟨rfl, rfl, rfl, trivial⟩ ?_
 refine WC.seq (WC.region ?_)
 refine WL.step (post := NewBlk w 24 #[.int .i64 t.f, .slice ta t.args.length tc]) rfl rfl rfl (fun za zC zh zk => box_24 rfl (zh.ev rfl) (zk _ _ (newBlk _ _ _))) ?_
 rintro _ w1 ⟨g2, rfl, hg3, hB4, hb5, hz6⟩
 have hl7 : w.heap.size ≤ g2 := by omega
 refine WL.step (post := NewBlk w1 56 #[.func (.func (fnW way)) #[] #[]]) rfl rfl rfl (fun za zC zh zk => box_56 rfl (zh.ev rfl) (zk _ _ (newBlk _ _ _))) ?_
 rintro _ w8 ⟨g9, rfl, hg10, hB11, hb12, hz13⟩
 have hl14 : g2 < g9 := by have z1 := hB4.lt; omega
 have hl15 : w.heap.size ≤ g9 := by have z2 := (hb5).size; omega
 refine WL.asg rfl rfl rfl rfl rfl (WL.nil (WE.next (WC.seq (WC.seq (WC.region (WL.mv rfl rfl rfl rfl rfl ?_))))))
 have hb16 : Below w.heap.size w w8 := (bstep hb5 hb12)
 refine WL.call rfl rfl rfl (fun za zh zC => wp_call (by kernel_rfl) rfl (hv1 (zh.ev rfl))) (fok_any g Z B _ (FpIs.below hK hb16)) ?_
 rintro _ w18 ⟨rfl, hq17⟩
 refine WL.val (.bool false) rfl rfl rfl (fun za zC zh zk => wp_not rfl (zh.ev rfl) zk) ?_
 refine WL.nil (WE.next ?_)
 refine WC.condF rfl rfl ?_
 refine WC.skip (WE.next (WC.seq (WC.region ?_)))
 have hb20 : Below w1.heap.size w1 w18 := (bstep hb12 hq17)
 have hB19 := hB4.below hb20
 refine WL.val _ rfl rfl rfl (fun za zC zh zk => ld_24 rfl (zh.ev rfl) ((hB19.cell 0).trans rfl) ((hB19.cell 1).trans rfl) zk) ?_
 have hb21 : Below w.heap.size w w18 := (bstep hb5 hb20)
 refine WL.call rfl rfl rfl (fun za zh zC => wp_call (by kernel_rfl) rfl (hv1 (zh.ev rfl))) (of_any t _ _ (IsT.below hb21 hvt)) ?_
 rintro _ w22 ⟨rfl, hbo⟩
 refine WL.step (post := NewBlk w22 50 #[.int .i64 0, .int .i64 0, .int .i64 0, .int .i64 0, .int .i64 0, .int .i64 0, .int .i64 0, .int .i64 0]) rfl rfl rfl (fun za zC zh zk => alloc_50 rfl (zk _ _ (newBlk _ _ _))) ?_
 rintro _ w23 ⟨g24, rfl, hg25, hB26, hb27, hz28⟩
 have hl29 : g2 < g24 := by have z1 := hB19.lt; have z2 := (hbo).size; omega
 have hb30 : Below w8.heap.size w8 w22 := (bstep hq17 hbo)
 have hl31 : g9 < g24 := by have z1 := hB11.lt; have z2 := (hb30).size; omega
 have hb32 : Below w.heap.size w w22 := (bstep hb16 hb30)
 have hl33 : w.heap.size ≤ g24 := by have z2 := (hb32).size; omega
 refine WL.step (post := fun _ w' => Upd g24 w23 w' ∧ Blk w' g24 50 #[.int .i64 ((ltr t [])), .int .i64 ((ltr t [0])), .int .i64 ((ltr t [1])), .int .i64 ((ltr t [2])), .int .i64 ((ltr t [0, 0])), .int .i64 ((ltr t [0, 1])), .int .i64 ((ltr t [1, 0])), .int .i64 ((ltr t [1, 1]))]) rfl rfl rfl (fun za zC zh zk => st_50 rfl (zh.ev rfl) (zh.ev rfl) rfl rfl rfl rfl rfl rfl rfl rfl hB26 (by first | decide | simp) (fun v => by have zb0 : Blk _ g24 50 #[.int .i64 ((ltr t [])), .int .i64 0, .int .i64 0, .int .i64 0, .int .i64 0, .int .i64 0, .int .i64 0, .int .i64 0] := hB26.set_ 0 _; have zb1 : Blk _ g24 50 #[.int .i64 ((ltr t [])), .int .i64 ((ltr t [0])), .int .i64 0, .int .i64 0, .int .i64 0, .int .i64 0, .int .i64 0, .int .i64 0] := zb0.set_ 1 _; have zb2 : Blk _ g24 50 #[.int .i64 ((ltr t [])), .int .i64 ((ltr t [0])), .int .i64 ((ltr t [1])), .int .i64 0, .int .i64 0, .int .i64 0, .int .i64 0, .int .i64 0] := zb1.set_ 2 _; have zb3 : Blk _ g24 50 #[.int .i64 ((ltr t [])), .int .i64 ((ltr t [0])), .int .i64 ((ltr t [1])), .int .i64 ((ltr t [2])), .int .i64 0, .int .i64 0, .int .i64 0, .int .i64 0] := zb2.set_ 3 _; have zb4 : Blk _ g24 50 #[.int .i64 ((ltr t [])), .int .i64 ((ltr t [0])), .int .i64 ((ltr t [1])), .int .i64 ((ltr t [2])), .int .i64 ((ltr t [0, 0])), .int .i64 0, .int .i64 0, .int .i64 0] := zb3.set_ 4 _; have zb5 : Blk _ g24 50 #[.int .i64 ((ltr t [])), .int .i64 ((ltr t [0])), .int .i64 ((ltr t [1])), .int .i64 ((ltr t [2])), .int .i64 ((ltr t [0, 0])), .int .i64 ((ltr t [0, 1])), .int .i64 0, .int .i64 0] := zb4.set_ 5 _; have zb6 : Blk _ g24 50 #[.int .i64 ((ltr t [])), .int .i64 ((ltr t [0])), .int .i64 ((ltr t [1])), .int .i64 ((ltr t [2])), .int .i64 ((ltr t [0, 0])), .int .i64 ((ltr t [0, 1])), .int .i64 ((ltr t [1, 0])), .int .i64 0] := zb5.set_ 6 _; have zb7 : Blk _ g24 50 #[.int .i64 ((ltr t [])), .int .i64 ((ltr t [0])), .int .i64 ((ltr t [1])), .int .i64 ((ltr t [2])), .int .i64 ((ltr t [0, 0])), .int .i64 ((ltr t [0, 1])), .int .i64 ((ltr t [1, 0])), .int .i64 ((ltr t [1, 1]))] := zb6.set_ 7 _; exact zk v _ ⟨(((((((Upd.at_ _ _ _ _).trans (Upd.at_ _ _ _ _)).trans (Upd.at_ _ _ _ _)).trans (Upd.at_ _ _ _ _)).trans (Upd.at_ _ _ _ _)).trans (Upd.at_ _ _ _ _)).trans (Upd.at_ _ _ _ _)).trans (Upd.at_ _ _ _ _), zb7⟩)) ?_
 rintro v37 w34 ⟨hu35, hB36⟩
 have hb38 : Below w.heap.size w w23 := (bstep hb32 hb27)
 have hb39 := upd_below hb38 hu35 (by omega)
 have hb41 : Below w18.heap.size w18 w23 := (bstep hbo hb27)
 have hB40 := hB19.below hb41
 have hB42 := upd_blk hB40 hu35 (by omega)
 have hb44 : Below w8.heap.size w8 w23 := (bstep hq17 hb41)
 have hB43 := hB11.below hb44
 have hB45 := upd_blk hB43 hu35 (by omega)
 refine WL.nil (WE.next (WC.seq (WC.region (WL.asg rfl rfl rfl rfl rfl (WL.nil (WE.next (WC.seq (WC.region ?_))))))))
 refine WL.step (post := NewBlk w34 75 #[.nilFunc]) rfl rfl rfl (fun za zC zh zk => alloc_75 rfl (zk _ _ (newBlk _ _ _))) ?_
 rintro _ w46 ⟨g47, rfl, hg48, hB49, hb50, hz51⟩
 have hl52 : g2 < g47 := by have z1 := hB42.lt; omega
 have hl53 : g9 < g47 := by have z1 := hB45.lt; omega
 have hl54 : g24 < g47 := by have z1 := hB36.lt; omega
 have hl55 : w.heap.size ≤ g47 := by have z2 := (hb39).size; omega
 refine WL.nil (WE.next (WC.seq (WC.region ?_)))
 refine WL.val (.func (Fn.func 41) #[] #[.pointer (some ⟨g9, 0, none⟩), .pointer (some ⟨g24, 0, none⟩), .pointer (some ⟨g47, 0, none⟩)]) rfl rfl rfl (fun za zC zh zk => mkfn rfl (hv0) (hv3 (zh.ev rfl) (zh.ev rfl) (zh.ev rfl)) zk) ?_
 refine WL.step (post := fun _ w' => Upd g47 w46 w' ∧ Blk w' g47 75 #[.func (Fn.func 41) #[] #[.pointer (some ⟨g9, 0, none⟩), .pointer (some ⟨g24, 0, none⟩), .pointer (some ⟨g47, 0, none⟩)]]) rfl rfl rfl (fun za zC zh zk => st_75 rfl (zh.ev rfl) (zh.ev rfl) hB49 (by first | decide | simp) (fun v => zk v _ ⟨Upd.at_ _ _ _ _, hB49.set_ 0 _⟩)) ?_
 rintro v59 w56 ⟨hu57, hB58⟩
 have hb60 : Below w.heap.size w w46 := (bstep hb39 hb50)
 have hb61 := upd_below hb60 hu57 (by omega)
 have hB62 := hB42.below hb50
 have hB63 := upd_blk hB62 hu57 (by omega)
 have hB64 := hB45.below hb50
 have hB65 := upd_blk hB64 hu57 (by omega)
 have hB66 := hB36.below hb50
 have hB67 := upd_blk hB66 hu57 (by omega)
 refine WL.nil (WE.next (WC.seq (WC.seq (WC.region (WL.mv rfl rfl rfl rfl rfl ?_)))))
 refine WL.val _ rfl rfl rfl (fun za zC zh zk => nilCheck_ rfl (zh.ev rfl) zk) ?_
 refine WL.val _ rfl rfl rfl (fun za zC zh zk => fld_48_0 rfl (zh.ev rfl) zk) ?_
 have hc68 := bkeeps hb61 _ _ hO.c0
 refine WL.val _ rfl rfl rfl (fun za zC zh zk => ld_46 rfl (zh.ev rfl) hc68 zk) ?_
 refine WL.step (post := fun v w' => NewIt w56 m clock v w') rfl rfl rfl (fun za zC zh zk => wp_range_im Try.underlying46 (hO.obj.below hb61) rfl (zh.ev rfl) (fun v w' h => zk v w' h)) ?_
 rintro _ w69 ⟨g70, rfl, hg71, hI72, hb73, hs74⟩
 have hl75 : g2 < g70 := by have z1 := hB63.lt; omega
 have hl76 : g9 < g70 := by have z1 := hB65.lt; omega
 have hl77 : g24 < g70 := by have z1 := hB67.lt; omega
 have hl78 : g47 < g70 := by have z1 := hB58.lt; omega
 have hl79 : w.heap.size ≤ g70 := by have z2 := (hb61).size; omega
 refine WL.nil (WE.next (WC.block ?_))
 have hl80 : g2 < w69.heap.size := by have z1 := hB63.lt; have z2 := (hb73).size; omega
 have hl81 : g9 < w69.heap.size := by have z1 := hB65.lt; have z2 := (hb73).size; omega
 have hl82 : g24 < w69.heap.size := by have z1 := hB67.lt; have z2 := (hb73).size; omega
 have hl83 : g47 < w69.heap.size := by have z1 := hB58.lt; have z2 := (hb73).size; omega
 have hl84 : g70 < w69.heap.size := by have z1 := hI72.lt; omega
 have hb86 : Below w.heap.size w w69 := (bstep hb61 hb73)
 have hl85 : w.heap.size ≤ w69.heap.size := (hb86).size
 have hR87 : RowE eltI w69 w69.heap.size 3 none 0 0 [] := RowE.nil
 refine WC.loop (X := FX) (fun x => x.rest.length) (fun x => [(0, .pointer (some ⟨g, 0, none⟩)), (1, .agg #[.int .i64 t.f, .slice ta t.args.length tc]), (2, .func (.func (fnW way)) #[] #[]), (4, .pointer (some ⟨g2, 0, none⟩)), (5, .pointer (some ⟨g9, 0, none⟩)), (6, .slice none 0 0), (7, .pointer (some ⟨g24, 0, none⟩)), (8, .slice x.ra x.n x.rc), (9, .pointer (some ⟨g47, 0, none⟩)), (16, .bool false), (24, .pointer (some ⟨g70, 0, none⟩))]) (fun x w88 => w69.heap.size ≤ (w88).heap.size ∧ ItG encP es (KL.map bkV) x.seen x.done x.rest ∧ Below w.heap.size w w88 ∧ Blk w88 g2 24 #[.int .i64 t.f, .slice ta t.args.length tc] ∧ Blk w88 g9 56 #[.func (.func (fnW way)) #[] #[]] ∧ Blk w88 g24 50 #[.int .i64 ((ltr t [])), .int .i64 ((ltr t [0])), .int .i64 ((ltr t [1])), .int .i64 ((ltr t [2])), .int .i64 ((ltr t [0, 0])), .int .i64 ((ltr t [0, 1])), .int .i64 ((ltr t [1, 0])), .int .i64 ((ltr t [1, 1]))] ∧ Blk w88 g47 75 #[.func (Fn.func 41) #[] #[.pointer (some ⟨g9, 0, none⟩), .pointer (some ⟨g24, 0, none⟩), .pointer (some ⟨g47, 0, none⟩)]] ∧ ObjAt (w88) g70 (.mapIter (some m) clock x.seen clock) ∧ RowE eltI (w88) w69.heap.size 3 x.ra x.rc x.n ((askOf B way (prt t) x.done))) (⟨[], KL.map bkV, #[], none, 0, 0⟩) ⟨rfl, rfl, rfl, rfl, rfl, rfl, rfl, rfl, rfl, rfl, rfl, trivial⟩ ?_ ?_
 ·have hB89 := hB63.below hb73
  have hB90 := hB65.below hb73
  have hB91 := hB67.below hb73
  have hB92 := hB58.below hb73
  exact ⟨Nat.le_refl _, ItG.start hO.ent, hb86, hB89, hB90, hB91, hB92, hI72, hR87⟩
 ·rintro x w88 ⟨hBw, hIt, hb93, hB94, hB95, hB96, hB97, ho98, ho99⟩
  refine WC.seq (WC.region ?_)
  refine WL.step (post := fun v w' => (v = .tuple #[.bool false] ∧ w88 = w' ∧ x.rest = []) ∨ ∃ (y : List Int × Value) (rest2 : List (List Int × Value)) (seen2 : Array Nat), v = .tuple #[.bool true, encP y.1, y.2] ∧ x.rest.Perm (y :: rest2) ∧ rest2.length < x.rest.length ∧ ItG encP es (KL.map bkV) seen2 (x.done ++ [y]) rest2 ∧ CurG encP es seen2 y ∧ ObjAt w' g70 (.mapIter (some m) clock seen2 clock) ∧ Upd g70 w88 w') rfl rfl rfl (fun za zC zh zk => wp_next_gm (hO.obj.below hb93) ho98 hO.ent hIt rfl (zh.ev rfl) (fun h => zk _ _ (.inl ⟨rfl, rfl, h⟩)) (fun y r2 s2 w' h1 h2 h3 h4 h5 h6 => zk _ _ (.inr ⟨y, r2, s2, rfl, h1, h2, h3, h4, h5, h6⟩))) ?_
  rintro v w100 (⟨rfl, rfl, hre⟩ | ⟨y, rest2, seen2, rfl, hrp, hrl, hIt2, hcu, hI102, hu101⟩)
  ·refine WL.val (.bool false) rfl rfl rfl (fun za zC zh zk => ext1_0 rfl (zh.ev rfl) zk) ?_
   refine WL.nil (WE.next (WC.seq ?_))
   refine WC.condF rfl rfl ?_
   refine WC.exit (WE.thenExit (WE.thenExit (WE.blockIs rfl (WE.next (WC.seq (WC.region (WL.mv rfl rfl rfl rfl rfl ?_)))))))
   rw [hre] at hIt
   have hnB : x.n ≤ B.length := by have z := (ho99).len; have z2 := hIt.total (B := B) (way := way) (q := (prt t)) hO.nd; omega
   have hWr : w.heap.size ≤ w69.heap.size := by omega
   refine WL.call rfl rfl rfl (fun za zh zC => wp_call (by kernel_rfl) rfl (hv1 (zh.ev rfl))) (rise_any _ ho99.own (by omega)) ?_
   rintro _ w103 ⟨ls, la, lc, rfl, hll, hlc, hrs, ⟨hms, hps⟩, hcs⟩
   refine WL.asg rfl rfl rfl rfl rfl (WL.nil (WE.next (WC.ret (WE.ret1 rfl rfl ?_))))
   have he9 := askOf_done hO hIt hps hms
   subst he9
   exact ⟨_, rfl, ⟨_, _, rfl, hll, hlc, hrs.mono (by decide) (fun b q _ => by have q2 : w69.heap.size ≤ b := q; omega)⟩, (chg_below hb93 hcs (fun b hb q => by have q2 : w69.heap.size ≤ b := q; omega))⟩
  ·obtain ⟨b9, hb9, rfl⟩ := hIt.memL hrp
   obtain ⟨p0, p1, p2, p3, p4, p5, p6, p7, hk8⟩ := len8 (hO.ent.ok _ (List.mem_map_of_mem hb9))
   have hk9 : b9.key = [p0, p1, p2, p3, p4, p5, p6, p7] := hk8
   have hy1 : encP (bkV b9).1 = .agg #[.int .i64 p0, .int .i64 p1, .int .i64 p2, .int .i64 p3, .int .i64 p4, .int .i64 p5, .int .i64 p6, .int .i64 p7] := by show encP b9.key = _; rw [hk9]; rfl
   have hy2 : (bkV b9).2 = .slice b9.a b9.rows.length b9.c := rfl
   have hrm := hIt.room (B := B) (way := way) (q := (prt t)) hO.nd hrp
   have hrm : (askOf B way (prt t) x.done).length + (bag B b9.key).length ≤ B.length := hrm
   have hbr := (hO.bags b9 hb9).1
   have hbl9 : b9.rows.length = (bag B b9.key).length := by rw [hbr]
   rw [hy1, hy2]
   have hR104 : RowE eltI w100 w69.heap.size 3 x.ra x.rc x.n ((askOf B way (prt t) x.done)) := ho99.upd hu101 (by omega)
   have hb105 := upd_below hb93 hu101 (by omega)
   have hB106 := upd_blk hB94 hu101 (by omega)
   have hB107 := upd_blk hB95 hu101 (by omega)
   have hB108 := upd_blk hB96 hu101 (by omega)
   have hB109 := upd_blk hB97 hu101 (by omega)
   refine WL.val (.bool true) rfl rfl rfl (fun za zC zh zk => ext3_0 rfl (zh.ev rfl) zk) ?_
   refine WL.nil (WE.next (WC.seq ?_))
   refine WC.condT rfl rfl ?_
   refine WC.skip (WE.next (WC.block (WC.seq (WC.region ?_))))
   refine WL.val (.tuple #[.agg #[.int .i64 p0, .int .i64 p1, .int .i64 p2, .int .i64 p3, .int .i64 p4, .int .i64 p5, .int .i64 p6, .int .i64 p7], .slice b9.a b9.rows.length b9.c]) rfl rfl rfl (fun za zC zh zk => wp_entry_gm (hO.obj.below hb105) hI102 hO.ent hcu rfl (zh.ev rfl) (by rw [hy1, hy2]; exact zk)) ?_
   refine WL.val (.agg #[.int .i64 p0, .int .i64 p1, .int .i64 p2, .int .i64 p3, .int .i64 p4, .int .i64 p5, .int .i64 p6, .int .i64 p7]) rfl rfl rfl (fun za zC zh zk => ext2_0 rfl (zh.ev rfl) zk) ?_
   refine WL.val (.slice b9.a b9.rows.length b9.c) rfl rfl rfl (fun za zC zh zk => ext2_1 rfl (zh.ev rfl) zk) ?_
   refine WL.step (post := NewBlk w100 50 #[.int .i64 0, .int .i64 0, .int .i64 0, .int .i64 0, .int .i64 0, .int .i64 0, .int .i64 0, .int .i64 0]) rfl rfl rfl (fun za zC zh zk => alloc_50 rfl (zk _ _ (newBlk _ _ _))) ?_
   rintro _ w110 ⟨g111, rfl, hg112, hB113, hb114, hz115⟩
   have hl116 : g2 < g111 := by have z1 := hB106.lt; omega
   have hl117 : g9 < g111 := by have z1 := hB107.lt; omega
   have hl118 : g24 < g111 := by have z1 := hB108.lt; omega
   have hl119 : g47 < g111 := by have z1 := hB109.lt; omega
   have hl120 : g70 < g111 := by have z1 := hI102.lt; omega
   have hl121 : w.heap.size ≤ g111 := by have z2 := (hb105).size; omega
   have hl122 : w100.heap.size ≤ g111 := by omega
   refine WL.step (post := fun _ w' => Upd g111 w110 w' ∧ Blk w' g111 50 #[.int .i64 p0, .int .i64 p1, .int .i64 p2, .int .i64 p3, .int .i64 p4, .int .i64 p5, .int .i64 p6, .int .i64 p7]) rfl rfl rfl (fun za zC zh zk => st_50 rfl (zh.ev rfl) (zh.ev rfl) rfl rfl rfl rfl rfl rfl rfl rfl hB113 (by first | decide | simp) (fun v => by have zb0 : Blk _ g111 50 #[.int .i64 p0, .int .i64 0, .int .i64 0, .int .i64 0, .int .i64 0, .int .i64 0, .int .i64 0, .int .i64 0] := hB113.set_ 0 _; have zb1 : Blk _ g111 50 #[.int .i64 p0, .int .i64 p1, .int .i64 0, .int .i64 0, .int .i64 0, .int .i64 0, .int .i64 0, .int .i64 0] := zb0.set_ 1 _; have zb2 : Blk _ g111 50 #[.int .i64 p0, .int .i64 p1, .int .i64 p2, .int .i64 0, .int .i64 0, .int .i64 0, .int .i64 0, .int .i64 0] := zb1.set_ 2 _; have zb3 : Blk _ g111 50 #[.int .i64 p0, .int .i64 p1, .int .i64 p2, .int .i64 p3, .int .i64 0, .int .i64 0, .int .i64 0, .int .i64 0] := zb2.set_ 3 _; have zb4 : Blk _ g111 50 #[.int .i64 p0, .int .i64 p1, .int .i64 p2, .int .i64 p3, .int .i64 p4, .int .i64 0, .int .i64 0, .int .i64 0] := zb3.set_ 4 _; have zb5 : Blk _ g111 50 #[.int .i64 p0, .int .i64 p1, .int .i64 p2, .int .i64 p3, .int .i64 p4, .int .i64 p5, .int .i64 0, .int .i64 0] := zb4.set_ 5 _; have zb6 : Blk _ g111 50 #[.int .i64 p0, .int .i64 p1, .int .i64 p2, .int .i64 p3, .int .i64 p4, .int .i64 p5, .int .i64 p6, .int .i64 0] := zb5.set_ 6 _; have zb7 : Blk _ g111 50 #[.int .i64 p0, .int .i64 p1, .int .i64 p2, .int .i64 p3, .int .i64 p4, .int .i64 p5, .int .i64 p6, .int .i64 p7] := zb6.set_ 7 _; exact zk v _ ⟨(((((((Upd.at_ _ _ _ _).trans (Upd.at_ _ _ _ _)).trans (Upd.at_ _ _ _ _)).trans (Upd.at_ _ _ _ _)).trans (Upd.at_ _ _ _ _)).trans (Upd.at_ _ _ _ _)).trans (Upd.at_ _ _ _ _)).trans (Upd.at_ _ _ _ _), zb7⟩)) ?_
   rintro v126 w123 ⟨hu124, hB125⟩
   have hb127 : Below w.heap.size w w110 := (bstep hb105 hb114)
   have hb128 := upd_below hb127 hu124 (by omega)
   have hb129 := upd_below hb114 hu124 (by omega)
   have hB130 := hB106.below hb114
   have hB131 := upd_blk hB130 hu124 (by omega)
   have hB132 := hB107.below hb114
   have hB133 := upd_blk hB132 hu124 (by omega)
   have hB134 := hB108.below hb114
   have hB135 := upd_blk hB134 hu124 (by omega)
   have hB136 := hB109.below hb114
   have hB137 := upd_blk hB136 hu124 (by omega)
   have ho138 := hI102.below hb114
   have ho139 := ho138.upd hu124 (by omega)
   refine WL.asg rfl rfl rfl rfl rfl (WL.nil (WE.next (WC.seq (WC.region ?_))))
   refine WL.val _ rfl rfl rfl (fun za zC zh zk => ld_75 rfl (zh.ev rfl) ((hB137.cell 0).trans rfl) zk) ?_
   refine WL.val _ rfl rfl rfl (fun za zC zh zk => ld_50 rfl (zh.ev rfl) ((hB125.cell 0).trans rfl) ((hB125.cell 1).trans rfl) ((hB125.cell 2).trans rfl) ((hB125.cell 3).trans rfl) ((hB125.cell 4).trans rfl) ((hB125.cell 5).trans rfl) ((hB125.cell 6).trans rfl) ((hB125.cell 7).trans rfl) zk) ?_
   refine WL.call rfl rfl rfl (fun za zh zC => wp_callv (by kernel_rfl) rfl (zh.ev rfl) (hv2 (zh.ev rfl) (zh.ev rfl))) (askw_any way _ _ _ (ltr t []) (ltr t [0]) (ltr t [1]) (ltr t [2]) (ltr t [0, 0]) (ltr t [0, 1]) (ltr t [1, 0]) (ltr t [1, 1]) p0 p1 p2 p3 p4 p5 p6 p7 8 0 _ rfl hB133 hB135 hB137) ?_
   rintro _ w141 ⟨rfl, hq140⟩
   refine WL.nil (WE.next ?_)
   refine WC.cond rfl (fun h142 => ?_) (fun h142 => ?_)
   ·skip
    have hf143 : fitP way (bkV b9).1 (prt t) = true := by show fitP way b9.key _ = _; rw [hk9]; first | exact h142 | exact Bool.eq_false_iff.2 h142
    refine WC.seq (WC.region (WL.mv rfl rfl rfl rfl rfl ?_))
    refine WL.val (.int .i64 (((b9.rows.length : Nat) : Int))) rfl rfl rfl (fun za zC zh zk => len_52 rfl (zh.ev rfl) zk) ?_
    refine WL.mv rfl rfl rfl rfl rfl (WL.nil (WE.next (WC.block ?_)))
    have hrow9 : InRow eltR (fun _ => True) w (bag B b9.key) b9.a := by rw [← hbr]; exact ((hO.row b9 hb9).inRow).1
    obtain ⟨rb, ro, rF, rN, rA, rC, hra, hrc9⟩ := InRow.openR hrow9
    have hb145 : Below w100.heap.size w100 w141 := (bstep hb129 hq140)
    have ho144 := hR104.below hb145
    have hnx : x.n ≤ B.length := by have z := (ho144).len; omega
    refine WC.loop (X := FU) (fun u => b9.rows.length - u.k) (fun u => [(0, .pointer (some ⟨g, 0, none⟩)), (1, .agg #[.int .i64 t.f, .slice ta t.args.length tc]), (2, .func (.func (fnW way)) #[] #[]), (4, .pointer (some ⟨g2, 0, none⟩)), (5, .pointer (some ⟨g9, 0, none⟩)), (6, .slice none 0 0), (7, .pointer (some ⟨g24, 0, none⟩)), (8, .slice u.ra u.n u.rc), (9, .pointer (some ⟨g47, 0, none⟩)), (10, .pointer (some ⟨g111, 0, none⟩)), (11, .slice b9.a b9.rows.length b9.c), (16, .bool false), (24, .pointer (some ⟨g70, 0, none⟩)), (26, .bool true), (32, .bool ((fitP way [p0, p1, p2, p3, p4, p5, p6, p7] (prt t)))), (33, .slice b9.a b9.rows.length b9.c), (34, .int .i64 (((b9.rows.length : Nat) : Int))), (35, .int .i64 (((u.k : Nat) : Int)))]) (fun u w146 => u.k ≤ b9.rows.length ∧ w69.heap.size ≤ (w146).heap.size ∧ Below w.heap.size w w146 ∧ Blk w146 g2 24 #[.int .i64 t.f, .slice ta t.args.length tc] ∧ Blk w146 g9 56 #[.func (.func (fnW way)) #[] #[]] ∧ Blk w146 g24 50 #[.int .i64 ((ltr t [])), .int .i64 ((ltr t [0])), .int .i64 ((ltr t [1])), .int .i64 ((ltr t [2])), .int .i64 ((ltr t [0, 0])), .int .i64 ((ltr t [0, 1])), .int .i64 ((ltr t [1, 0])), .int .i64 ((ltr t [1, 1]))] ∧ Blk w146 g47 75 #[.func (Fn.func 41) #[] #[.pointer (some ⟨g9, 0, none⟩), .pointer (some ⟨g24, 0, none⟩), .pointer (some ⟨g47, 0, none⟩)]] ∧ ObjAt (w146) g70 (.mapIter (some m) clock seen2 clock) ∧ RowE eltI (w146) w69.heap.size 3 u.ra u.rc u.n (((askOf B way (prt t) x.done) ++ (bagI B b9.key).take u.k))) (⟨0, x.ra, x.rc, x.n⟩) ⟨rfl, rfl, rfl, rfl, rfl, rfl, rfl, rfl, rfl, rfl, rfl, rfl, rfl, rfl, rfl, rfl, rfl, rfl, trivial⟩ ?_ ?_
    ·have hb147 : Below w.heap.size w w141 := (bstep hb105 hb145)
     have hB148 := hB131.below hq140
     have hB149 := hB133.below hq140
     have hB150 := hB135.below hq140
     have hB151 := hB137.below hq140
     have ho152 := ho139.below hq140
     exact ⟨Nat.zero_le _, (Nat.le_trans (Nat.le_trans hBw (Nat.le_of_eq hu101.size.symm)) hb145.size), hb147, hB148, hB149, hB150, hB151, ho152, (by simpa using ho144)⟩
    ·rintro u w146 ⟨hku, hBu, hb153, hB154, hB155, hB156, hB157, ho158, ho159⟩
     have hun : u.n ≤ B.length := by
      have z := (ho159).len
      rw [List.length_append, List.length_take, List.length_map] at z
      omega
     refine WC.seq (WC.region ?_)
     refine WL.val (.bool ((decide ((((u.k : Nat) : Int) : Int) < (((b9.rows.length : Nat) : Int) : Int))))) rfl rfl rfl (fun za zC zh zk => lss_3 rfl (zh.ev rfl) (zh.ev rfl) zk) ?_
     refine WL.nil (WE.next (WC.seq ?_))
     refine WC.cond rfl (fun h160 => ?_) (fun h160 => ?_)
     ·have h160 : (((u.k : Nat) : Int) : Int) < (((b9.rows.length : Nat) : Int) : Int) := by simpa using h160
      refine WC.skip (WE.next (WC.seq (WC.block (WC.seq (WC.region ?_)))))
      refine WL.val _ rfl rfl rfl (fun za zC zh zk => ix_52 (k := u.k) rfl (zh.ev rfl) (hra u.k (by first | omega | (simp; omega))) (zh.ev rfl) (by first | omega | (simp; omega)) zk) ?_
      refine WL.val _ rfl rfl rfl (fun za zC zh zk => ld_54 rfl (zh.ev rfl) (bkeeps hb153 _ _ ((hrc9 u.k (by first | omega | (simp; omega))).1)) (bkeeps hb153 _ _ ((hrc9 u.k (by first | omega | (simp; omega))).2.1)) (bkeeps hb153 _ _ ((hrc9 u.k (by first | omega | (simp; omega))).2.2)) zk) ?_
      refine WL.step (post := NewBlk w146 54 #[.int .i64 0, .slice none 0 0, .int .i64 0]) rfl rfl rfl (fun za zC zh zk => alloc_54 rfl (zk _ _ (newBlk _ _ _))) ?_
      rintro _ w161 ⟨g162, rfl, hg163, hB164, hb165, hz166⟩
      have hl167 : g2 < g162 := by have z1 := hB154.lt; omega
      have hl168 : g9 < g162 := by have z1 := hB155.lt; omega
      have hl169 : g24 < g162 := by have z1 := hB156.lt; omega
      have hl170 : g47 < g162 := by have z1 := hB157.lt; omega
      have hl171 : g70 < g162 := by have z1 := ho158.lt; omega
      have hl172 : w.heap.size ≤ g162 := by have z2 := (hb153).size; omega
      have hl173 : w146.heap.size ≤ g162 := by omega
      refine WL.step (post := fun _ w' => Upd g162 w161 w' ∧ Blk w' g162 54 #[.int .i64 ((rF u.k)), .slice ((rA u.k)) ((rN u.k)) ((rC u.k)), .int .i64 ((List.getD (bagI B b9.key) u.k 0))]) rfl rfl rfl (fun za zC zh zk => st_54 rfl (zh.ev rfl) (zh.ev rfl) rfl rfl rfl hB164 (by first | decide | simp) (fun v => zk v _ ⟨((Upd.at_ _ _ _ _).trans (Upd.at_ _ _ _ _)).trans (Upd.at_ _ _ _ _), ((hB164.set_ 0 _).set_ 1 _).set_ 2 _⟩)) ?_
      rintro v177 w174 ⟨hu175, hB176⟩
      have hb178 : Below w.heap.size w w161 := (bstep hb153 hb165)
      have hb179 := upd_below hb178 hu175 (by omega)
      have hb180 := upd_below hb165 hu175 (by omega)
      have hB181 := hB154.below hb165
      have hB182 := upd_blk hB181 hu175 (by omega)
      have hB183 := hB155.below hb165
      have hB184 := upd_blk hB183 hu175 (by omega)
      have hB185 := hB156.below hb165
      have hB186 := upd_blk hB185 hu175 (by omega)
      have hB187 := hB157.below hb165
      have hB188 := upd_blk hB187 hu175 (by omega)
      have ho189 := ho158.below hb165
      have ho190 := ho189.upd hu175 (by omega)
      refine WL.nil (WE.next ?_)
      have ho191 := ho159.below hb180
      have hSlt : ∀ b, (fun b => (Value.slice u.ra u.n u.rc).ownBlock = some b) b → b < w174.heap.size := fun b h => (ho191.lt b h).2
      have hSlo : ∀ b, (fun b => (Value.slice u.ra u.n u.rc).ownBlock = some b) b → w69.heap.size ≤ b ∧ b < w146.heap.size := fun b h => ho159.lt b h
      have hBW : w69.heap.size ≤ w174.heap.size := by have z1 := (Nat.le_trans hBu hb180.size); omega
      have hlL : u.n = (((askOf B way (prt t) x.done) ++ (bagI B b9.key).take u.k)).length := ho191.len
      refine WC.tail3 (S := ((fun b => (Value.slice u.ra u.n u.rc).ownBlock = some b))) [(true, .val (.slice u.ra u.n u.rc)), (true, .val (.pointer (some ⟨g162, 2, none⟩))), (true, .val (.int .i64 ((List.getD (bagI B b9.key) u.k 0)))), (true, .mem (fun v w' => OneRow eltI w174 3 ((List.getD (bagI B b9.key) u.k 0)) v w') (fun v w w' hc h => h.chg hc hSlt)), (true, .val undef), (true, .val undef)] [(0, .pointer (some ⟨g, 0, none⟩)), (1, .agg #[.int .i64 t.f, .slice ta t.args.length tc]), (2, .func (.func (fnW way)) #[] #[]), (4, .pointer (some ⟨g2, 0, none⟩)), (5, .pointer (some ⟨g9, 0, none⟩)), (6, .slice none 0 0), (7, .pointer (some ⟨g24, 0, none⟩)), (9, .pointer (some ⟨g47, 0, none⟩)), (10, .pointer (some ⟨g111, 0, none⟩)), (11, .slice b9.a b9.rows.length b9.c), (13, .pointer (some ⟨g162, 0, none⟩)), (16, .bool false), (24, .pointer (some ⟨g70, 0, none⟩)), (26, .bool true), (32, .bool ((fitP way [p0, p1, p2, p3, p4, p5, p6, p7] (prt t)))), (33, .slice b9.a b9.rows.length b9.c), (34, .int .i64 (((b9.rows.length : Nat) : Int))), (35, .int .i64 (((u.k : Nat) : Int))), (36, .bool ((decide ((((u.k : Nat) : Int) : Int) < (((b9.rows.length : Nat) : Int) : Int)))))] 4 5 ((u.n + 1)) 43 8 (fun ra rc wz => RowE eltI wz w69.heap.size 3 ra rc (u.n + 1) ((((askOf B way (prt t) x.done) ++ (bagI B b9.key).take u.k) ++ [(List.getD (bagI B b9.key) u.k 0)]))) (by decide) (fun ra rc w w' hb h => h.below hb) ⟨rfl, rfl, rfl, rfl, rfl, rfl, rfl, rfl, rfl, rfl, rfl, rfl, rfl, rfl, rfl, rfl, rfl, rfl, rfl, trivial⟩ (by kernel_rfl) (by kernel_rfl) (by kernel_rfl) (by kernel_rfl) (by kernel_rfl) (by kernel_rfl) ?_ ?_
      ·refine ⟨.inl ⟨rfl, true, .none rfl, (fun gg b h => by cases h), fun h w => optUndef h, fun zβ za zw zc => ?_⟩, ?_⟩
       ·exact wp_move rfl ((evt za 8).trans (zc.old 8 _ rfl (by kernel_rfl))) ⟨_, rfl, Below.refl _ _, optDef zβ rfl⟩
       refine ⟨.inl ⟨rfl, true, .none rfl, (fun gg b h => by cases h), fun h w => optUndef h, fun zβ za zw zc => ?_⟩, ?_⟩
       ·exact fld_54_1 rfl (zc.kn.ev rfl) ⟨_, rfl, Below.refl _ _, optDef zβ rfl⟩
       refine ⟨.inl ⟨rfl, true, .none rfl, (fun gg b h => by cases h), fun h w => optUndef h, fun zβ za zw zc => ?_⟩, ?_⟩
       ·exact ld_3 rfl ((evt za 40).trans (optSVal (zc.dep 1 40 (by kernel_rfl) (by decide)) rfl rfl)) (bkeeps (zc.early (by kernel_rfl)) _ _ ((hB176.cell 2).trans rfl)) ⟨_, rfl, Below.refl _ _, optDef zβ rfl⟩
       refine ⟨.inl ⟨rfl, true, .none rfl, (fun gg b h => by cases h), fun h w => optUndef h, fun zβ za zw zc => ?_⟩, ?_⟩
       ·exact row_31_1 rfl ((evt za 41).trans (optSVal (zc.dep 2 41 (by kernel_rfl) (by decide)) rfl rfl)) ⟨_, rfl, balloc _ _, optDef zβ ⟨_, [.int .i64 ((List.getD (bagI B b9.key) u.k 0))], rfl, zc.chg.size, Blk.new' rfl, rfl⟩⟩
       refine ⟨.inr (.inl ⟨rfl, rfl, fun za zw zc => ?_⟩), ?_⟩
       ·obtain ⟨g1, cs, e1, hg1, hB1, hin⟩ := (optSMem (zc.dep 3 42 (by kernel_rfl) (by decide)) rfl rfl)
        exact wp_appE (E := eltI) (size := 1) (bytes := 8) (z := .int .i64 0) rfl Try.underlying31 (by kernel_rfl) rfl (by decide) rfl ((evt za 39).trans (optSVal (zc.dep 0 39 (by kernel_rfl) (by decide)) rfl rfl)) ((evt za 42).trans e1) (ho191.below zc.below) hB1 (eltI.mono (fun b hb _ => ⟨by omega, fun e => by have z := (ho191.lt b e).2; omega⟩) hin) (by omega) (by omega) (by have z := zc.below.size; omega) (fun ra rc w' h1 h2 _ => ⟨ra, rc, rfl, h1, h2⟩)
       refine ⟨.inr (.inr ⟨rfl, rfl, 43, by kernel_rfl, rfl⟩), ?_⟩
       exact trivial
      ·intro za w192 ra195 rc196 zh zv zv2 hG193 hc194 zu
       have zh := zh.cons (d := 8) zv2
       have hb197 := chg_below hb179 hc194 (fun b hb => (fun h => by have h := hSlo _ h; (try dsimp only at *); omega))
       have hB198 := chg_blk hB182 hc194 (fun h => by have h := hSlo _ h; (try dsimp only at *); omega)
       have hB199 := chg_blk hB184 hc194 (fun h => by have h := hSlo _ h; (try dsimp only at *); omega)
       have hB200 := chg_blk hB186 hc194 (fun h => by have h := hSlo _ h; (try dsimp only at *); omega)
       have hB201 := chg_blk hB188 hc194 (fun h => by have h := hSlo _ h; (try dsimp only at *); omega)
       have hB202 := chg_blk hB176 hc194 (fun h => by have h := hSlo _ h; (try dsimp only at *); omega)
       have ho203 := ho190.chg hc194 (fun h => by have h := hSlo _ h; (try dsimp only at *); omega)
       clear zu
       refine WE.go zh ?_
       refine WE.blockNormal (WE.next (WC.region ?_))
       refine WL.val (.int .i64 ((((u.k + 1) : Nat) : Int))) rfl rfl rfl (fun za zC zh zk => addb_3 rfl (zh.ev rfl) (zh.ev rfl) (wrap_eq (by omega) (by omega) (by omega)) zk) ?_
       refine WL.mv rfl rfl rfl rfl rfl (WL.nil ?_)
       refine WE.round (⟨u.k + 1, ra195, rc196, (u.n + 1)⟩) ⟨rfl, rfl, rfl, rfl, rfl, rfl, rfl, rfl, rfl, rfl, rfl, rfl, rfl, rfl, rfl, rfl, rfl, rfl, trivial⟩ ?_ ?_
       ·exact ⟨(by (try dsimp only); omega), (Nat.le_trans (Nat.le_trans hBu hb180.size) hc194.size), hb197, hB198, hB199, hB200, hB201, ho203, (by rw [take_int (by rw [List.length_map]; omega)]; rw [← List.append_assoc]; exact hG193)⟩
       ·(try dsimp only); omega
     ·have h160 : ¬ ((((u.k : Nat) : Int) : Int) < (((b9.rows.length : Nat) : Int) : Int)) := by simpa using h160
      refine WC.exit (WE.thenExit (WE.thenExit (WE.blockIs rfl (WE.blockNormal ?_))))
      refine WE.round (⟨x.done ++ [bkV b9], rest2, seen2, u.ra, u.rc, u.n⟩) ⟨rfl, rfl, rfl, rfl, rfl, rfl, rfl, rfl, rfl, rfl, rfl, trivial⟩ ?_ ?_
      ·exact ⟨hBu, hIt2, hb153, hB154, hB155, hB156, hB157, ho158, (by rw [askOf_yes (z := bkV b9) hf143]; have z := ho159; rw [List.take_of_length_le (by rw [List.length_map]; omega)] at z; exact z)⟩
      ·exact hrl
   ·skip
    have hf204 : fitP way (bkV b9).1 (prt t) = false := by show fitP way b9.key _ = _; rw [hk9]; first | exact h142 | exact Bool.eq_false_iff.2 h142
    refine WC.skip (WE.blockNormal ?_)
    refine WE.round (⟨x.done ++ [bkV b9], rest2, seen2, x.ra, x.rc, x.n⟩) ⟨rfl, rfl, rfl, rfl, rfl, rfl, rfl, rfl, rfl, rfl, rfl, trivial⟩ ?_ ?_
    ·have hb205 : Below w.heap.size w w141 := (bstep hb128 hq140)
     have hB206 := hB131.below hq140
     have hB207 := hB133.below hq140
     have hB208 := hB135.below hq140
     have hB209 := hB137.below hq140
     have ho210 := ho139.below hq140
     have hb212 : Below w100.heap.size w100 w141 := (bstep hb129 hq140)
     have ho211 := hR104.below hb212
     exact ⟨(Nat.le_trans (Nat.le_trans (Nat.le_trans hBw (Nat.le_of_eq hu101.size.symm)) hb129.size) hq140.size), hIt2, hb205, hB206, hB207, hB208, hB209, ho210, (by rw [askOf_no (z := bkV b9) hf204]; exact ho211)⟩
    ·exact hrl
set_option maxRecDepth 100000 in
theorem fUni_any (g : Nat) (Z : Nat → Prop) (B : List TI) (w : World) (t : T) (v : Value) (hBl : B.length ≤ 1000000) (ht : IsT w t v) (hK : FpIs w g Z B) : Calls Try.prog 10 #[.pointer (some ⟨g, 0, none⟩), v] w (Ret fun v' w' => Told w w' (askP B 0 (prt t)) v' ∧ Below w.heap.size w w') := by
 have hvt := ht
 obtain ⟨_, ta, tc, rfl, _, _, _⟩ := ht.form
 refine Calls.walk (l := [.pointer (some ⟨g, 0, none⟩), .agg #[.int .i64 t.f, .slice ta t.args.length tc]]) Try.func10 rfl (by kernel_rfl) ?_
 refine WC.sub (K' := [(0, .pointer (some ⟨g, 0, none⟩)), (1, .agg #[.int .i64 t.f, .slice ta t.args.length tc])]) ⟨rfl, rfl, trivial⟩ ?_
 refine WC.seq (WC.region ?_)
 refine WL.step (post := NewBlk w 24 #[.int .i64 t.f, .slice ta t.args.length tc]) rfl rfl rfl (fun za zC zh zk => box_24 rfl (zh.ev rfl) (zk _ _ (newBlk _ _ _))) ?_
 rintro _ w1 ⟨g2, rfl, hg3, hB4, hb5, hz6⟩
 have hl7 : w.heap.size ≤ g2 := by omega
 refine WL.asg rfl rfl rfl rfl rfl (WL.nil (WE.next (WC.seq (WC.region (WL.mv rfl rfl rfl rfl rfl ?_)))))
 refine WL.val _ rfl rfl rfl (fun za zC zh zk => ld_24 rfl (zh.ev rfl) ((hB4.cell 0).trans rfl) ((hB4.cell 1).trans rfl) zk) ?_
 refine WL.call rfl rfl rfl (fun za zh zC => wp_call (by kernel_rfl) rfl (hv3 (zh.ev rfl) (zh.ev rfl) (zh.ev rfl))) (ask_any g Z B _ 0 t _ hBl (IsT.below hb5 hvt) (FpIs.below hK hb5)) ?_
 rintro _ w8 ⟨⟨ta9, tc9, rfl, hlT, hcT, hrT⟩, hbT⟩
 refine WL.asg rfl rfl rfl rfl rfl (WL.nil (WE.next (WC.ret (WE.ret1 rfl rfl ?_))))
 have hb9 : Below w.heap.size w w8 := (bstep hb5 hbT)
 exact ⟨_, rfl, ⟨_, _, rfl, hlT, hcT, hrT.mono (by decide) (fun b q _ => by have q2 : w1.heap.size ≤ b := q; (have z := hb5.size); omega)⟩, hb9⟩
set_option maxRecDepth 100000 in
theorem fGen_any (g : Nat) (Z : Nat → Prop) (B : List TI) (w : World) (t : T) (v : Value) (hBl : B.length ≤ 1000000) (ht : IsT w t v) (hK : FpIs w g Z B) : Calls Try.prog 11 #[.pointer (some ⟨g, 0, none⟩), v] w (Ret fun v' w' => Told w w' (askP B 1 (prt t)) v' ∧ Below w.heap.size w w') := by
 have hvt := ht
 obtain ⟨_, ta, tc, rfl, _, _, _⟩ := ht.form
 refine Calls.walk (l := [.pointer (some ⟨g, 0, none⟩), .agg #[.int .i64 t.f, .slice ta t.args.length tc]]) Try.func11 rfl (by kernel_rfl) ?_
 refine WC.sub (K' := [(0, .pointer (some ⟨g, 0, none⟩)), (1, .agg #[.int .i64 t.f, .slice ta t.args.length tc])]) ⟨rfl, rfl, trivial⟩ ?_
 refine WC.seq (WC.region ?_)
 refine WL.step (post := NewBlk w 24 #[.int .i64 t.f, .slice ta t.args.length tc]) rfl rfl rfl (fun za zC zh zk => box_24 rfl (zh.ev rfl) (zk _ _ (newBlk _ _ _))) ?_
 rintro _ w1 ⟨g2, rfl, hg3, hB4, hb5, hz6⟩
 have hl7 : w.heap.size ≤ g2 := by omega
 refine WL.asg rfl rfl rfl rfl rfl (WL.nil (WE.next (WC.seq (WC.region (WL.mv rfl rfl rfl rfl rfl ?_)))))
 refine WL.val _ rfl rfl rfl (fun za zC zh zk => ld_24 rfl (zh.ev rfl) ((hB4.cell 0).trans rfl) ((hB4.cell 1).trans rfl) zk) ?_
 refine WL.call rfl rfl rfl (fun za zh zC => wp_call (by kernel_rfl) rfl (hv3 (zh.ev rfl) (zh.ev rfl) (zh.ev rfl))) (ask_any g Z B _ 1 t _ hBl (IsT.below hb5 hvt) (FpIs.below hK hb5)) ?_
 rintro _ w8 ⟨⟨ta9, tc9, rfl, hlT, hcT, hrT⟩, hbT⟩
 refine WL.asg rfl rfl rfl rfl rfl (WL.nil (WE.next (WC.ret (WE.ret1 rfl rfl ?_))))
 have hb9 : Below w.heap.size w w8 := (bstep hb5 hbT)
 exact ⟨_, rfl, ⟨_, _, rfl, hlT, hcT, hrT.mono (by decide) (fun b q _ => by have q2 : w1.heap.size ≤ b := q; (have z := hb5.size); omega)⟩, hb9⟩
set_option maxRecDepth 100000 in
theorem fIns_any (g : Nat) (Z : Nat → Prop) (B : List TI) (w : World) (t : T) (v : Value) (hBl : B.length ≤ 1000000) (ht : IsT w t v) (hK : FpIs w g Z B) : Calls Try.prog 12 #[.pointer (some ⟨g, 0, none⟩), v] w (Ret fun v' w' => Told w w' (askP B 2 (prt t)) v' ∧ Below w.heap.size w w') := by
 have hvt := ht
 obtain ⟨_, ta, tc, rfl, _, _, _⟩ := ht.form
 refine Calls.walk (l := [.pointer (some ⟨g, 0, none⟩), .agg #[.int .i64 t.f, .slice ta t.args.length tc]]) Try.func12 rfl (by kernel_rfl) ?_
 refine WC.sub (K' := [(0, .pointer (some ⟨g, 0, none⟩)), (1, .agg #[.int .i64 t.f, .slice ta t.args.length tc])]) ⟨rfl, rfl, trivial⟩ ?_
 refine WC.seq (WC.region ?_)
 refine WL.step (post := NewBlk w 24 #[.int .i64 t.f, .slice ta t.args.length tc]) rfl rfl rfl (fun za zC zh zk => box_24 rfl (zh.ev rfl) (zk _ _ (newBlk _ _ _))) ?_
 rintro _ w1 ⟨g2, rfl, hg3, hB4, hb5, hz6⟩
 have hl7 : w.heap.size ≤ g2 := by omega
 refine WL.asg rfl rfl rfl rfl rfl (WL.nil (WE.next (WC.seq (WC.region (WL.mv rfl rfl rfl rfl rfl ?_)))))
 refine WL.val _ rfl rfl rfl (fun za zC zh zk => ld_24 rfl (zh.ev rfl) ((hB4.cell 0).trans rfl) ((hB4.cell 1).trans rfl) zk) ?_
 refine WL.call rfl rfl rfl (fun za zh zC => wp_call (by kernel_rfl) rfl (hv3 (zh.ev rfl) (zh.ev rfl) (zh.ev rfl))) (ask_any g Z B _ 2 t _ hBl (IsT.below hb5 hvt) (FpIs.below hK hb5)) ?_
 rintro _ w8 ⟨⟨ta9, tc9, rfl, hlT, hcT, hrT⟩, hbT⟩
 refine WL.asg rfl rfl rfl rfl rfl (WL.nil (WE.next (WC.ret (WE.ret1 rfl rfl ?_))))
 have hb9 : Below w.heap.size w w8 := (bstep hb5 hbT)
 exact ⟨_, rfl, ⟨_, _, rfl, hlT, hcT, hrT.mono (by decide) (fun b q _ => by have q2 : w1.heap.size ≤ b := q; (have z := hb5.size); omega)⟩, hb9⟩
end Go.Proofs.Ytibncmnmjhimeaa

/- Terms, literals, clauses that are built in a region: what is known of each. -/
namespace Go.Proofs.Ytibncmnmjhimeaa
open Go.RowKit Go
set_option linter.unusedVariables false
set_option linter.unusedSimpArgs false
/-- The value is a row of terms. -/
def RowT (l : List T) (v : Value) (w : World) : Prop := ∃ (a : Option Addr) (c : Nat), v = .slice a l.length c ∧ l.length ≤ c ∧ c ≤ maxLen ∧ IsTs w l a 0
theorem RowT.below {l : List T} {v : Value} {w w' : World} (hb : Below w.heap.size w w') (h : RowT l v w) : RowT l v w' := by
  obtain ⟨a, c, e, h1, h2, h3⟩ := h
  exact ⟨a, c, e, h1, h2, h3.below hb⟩
theorem RowT.nil {w : World} : RowT [] (.slice none 0 0) w := ⟨none, 0, rfl, Nat.le_refl _, Nat.zero_le _, trivial⟩
theorem isT_mk {w : World} {f : Int} {l : List T} {a : Option Addr} {n c : Nat} (hf : I64 f) (h : RowT l (.slice a n c) w) : IsT w (.mk f l) (.agg #[.int .i64 f, .slice a n c]) := by
  obtain ⟨a', c', e, h1, h2, h3⟩ := h
  simp only [Value.slice.injEq] at e
  obtain ⟨rfl, rfl, rfl⟩ := e
  exact ⟨hf, _, _, rfl, h1, h2, h3⟩
theorem isT_lf {w : World} {f : Int} (hf : -9223372036854775808 ≤ f ∧ f ≤ 9223372036854775807) : IsT w (.mk f []) (.agg #[.int .i64 f, .slice none 0 0]) := isT_mk hf RowT.nil
theorem isT_keep {t : T} (v : Value) (w w' : World) (hb : Below w.heap.size w w') (h : IsT w t v) : IsT w' t v := h.below hb
end Go.Proofs.Ytibncmnmjhimeaa

/- No index; the example that every law shows. -/
namespace Go.Proofs.Ytibncmnmjhimeaa
open Go.RowKit Go
set_option linter.unusedVariables false
set_option linter.unusedSimpArgs false
set_option maxRecDepth 100000 in
theorem okNil  (w : World) : Calls Try.prog 24 #[.pointer none] w (Ret fun v' w' => v' = .bool false ∧ Below w.heap.size w w') := by
 skip
 refine Calls.walk (l := [.pointer none]) Try.func24 rfl (by kernel_rfl) ?_
 refine WC.sub (K' := [(0, .pointer none)]) ⟨rfl, trivial⟩ ?_
 refine WC.seq (WC.region (WL.asg rfl rfl rfl rfl rfl (WL.nil (WE.next (WC.seq (WC.region (WL.mv rfl rfl rfl rfl rfl ?_)))))))
 refine WL.val (.bool false) rfl rfl rfl (fun za zC zh zk => neqn_27 rfl (zh.ev rfl) (zh.ev rfl) zk) ?_
 refine WL.mv rfl rfl rfl rfl rfl ?_
 refine WL.skip (d := 5) rfl rfl rfl rfl rfl ?_
 refine WL.skip (d := 5) rfl rfl rfl rfl rfl ?_
 refine WL.skip (d := 5) rfl rfl rfl rfl rfl ?_
 refine WL.skip (d := 5) rfl rfl rfl rfl rfl ?_
 refine WL.skip (d := 5) rfl rfl rfl rfl rfl ?_
 refine WL.val (.bool false) rfl rfl rfl (fun za zC zh zk => wp_pickF rfl (zh.ev rfl) (zh.ev rfl) zk) ?_
 refine WL.asg rfl rfl rfl rfl rfl (WL.nil (WE.next (WC.ret (WE.ret1 rfl rfl ?_))))
 exact ⟨_, rfl, rfl, (Below.refl _ _)⟩
set_option maxRecDepth 100000 in
theorem addNil (f : Int) (a : Option Addr) (n c : Nat) (id : Int) (w : World) : Calls Try.prog 9 #[.pointer none, .agg #[.int .i64 f, .slice a n c], .int .i64 id] w (Ret fun v' w' => v' = .int .i64 1 ∧ Below w.heap.size w w') := by
 skip
 refine Calls.walk (l := [.pointer none, .agg #[.int .i64 f, .slice a n c], .int .i64 id]) Try.func9 rfl (by kernel_rfl) ?_
 refine WC.sub (K' := [(0, .pointer none), (1, .agg #[.int .i64 f, .slice a n c]), (2, .int .i64 id)]) ⟨rfl, rfl, rfl, trivial⟩ ?_
 refine WC.seq (WC.region ?_)
 refine WL.step (post := NewBlk w 24 #[.int .i64 f, .slice a n c]) rfl rfl rfl (fun za zC zh zk => box_24 rfl (zh.ev rfl) (zk _ _ (newBlk _ _ _))) ?_
 rintro _ w1 ⟨g2, rfl, hg3, hB4, hb5, hz6⟩
 have hl7 : w.heap.size ≤ g2 := by omega
 refine WL.asg rfl rfl rfl rfl rfl (WL.nil (WE.next (WC.seq (WC.block (WC.seq (WC.region (WL.mv rfl rfl rfl rfl rfl ?_)))))))
 refine WL.call rfl rfl rfl (fun za zh zC => wp_call (by kernel_rfl) rfl (hv1 (zh.ev rfl))) (okNil _) ?_
 rintro _ w9 ⟨rfl, hq8⟩
 refine WL.val (.bool true) rfl rfl rfl (fun za zC zh zk => wp_not rfl (zh.ev rfl) zk) ?_
 refine WL.asg rfl rfl rfl rfl rfl (WL.nil (WE.next ?_))
 refine WC.condT rfl rfl ?_
 refine WC.seq (WC.region (WL.asg rfl rfl rfl rfl rfl (WL.nil (WE.next (WC.ret (WE.blockRet (WE.thenRet (WE.ret1 rfl rfl ?_))))))))
 have hb10 : Below w.heap.size w w9 := (bstep hb5 hq8)
 exact ⟨_, rfl, rfl, hb10⟩
set_option maxRecDepth 100000 in
theorem lof_any (f : Int) (a : Option Addr) (n c : Nat) (w : World) : Calls Try.prog 20 #[.int .i64 f, .slice a n c] w (Ret fun v' w' => v' = .agg #[.int .i64 f, .slice a n c] ∧ Below w.heap.size w w') := by
 skip
 refine Calls.walk (l := [.int .i64 f, .slice a n c]) Try.func20 rfl (by kernel_rfl) ?_
 refine WC.sub (K' := [(0, .int .i64 f), (1, .slice a n c)]) ⟨rfl, rfl, trivial⟩ ?_
 refine WC.seq (WC.region ?_)
 refine WL.step (post := NewBlk w 24 #[.int .i64 0, .slice none 0 0]) rfl rfl rfl (fun za zC zh zk => alloc_24 rfl (zk _ _ (newBlk _ _ _))) ?_
 rintro _ w1 ⟨g2, rfl, hg3, hB4, hb5, hz6⟩
 have hl7 : w.heap.size ≤ g2 := by omega
 refine WL.nil (WE.next (WC.seq (WC.region (WL.mv rfl rfl rfl rfl rfl (WL.mv rfl rfl rfl rfl rfl ?_)))))
 refine WL.val (.agg #[.int .i64 f, .slice a n c]) rfl rfl rfl (fun za zC zh zk => build_24_0_1 rfl (zh.ev rfl) (zh.ev rfl) zk) ?_
 refine WL.step (post := fun _ w' => Upd g2 w1 w' ∧ Blk w' g2 24 #[.int .i64 f, .slice a n c]) rfl rfl rfl (fun za zC zh zk => st_24 rfl (zh.ev rfl) (zh.ev rfl) rfl rfl hB4 (by first | decide | simp) (fun v => zk v _ ⟨(Upd.at_ _ _ _ _).trans (Upd.at_ _ _ _ _), (hB4.set_ 0 _).set_ 1 _⟩)) ?_
 rintro v11 w8 ⟨hu9, hB10⟩
 have hb12 := upd_below hb5 hu9 (by omega)
 refine WL.nil (WE.next (WC.ret ?_))
 refine WE.retAny (v := .agg #[.int .i64 f, .slice a n c]) (fun za zh => ?_) ?_
 ·have z0 : za.tmps[4]?.getD undef = .pointer (some ⟨g2, 0, none⟩) := by rw [← Array.getD_eq_getD_getElem?]; exact zh.knows 4 _ rfl
  have y0 : w8.cell? ⟨g2, 0, none⟩ = some (.int .i64 f) := ((hB10.cell 0).trans rfl)
  have y1 : w8.cell? ⟨g2, 1, none⟩ = some (.slice a n c) := ((hB10.cell 1).trans rfl)
  simp [results, Try.results20, z0, y0, y1, go_sem]
 ·exact ⟨_, rfl, rfl, hb12⟩
set_option maxRecDepth 100000 in
theorem row_same {S1 S2 : Nat → Prop} {L : List Int} {w : World} {a b : Option Addr} {c e : Nat} (h1 : InRow eltI S1 w L a) (h2 : InRow eltI S2 w L b) (hz : L.length ≤ 1073741824) : Calls Try.prog 19 #[.slice a L.length c, .slice b L.length e] w (Ret fun v' w' => v' = .bool true ∧ Below w.heap.size w w') := by
 skip
 refine Calls.walk (l := [.slice a L.length c, .slice b L.length e]) Try.func19 rfl (by kernel_rfl) ?_
 refine WC.sub (K' := [(0, .slice a L.length c), (1, .slice b L.length e)]) ⟨rfl, rfl, trivial⟩ ?_
 refine WC.seq (WC.region (WL.asg rfl rfl rfl rfl rfl (WL.nil (WE.next (WC.seq (WC.seq (WC.region (WL.mv rfl rfl rfl rfl rfl ?_))))))))
 refine WL.val (.int .i64 (((L.length : Nat) : Int))) rfl rfl rfl (fun za zC zh zk => len_31 rfl (zh.ev rfl) zk) ?_
 refine WL.mv rfl rfl rfl rfl rfl ?_
 refine WL.val (.int .i64 (((L.length : Nat) : Int))) rfl rfl rfl (fun za zC zh zk => len_31 rfl (zh.ev rfl) zk) ?_
 refine WL.val (.bool (((((L.length : Nat) : Int) : Int) != (((L.length : Nat) : Int) : Int)))) rfl rfl rfl (fun za zC zh zk => neq_3 rfl (zh.ev rfl) (zh.ev rfl) zk) ?_
 refine WL.nil (WE.next ?_)
 refine WC.condF rfl ((by simp)) ?_
 refine WC.skip (WE.next (WC.seq (WC.seq (WC.region (WL.asg rfl rfl rfl rfl rfl (WL.nil (WE.next (WC.block ?_))))))))
 refine WC.loop (X := Nat) (fun k => L.length - k) (fun k => [(0, .slice a L.length c), (1, .slice b L.length e), (5, .int .i64 (((k : Nat) : Int))), (10, .bool (((((L.length : Nat) : Int) : Int) != (((L.length : Nat) : Int) : Int))))]) (fun k w1 => k ≤ L.length ∧ Below w.heap.size w w1) 0 ⟨rfl, rfl, rfl, rfl, trivial⟩ ?_ ?_
 ·exact ⟨Nat.zero_le _, (Below.refl _ _)⟩
 ·rintro k w1 ⟨hk, hb2⟩
  refine WC.seq (WC.seq (WC.region (WL.mv rfl rfl rfl rfl rfl (WL.mv rfl rfl rfl rfl rfl ?_))))
  refine WL.val (.int .i64 (((L.length : Nat) : Int))) rfl rfl rfl (fun za zC zh zk => len_31 rfl (zh.ev rfl) zk) ?_
  refine WL.val (.bool ((decide ((((k : Nat) : Int) : Int) < (((L.length : Nat) : Int) : Int))))) rfl rfl rfl (fun za zC zh zk => lss_3 rfl (zh.ev rfl) (zh.ev rfl) zk) ?_
  refine WL.nil (WE.next ?_)
  refine WC.cond rfl (fun h3 => ?_) (fun h3 => ?_)
  ·have h3 : (((k : Nat) : Int) : Int) < (((L.length : Nat) : Int) : Int) := by simpa using h3
   refine WC.skip (WE.next (WC.seq (WC.block (WC.seq ?_))))
   obtain ⟨b4, o5, ha6, hc7⟩ := InRow.openI (h1.below hb2)
   obtain ⟨b8, o9, ha10, hc11⟩ := InRow.openI (h2.below hb2)
   refine WC.opt [(true, .val (.slice a L.length c)), (true, .val (.int .i64 (((k : Nat) : Int)))), (true, .val (.pointer (some ⟨b4, o5 + k, none⟩))), (true, .val (.int .i64 ((List.getD L k 0)))), (true, .val (.slice b L.length e)), (true, .val (.int .i64 (((k : Nat) : Int)))), (true, .val (.pointer (some ⟨b8, o9 + k, none⟩))), (true, .val (.int .i64 ((List.getD L k 0)))), (true, .val (.bool ((((List.getD L k 0) : Int) != ((List.getD L k 0) : Int)))))] [(0, .slice a L.length c), (1, .slice b L.length e), (5, .int .i64 (((k : Nat) : Int))), (10, .bool (((((L.length : Nat) : Int) : Int) != (((L.length : Nat) : Int) : Int)))), (14, .bool ((decide ((((k : Nat) : Int) : Int) < (((L.length : Nat) : Int) : Int)))))] ⟨rfl, rfl, rfl, rfl, rfl, trivial⟩ (by kernel_rfl) (by kernel_rfl) (by kernel_rfl) ?_ ?_
   ·refine ⟨⟨true, .none rfl, fun h w => optUndef h, fun zβ za zw zc => ?_⟩, ?_⟩
    ·exact wp_move rfl (zc.kn.ev rfl) ⟨_, rfl, Below.refl _ _, optDef zβ rfl⟩
    refine ⟨⟨true, .none rfl, fun h w => optUndef h, fun zβ za zw zc => ?_⟩, ?_⟩
    ·exact wp_move rfl (zc.kn.ev rfl) ⟨_, rfl, Below.refl _ _, optDef zβ rfl⟩
    refine ⟨⟨true, .none rfl, fun h w => optUndef h, fun zβ za zw zc => ?_⟩, ?_⟩
    ·exact ix_31 (k := k) rfl ((evt za 17).trans (optVal (zc.dep 0 17 (by kernel_rfl)) rfl rfl)) (ha6 k (by omega)) ((evt za 18).trans (optVal (zc.dep 1 18 (by kernel_rfl)) rfl rfl)) (by first | omega | (simp; omega)) ⟨_, rfl, Below.refl _ _, optDef zβ rfl⟩
    refine ⟨⟨true, .none rfl, fun h w => optUndef h, fun zβ za zw zc => ?_⟩, ?_⟩
    ·exact ld_3 rfl ((evt za 19).trans (optVal (zc.dep 2 19 (by kernel_rfl)) rfl rfl)) (bkeeps zc.below _ _ (hc7 k (by omega))) ⟨_, rfl, Below.refl _ _, optDef zβ rfl⟩
    refine ⟨⟨true, .none rfl, fun h w => optUndef h, fun zβ za zw zc => ?_⟩, ?_⟩
    ·exact wp_move rfl (zc.kn.ev rfl) ⟨_, rfl, Below.refl _ _, optDef zβ rfl⟩
    refine ⟨⟨true, .none rfl, fun h w => optUndef h, fun zβ za zw zc => ?_⟩, ?_⟩
    ·exact wp_move rfl (zc.kn.ev rfl) ⟨_, rfl, Below.refl _ _, optDef zβ rfl⟩
    refine ⟨⟨true, .none rfl, fun h w => optUndef h, fun zβ za zw zc => ?_⟩, ?_⟩
    ·exact ix_31 (k := k) rfl ((evt za 21).trans (optVal (zc.dep 4 21 (by kernel_rfl)) rfl rfl)) (ha10 k (by omega)) ((evt za 22).trans (optVal (zc.dep 5 22 (by kernel_rfl)) rfl rfl)) (by first | omega | (simp; omega)) ⟨_, rfl, Below.refl _ _, optDef zβ rfl⟩
    refine ⟨⟨true, .none rfl, fun h w => optUndef h, fun zβ za zw zc => ?_⟩, ?_⟩
    ·exact ld_3 rfl ((evt za 23).trans (optVal (zc.dep 6 23 (by kernel_rfl)) rfl rfl)) (bkeeps zc.below _ _ (hc11 k (by omega))) ⟨_, rfl, Below.refl _ _, optDef zβ rfl⟩
    refine ⟨⟨true, .none rfl, fun h w => optUndef h, fun zβ za zw zc => ?_⟩, ?_⟩
    ·exact neq_3 rfl ((evt za 20).trans (optVal (zc.dep 3 20 (by kernel_rfl)) rfl rfl)) ((evt za 24).trans (optVal (zc.dep 7 24 (by kernel_rfl)) rfl rfl)) ⟨_, rfl, Below.refl _ _, optDef zβ rfl⟩
    exact trivial
   ·intro za w12 zh hb13 zu
    have zh := zh.cons (d := 25) (v := .bool ((((List.getD L k 0) : Int) != ((List.getD L k 0) : Int)))) (optVal (zu 8 25 (by kernel_rfl)) rfl rfl)
    clear zu
    refine WE.go zh ?_
    refine WE.next ?_
    refine WC.condF rfl ((by simp)) ?_
    refine WC.skip (WE.blockNormal (WE.next (WC.region (WL.mv rfl rfl rfl rfl rfl ?_))))
    refine WL.val (.int .i64 ((((k + 1) : Nat) : Int))) rfl rfl rfl (fun za zC zh zk => addb_3 rfl (zh.ev rfl) (zh.ev rfl) (wrap_eq (by omega) (by omega) (by omega)) zk) ?_
    refine WL.asg rfl rfl rfl rfl rfl (WL.nil ?_)
    refine WE.round (k + 1) ⟨rfl, rfl, rfl, rfl, trivial⟩ ?_ ?_
    ·have hb14 : Below w.heap.size w w12 := (bstep hb2 hb13)
     exact ⟨(by (try dsimp only at *); omega), hb14⟩
    ·(try dsimp only at *); omega
  ·have h3 : ¬ ((((k : Nat) : Int) : Int) < (((L.length : Nat) : Int) : Int)) := by simpa using h3
   refine WC.exit (WE.thenExit (WE.thenExit (WE.blockIs rfl (WE.next (WC.seq (WC.region (WL.asg rfl rfl rfl rfl rfl (WL.nil (WE.next (WC.ret (WE.ret1 rfl rfl ?_)))))))))))
   exact ⟨_, rfl, rfl, hb2⟩
def Told0 (w : World) (l : List Int) (v : Value) : Prop := ∃ a c, v = .slice a l.length c ∧ InRow eltI (fun _ => True) w l a
theorem Told0.below {w w' : World} {l : List Int} {v : Value} (h : Told0 w l v) (hb : Below w.heap.size w w') : Told0 w' l v := by
 obtain ⟨a, c, e, h⟩ := h
 exact ⟨a, c, e, h.below hb⟩
theorem told0 {w0 w : World} {l m : List Int} {v : Value} (h : Told w0 w l v) (e : l = m) : Told0 w m v := by
 obtain ⟨a, c, e1, _, _, h⟩ := h
 subst e
 exact ⟨a, c, e1, h.mono (by decide) (fun _ _ _ => trivial)⟩
theorem told_blk {w : World} {g t c : Nat} {l : List Int} (h : Blk w g t ((l.map (Value.int .i64)).toArray)) : Told0 w l (.slice (some ⟨g, 0, none⟩) l.length c) := ⟨_, c, rfl, fun i hi => ⟨g, 0, [.int .i64 l[i]], rfl, trivial, rfl, fun j hj => by
 have hj0 : j = 0 := by have z : j < 1 := hj; omega
 subst hj0
 rw [h.cell]
 show _ = some _
 simp [show eltI.k = 1 from rfl, hi]⟩⟩
theorem row_told {w : World} {l : List Int} {v u : Value} (h1 : Told0 w l v) (h2 : Told0 w l u) (hz : l.length ≤ 1073741824) : Calls Try.prog 19 #[v, u] w (Ret fun v' w' => v' = .bool true ∧ Below w.heap.size w w') := by
 obtain ⟨a, c, rfl, h1⟩ := h1
 obtain ⟨b, e, rfl, h2⟩ := h2
 exact row_same h1 h2 hz
def wkB : List TI := [(((.mk 2 [(.mk (-1) []), (.mk 1 [])]) : T), (1 : Int)), ((.mk 2 [(.mk 1 []), (.mk (-1) [])]), 2), ((.mk (-1) []), 3), ((.mk 1 []), 4)]
theorem wk1 : askP wkB 0 (prt (.mk 2 [(.mk 1 []), (.mk 1 [])])) = [1, 2, 3] := by decide +kernel
theorem wk2 : askP wkB 0 (prt (.mk 1 [])) = [3, 4] := by decide +kernel
theorem wk3 : askP wkB 1 (prt (.mk 2 [(.mk (-1) []), (.mk (-2) [])])) = [3] := by decide +kernel
theorem wk4 : askP wkB 2 (prt (.mk 2 [(.mk (-1) []), (.mk (-2) [])])) = [1, 2] := by decide +kernel
set_option maxRecDepth 100000 in
set_option maxHeartbeats 1000000 in
theorem wakes_any (w : World) : Calls Try.prog 7 #[] w (Ret fun v' w' => v' = .bool true ∧ Below w.heap.size w w') := by
 skip
 refine Calls.walk (l := []) Try.func7 rfl (by kernel_rfl) ?_
 refine WC.sub (K' := []) trivial ?_
 refine WC.seq (WC.region (WL.asg rfl rfl rfl rfl rfl (WL.nil (WE.next (WC.seq (WC.region ?_))))))
 refine WL.call rfl rfl rfl (fun za zh zC => wp_call (by kernel_rfl) rfl (hv0)) (fnew_any _) ?_
 rintro _ w1 ⟨⟨g9, rfl, hF9⟩, hb9⟩
 refine WL.asg rfl rfl rfl rfl rfl (WL.nil (WE.next (WC.seq (WC.region ?_))))
 refine WL.call rfl rfl rfl (fun za zh zC => wp_call (by kernel_rfl) rfl (hv2 (zh.ev rfl) (zh.ev rfl))) (lof_any _ _ _ _ _) ?_
 rintro _ w3 ⟨rfl, hq2⟩
 refine WL.call rfl rfl rfl (fun za zh zC => wp_call (by kernel_rfl) rfl (hv2 (zh.ev rfl) (zh.ev rfl))) (lof_any _ _ _ _ _) ?_
 rintro _ w5 ⟨rfl, hq4⟩
 refine WL.step (post := NewBlk w5 24 #[.int .i64 0, .slice none 0 0]) rfl rfl rfl (fun za zC zh zk => alloc_24 rfl (zk _ _ (newBlk _ _ _))) ?_
 rintro _ w6 ⟨g7, rfl, hg8, hB9, hb10, hz11⟩
 have hb12 : Below w.heap.size w w5 := (bstep (bstep hb9 hq2) hq4)
 have hl13 : w.heap.size ≤ g7 := by have z2 := (hb12).size; omega
 have hb14 : Below w1.heap.size w1 w5 := (bstep hq2 hq4)
 have hl15 : w1.heap.size ≤ g7 := by have z2 := (hb14).size; omega
 refine WL.step (post := NewBlk w6 24 #[.int .i64 0, .slice none 0 0]) rfl rfl rfl (fun za zC zh zk => alloc_24 rfl (zk _ _ (newBlk _ _ _))) ?_
 rintro _ w16 ⟨g17, rfl, hg18, hB19, hb20, hz21⟩
 have hl22 : g7 < g17 := by have z1 := hB9.lt; omega
 have hb23 : Below w.heap.size w w6 := (bstep hb12 hb10)
 have hl24 : w.heap.size ≤ g17 := by have z2 := (hb23).size; omega
 have hb25 : Below w1.heap.size w1 w6 := (bstep hb14 hb10)
 have hl26 : w1.heap.size ≤ g17 := by have z2 := (hb25).size; omega
 have hB27 := hB9.below hb20
 refine WL.step (post := fun _ w' => Upd g7 w16 w' ∧ Blk w' g7 24 #[.int .i64 1, .slice none 0 0]) rfl rfl rfl (fun za zC zh zk => st_24 rfl (zh.ev rfl) (zh.ev rfl) rfl rfl hB27 (by first | decide | simp) (fun v => zk v _ ⟨(Upd.at_ _ _ _ _).trans (Upd.at_ _ _ _ _), (hB27.set_ 0 _).set_ 1 _⟩)) ?_
 rintro v31 w28 ⟨hu29, hB30⟩
 have hb32 : Below w.heap.size w w16 := (bstep hb23 hb20)
 have hb33 : Below w1.heap.size w1 w16 := (bstep hb25 hb20)
 have hb34 := upd_below hb32 hu29 (by omega)
 have hb35 := upd_below hb33 hu29 (by omega)
 have hB36 := upd_blk hB19 hu29 (by omega)
 refine WL.step (post := fun _ w' => Upd g17 w28 w' ∧ Blk w' g17 24 #[.int .i64 ((-1)), .slice none 0 0]) rfl rfl rfl (fun za zC zh zk => st_24 rfl (zh.ev rfl) (zh.ev rfl) rfl rfl hB36 (by first | decide | simp) (fun v => zk v _ ⟨(Upd.at_ _ _ _ _).trans (Upd.at_ _ _ _ _), (hB36.set_ 0 _).set_ 1 _⟩)) ?_
 rintro v40 w37 ⟨hu38, hB39⟩
 have hb41 := upd_below hb34 hu38 (by omega)
 have hb42 := upd_below hb35 hu38 (by omega)
 have hB43 := upd_blk hB30 hu38 (by omega)
 refine WL.nil (WE.next (WC.seq (WC.seq (WC.region (WL.mv rfl rfl rfl rfl rfl ?_)))))
 refine WL.val (.bool false) rfl rfl rfl (fun za zC zh zk => eqlp_27 rfl (zh.ev rfl) (zh.ev rfl) zk) ?_
 refine WL.mv rfl rfl rfl rfl rfl ?_
 refine WL.want (d := 9) rfl rfl rfl ?_
 refine WL.mv rfl rfl rfl rfl rfl ?_
 refine WL.want (d := 9) rfl rfl rfl ?_
 refine WL.val _ rfl rfl rfl (fun za zC zh zk => ld_24 rfl (zh.ev rfl) ((hB39.cell 0).trans rfl) ((hB39.cell 1).trans rfl) zk) ?_
 refine WL.want (d := 9) rfl rfl rfl ?_
 refine WL.val _ rfl rfl rfl (fun za zC zh zk => ld_24 rfl (zh.ev rfl) ((hB43.cell 0).trans rfl) ((hB43.cell 1).trans rfl) zk) ?_
 refine WL.want (d := 9) rfl rfl rfl ?_
 refine WL.step (post := NewRow w37 24 #[.int .i64 ((-1)), .slice none 0 0, .int .i64 1, .slice none 0 0] 2) rfl rfl rfl (fun za zC zh zk => row_22_2 rfl (zh.ev rfl) (zh.ev rfl) (zk _ _ (newRow _ _ _ _))) ?_
 rintro _ w44 ⟨g45, rfl, hg46, hB47, hb48, hz49⟩
 have hl50 : g7 < g45 := by have z1 := hB43.lt; omega
 have hl51 : g17 < g45 := by have z1 := hB39.lt; omega
 have hl52 : w.heap.size ≤ g45 := by have z2 := (hb41).size; omega
 have hl53 : w1.heap.size ≤ g45 := by have z2 := (hb42).size; omega
 refine WL.want (d := 9) rfl rfl rfl ?_
 refine WL.call rfl rfl rfl (fun za zh zC => wp_call (by kernel_rfl) rfl (hv2 (zh.ev rfl) (zh.ev rfl))) (lof_any _ _ _ _ _) ?_
 rintro _ w55 ⟨rfl, hq54⟩
 refine WL.want (d := 9) rfl rfl rfl ?_
 have hb57 : Below w37.heap.size w37 w55 := (bstep hb48 hq54)
 have hB56 := hB43.below hb57
 have hB58 := hB39.below hb57
 have hB59 := hB47.below hq54
 have hq0 : ∀ b, (fun b => w.heap.size ≤ b ∧ b < w1.heap.size) b → w.heap.size ≤ b ∧ b ≠ g7 ∧ b ≠ g17 := fun b q => ⟨by have z := q.1; (have z2 := q.1); omega, by have z := q.2; (have z3 := q.2); omega, by have z := q.2; (have z3 := q.2); omega⟩
 have hT0 : IsT w55 (.mk 2 [(.mk ((-1)) []), (.mk 1 [])]) (.agg #[.int .i64 2, .slice ((some ⟨g45, 0, none⟩)) 2 2]) := (isT_mk (by unfold I64; decide) ⟨_, _, rfl, Nat.le_refl _, by unfold maxLen; decide, ⟨⟨_, 0, _, _, rfl, (hB59.cell _).trans rfl, (hB59.cell _).trans rfl, (isT_lf (by decide))⟩, ⟨⟨_, 0, _, _, rfl, (hB59.cell _).trans rfl, (hB59.cell _).trans rfl, (isT_lf (by decide))⟩, trivial⟩⟩⟩)
 have hb61 : Below w1.heap.size w1 w55 := (bstep hb42 hb57)
 have ho60 := hF9.below hb61
 have hl62 := hB56.lt
 have hl63 := hB58.lt
 refine WL.call rfl rfl rfl (fun za zh zC => wp_call (by kernel_rfl) rfl (hv3 (zh.ev rfl) (zh.ev rfl) (zh.ev rfl))) (fadd_any g9 _ [] _ (.mk 2 [(.mk ((-1)) []), (.mk 1 [])]) _ 1 (by decide) (by unfold I64; decide) (by decide) (by decide) hT0 ho60) ?_
 rintro _ w64 ⟨rfl, ⟨Z0_, hf0_, hz0_⟩, hc0_⟩
 have hb65 : Below w.heap.size w w55 := (bstep hb9 hb61)
 have hb66 := chg_below hb65 hc0_ (fun b hb => (fun h => by have z := hq0 _ h; (try dsimp only at *); omega))
 have hB67 := chg_blk hB56 hc0_ (fun h => by have z := hq0 _ h; (try dsimp only at *); omega)
 have hB68 := chg_blk hB58 hc0_ (fun h => by have z := hq0 _ h; (try dsimp only at *); omega)
 have hw0_ := (hb65).size
 have hq1 : ∀ b, Z0_ b → w.heap.size ≤ b ∧ b ≠ g7 ∧ b ≠ g17 := fun b q => by
  rcases hz0_ b q with q | q
  ·exact hq0 b q
  ·omega
 refine WL.want (d := 9) rfl rfl rfl ?_
 refine WL.val (.bool false) rfl rfl rfl (fun za zC zh zk => neq_29 rfl (zh.ev rfl) (zh.ev rfl) (by rw [show ((0 : Int) != (0 : Int)) = false from rfl]; exact zk)) ?_
 refine WL.val (.bool false) rfl rfl rfl (fun za zC zh zk => wp_pickF rfl (zh.ev rfl) (zh.ev rfl) zk) ?_
 refine WL.mv rfl rfl rfl rfl rfl ?_
 refine WL.want (d := 18) rfl rfl rfl ?_
 refine WL.mv rfl rfl rfl rfl rfl ?_
 refine WL.want (d := 18) rfl rfl rfl ?_
 refine WL.val _ rfl rfl rfl (fun za zC zh zk => ld_24 rfl (zh.ev rfl) ((hB67.cell 0).trans rfl) ((hB67.cell 1).trans rfl) zk) ?_
 refine WL.want (d := 18) rfl rfl rfl ?_
 refine WL.val _ rfl rfl rfl (fun za zC zh zk => ld_24 rfl (zh.ev rfl) ((hB68.cell 0).trans rfl) ((hB68.cell 1).trans rfl) zk) ?_
 refine WL.want (d := 18) rfl rfl rfl ?_
 refine WL.step (post := NewRow w64 24 #[.int .i64 1, .slice none 0 0, .int .i64 ((-1)), .slice none 0 0] 2) rfl rfl rfl (fun za zC zh zk => row_22_2 rfl (zh.ev rfl) (zh.ev rfl) (zk _ _ (newRow _ _ _ _))) ?_
 rintro _ w69 ⟨g70, rfl, hg71, hB72, hb73, hz74⟩
 have hl75 : g7 < g70 := by have z1 := hB67.lt; omega
 have hl76 : g17 < g70 := by have z1 := hB68.lt; omega
 have hl77 : w.heap.size ≤ g70 := by have z2 := (hb66).size; omega
 have hl78 : w64.heap.size ≤ g70 := by omega
 refine WL.want (d := 18) rfl rfl rfl ?_
 refine WL.call rfl rfl rfl (fun za zh zC => wp_call (by kernel_rfl) rfl (hv2 (zh.ev rfl) (zh.ev rfl))) (lof_any _ _ _ _ _) ?_
 rintro _ w80 ⟨rfl, hq79⟩
 refine WL.want (d := 18) rfl rfl rfl ?_
 have hB81 := hB72.below hq79
 have hT1 : IsT w80 (.mk 2 [(.mk 1 []), (.mk ((-1)) [])]) (.agg #[.int .i64 2, .slice ((some ⟨g70, 0, none⟩)) 2 2]) := (isT_mk (by unfold I64; decide) ⟨_, _, rfl, Nat.le_refl _, by unfold maxLen; decide, ⟨⟨_, 0, _, _, rfl, (hB81.cell _).trans rfl, (hB81.cell _).trans rfl, (isT_lf (by decide))⟩, ⟨⟨_, 0, _, _, rfl, (hB81.cell _).trans rfl, (hB81.cell _).trans rfl, (isT_lf (by decide))⟩, trivial⟩⟩⟩)
 have hb83 : Below w64.heap.size w64 w80 := (bstep hb73 hq79)
 have ho82 := hf0_.below hb83
 have hB84 := hB67.below hb83
 have hl85 := hB84.lt
 have hB86 := hB68.below hb83
 have hl87 := hB86.lt
 refine WL.call rfl rfl rfl (fun za zh zC => wp_call (by kernel_rfl) rfl (hv3 (zh.ev rfl) (zh.ev rfl) (zh.ev rfl))) (fadd_any g9 _ [((.mk 2 [(.mk (-1) []), (.mk 1 [])]), 1)] _ (.mk 2 [(.mk 1 []), (.mk ((-1)) [])]) _ 2 (by decide) (by unfold I64; decide) (by decide) (by decide) hT1 ho82) ?_
 rintro _ w88 ⟨rfl, ⟨Z1_, hf1_, hz1_⟩, hc1_⟩
 have hb89 : Below w.heap.size w w80 := (bstep hb66 hb83)
 have hb90 := chg_below hb89 hc1_ (fun b hb => (fun h => by have z := hq1 _ h; (try dsimp only at *); omega))
 have hB91 := chg_blk hB84 hc1_ (fun h => by have z := hq1 _ h; (try dsimp only at *); omega)
 have hB92 := chg_blk hB86 hc1_ (fun h => by have z := hq1 _ h; (try dsimp only at *); omega)
 have hw1_ := (hb89).size
 have hq2 : ∀ b, Z1_ b → w.heap.size ≤ b ∧ b ≠ g7 ∧ b ≠ g17 := fun b q => by
  rcases hz1_ b q with q | q
  ·exact hq1 b q
  ·omega
 refine WL.want (d := 18) rfl rfl rfl ?_
 refine WL.val (.bool false) rfl rfl rfl (fun za zC zh zk => neq_29 rfl (zh.ev rfl) (zh.ev rfl) (by rw [show ((0 : Int) != (0 : Int)) = false from rfl]; exact zk)) ?_
 refine WL.val (.bool false) rfl rfl rfl (fun za zC zh zk => wp_pickF rfl (zh.ev rfl) (zh.ev rfl) zk) ?_
 refine WL.mv rfl rfl rfl rfl rfl ?_
 refine WL.want (d := 27) rfl rfl rfl ?_
 refine WL.mv rfl rfl rfl rfl rfl ?_
 refine WL.want (d := 27) rfl rfl rfl ?_
 refine WL.val _ rfl rfl rfl (fun za zC zh zk => ld_24 rfl (zh.ev rfl) ((hB92.cell 0).trans rfl) ((hB92.cell 1).trans rfl) zk) ?_
 refine WL.want (d := 27) rfl rfl rfl ?_
 have hT2 : IsT w88 (.mk ((-1)) []) (.agg #[.int .i64 ((-1)), .slice none 0 0]) := (isT_lf (by decide))
 have hl93 := hB91.lt
 have hl94 := hB92.lt
 refine WL.call rfl rfl rfl (fun za zh zC => wp_call (by kernel_rfl) rfl (hv3 (zh.ev rfl) (zh.ev rfl) (zh.ev rfl))) (fadd_any g9 _ [((.mk 2 [(.mk (-1) []), (.mk 1 [])]), 1), ((.mk 2 [(.mk 1 []), (.mk (-1) [])]), 2)] _ (.mk ((-1)) []) _ 3 (by decide) (by unfold I64; decide) (by decide) (by decide) hT2 hf1_) ?_
 rintro _ w95 ⟨rfl, ⟨Z2_, hf2_, hz2_⟩, hc2_⟩
 have hb96 := chg_below hb90 hc2_ (fun b hb => (fun h => by have z := hq2 _ h; (try dsimp only at *); omega))
 have hB97 := chg_blk hB91 hc2_ (fun h => by have z := hq2 _ h; (try dsimp only at *); omega)
 have hB98 := chg_blk hB92 hc2_ (fun h => by have z := hq2 _ h; (try dsimp only at *); omega)
 have hw2_ := (hb90).size
 have hq3 : ∀ b, Z2_ b → w.heap.size ≤ b ∧ b ≠ g7 ∧ b ≠ g17 := fun b q => by
  rcases hz2_ b q with q | q
  ·exact hq2 b q
  ·omega
 refine WL.want (d := 27) rfl rfl rfl ?_
 refine WL.val (.bool false) rfl rfl rfl (fun za zC zh zk => neq_29 rfl (zh.ev rfl) (zh.ev rfl) (by rw [show ((0 : Int) != (0 : Int)) = false from rfl]; exact zk)) ?_
 refine WL.val (.bool false) rfl rfl rfl (fun za zC zh zk => wp_pickF rfl (zh.ev rfl) (zh.ev rfl) zk) ?_
 refine WL.mv rfl rfl rfl rfl rfl ?_
 refine WL.want (d := 33) rfl rfl rfl ?_
 refine WL.mv rfl rfl rfl rfl rfl ?_
 refine WL.want (d := 33) rfl rfl rfl ?_
 refine WL.val _ rfl rfl rfl (fun za zC zh zk => ld_24 rfl (zh.ev rfl) ((hB97.cell 0).trans rfl) ((hB97.cell 1).trans rfl) zk) ?_
 refine WL.want (d := 33) rfl rfl rfl ?_
 have hT3 : IsT w95 (.mk 1 []) (.agg #[.int .i64 1, .slice none 0 0]) := (isT_lf (by decide))
 have hl99 := hB97.lt
 have hl100 := hB98.lt
 refine WL.call rfl rfl rfl (fun za zh zC => wp_call (by kernel_rfl) rfl (hv3 (zh.ev rfl) (zh.ev rfl) (zh.ev rfl))) (fadd_any g9 _ [((.mk 2 [(.mk (-1) []), (.mk 1 [])]), 1), ((.mk 2 [(.mk 1 []), (.mk (-1) [])]), 2), ((.mk (-1) []), 3)] _ (.mk 1 []) _ 4 (by decide) (by unfold I64; decide) (by decide) (by decide) hT3 hf2_) ?_
 rintro _ w101 ⟨rfl, ⟨Z3_, hf3_, hz3_⟩, hc3_⟩
 have hb102 := chg_below hb96 hc3_ (fun b hb => (fun h => by have z := hq3 _ h; (try dsimp only at *); omega))
 have hB103 := chg_blk hB97 hc3_ (fun h => by have z := hq3 _ h; (try dsimp only at *); omega)
 have hB104 := chg_blk hB98 hc3_ (fun h => by have z := hq3 _ h; (try dsimp only at *); omega)
 have hw3_ := (hb96).size
 have hq4 : ∀ b, Z3_ b → w.heap.size ≤ b ∧ b ≠ g7 ∧ b ≠ g17 := fun b q => by
  rcases hz3_ b q with q | q
  ·exact hq3 b q
  ·omega
 refine WL.want (d := 33) rfl rfl rfl ?_
 refine WL.val (.bool false) rfl rfl rfl (fun za zC zh zk => neq_29 rfl (zh.ev rfl) (zh.ev rfl) (by rw [show ((0 : Int) != (0 : Int)) = false from rfl]; exact zk)) ?_
 refine WL.val (.bool false) rfl rfl rfl (fun za zC zh zk => wp_pickF rfl (zh.ev rfl) (zh.ev rfl) zk) ?_
 refine WL.nil (WE.sub (K' := [(0, .bool false), (1, .pointer (some ⟨g9, 0, none⟩)), (2, .pointer (some ⟨g7, 0, none⟩)), (3, .pointer (some ⟨g17, 0, none⟩)), (38, .bool false)]) ⟨rfl, rfl, rfl, rfl, rfl, trivial⟩ ?_)
 refine WE.next ?_
 refine WC.condF rfl rfl ?_
 refine WC.skip (WE.next (WC.seq ?_))
 refine WC.opt [(true, .val (.pointer (some ⟨g9, 0, none⟩))), (true, .val (.agg #[.int .i64 1, .slice none 0 0])), (true, .val (.agg #[.int .i64 1, .slice none 0 0])), (true, .mem (fun v w => RowT ([(.mk 1 []), (.mk 1 [])]) v w) (fun v w w' hb h => h.below hb)), (true, .mem (fun v w => IsT w ((.mk 2 [(.mk 1 []), (.mk 1 [])])) v) isT_keep), (true, .mem (fun v w => Told0 w [1, 2, 3] v) (fun v w w' hb h => h.below hb)), (true, .mem (fun v w => Told0 w [1, 2, 3] v) (fun v w w' hb h => h.below hb)), (true, .val (.bool true)), (true, .val (.bool true)), ((true && true), .val (.pointer (some ⟨g9, 0, none⟩))), ((true && true), .val (.agg #[.int .i64 1, .slice none 0 0])), ((true && true), .mem (fun v w => Told0 w [3, 4] v) (fun v w w' hb h => h.below hb)), ((true && true), .mem (fun v w => Told0 w [3, 4] v) (fun v w w' hb h => h.below hb)), ((true && true), .val (.bool true)), (true, .val (.bool true)), (true, .val (.bool true)), ((true && true), .val (.pointer (some ⟨g9, 0, none⟩))), ((true && true), .val (.agg #[.int .i64 ((-1)), .slice none 0 0])), ((true && true), .mem (fun v w => IsT w ((.mk ((-2)) [])) v) isT_keep), ((true && true), .mem (fun v w => RowT ([(.mk ((-1)) []), (.mk ((-2)) [])]) v w) (fun v w w' hb h => h.below hb)), ((true && true), .mem (fun v w => IsT w ((.mk 2 [(.mk ((-1)) []), (.mk ((-2)) [])])) v) isT_keep), ((true && true), .mem (fun v w => Told0 w [3] v) (fun v w w' hb h => h.below hb)), ((true && true), .mem (fun v w => Told0 w [3] v) (fun v w w' hb h => h.below hb)), ((true && true), .val (.bool true)), (true, .val (.bool true)), (true, .val (.bool true)), ((true && true), .val (.pointer (some ⟨g9, 0, none⟩))), ((true && true), .val (.agg #[.int .i64 ((-1)), .slice none 0 0])), ((true && true), .mem (fun v w => IsT w ((.mk ((-2)) [])) v) isT_keep), ((true && true), .mem (fun v w => RowT ([(.mk ((-1)) []), (.mk ((-2)) [])]) v w) (fun v w w' hb h => h.below hb)), ((true && true), .mem (fun v w => IsT w ((.mk 2 [(.mk ((-1)) []), (.mk ((-2)) [])])) v) isT_keep), ((true && true), .mem (fun v w => Told0 w [1, 2] v) (fun v w w' hb h => h.below hb)), ((true && true), .mem (fun v w => Told0 w [1, 2] v) (fun v w w' hb h => h.below hb)), ((true && true), .val (.bool true)), (true, .val (.bool true)), (true, .val (.bool true)), ((true && true), .val (.pointer (some ⟨g9, 0, none⟩))), ((true && true), .val (.int .i64 (((List.length wkB : Nat) : Int)))), ((true && true), .val (.bool true)), (true, .val (.bool true)), (true, .val (.bool true)), ((true && true), .val (.pointer (some ⟨g9, 0, none⟩))), ((true && true), .val (.agg #[.int .i64 1, .slice none 0 0])), ((true && true), .val (.int .i64 2)), ((true && true), .val (.bool true)), (true, .val (.bool true)), (true, .val (.bool true))] [(1, .pointer (some ⟨g9, 0, none⟩)), (2, .pointer (some ⟨g7, 0, none⟩)), (3, .pointer (some ⟨g17, 0, none⟩)), (38, .bool false)] ⟨rfl, rfl, rfl, rfl, trivial⟩ (by kernel_rfl) (by kernel_rfl) (by kernel_rfl) ?_ ?_
 ·refine ⟨⟨true, .none rfl, fun h w => optUndef h, fun zβ za zw zc => ?_⟩, ?_⟩
  ·exact wp_move rfl (zc.kn.ev rfl) ⟨_, rfl, Below.refl _ _, optDef zβ rfl⟩
  refine ⟨⟨true, .none rfl, fun h w => optUndef h, fun zβ za zw zc => ?_⟩, ?_⟩
  ·exact ld_24 rfl (zc.kn.ev rfl) (bkeeps zc.below _ _ ((hB103.cell 0).trans rfl)) (bkeeps zc.below _ _ ((hB103.cell 1).trans rfl)) ⟨_, rfl, Below.refl _ _, optDef zβ rfl⟩
  refine ⟨⟨true, .none rfl, fun h w => optUndef h, fun zβ za zw zc => ?_⟩, ?_⟩
  ·exact ld_24 rfl (zc.kn.ev rfl) (bkeeps zc.below _ _ ((hB103.cell 0).trans rfl)) (bkeeps zc.below _ _ ((hB103.cell 1).trans rfl)) ⟨_, rfl, Below.refl _ _, optDef zβ rfl⟩
  refine ⟨⟨true, .none rfl, fun h w => optUndef h, fun zβ za zw zc => ?_⟩, ?_⟩
  ·have m0 : IsT zw (.mk 1 []) (.agg #[.int .i64 1, .slice none 0 0]) := isT_lf (by decide)
   have E0 := ((evt za 40).trans (optVal (zc.dep 1 40 (by kernel_rfl)) rfl rfl))
   have m1 : IsT zw (.mk 1 []) (.agg #[.int .i64 1, .slice none 0 0]) := isT_lf (by decide)
   have E1 := ((evt za 41).trans (optVal (zc.dep 2 41 (by kernel_rfl)) rfl rfl))
   exact row_22_2 rfl E0 E1 ⟨_, rfl, balloc _ _, optDef zβ ⟨_, _, rfl, Nat.le_refl _, by unfold maxLen; decide, ⟨⟨_, 0, _, _, rfl, (Blk.cell (Blk.new' rfl) _).trans rfl, (Blk.cell (Blk.new' rfl) _).trans rfl, IsT.below (balloc _ _) m0⟩, ⟨⟨_, 0, _, _, rfl, (Blk.cell (Blk.new' rfl) _).trans rfl, (Blk.cell (Blk.new' rfl) _).trans rfl, IsT.below (balloc _ _) m1⟩, trivial⟩⟩⟩⟩
  refine ⟨⟨true, .none rfl, fun h w => optUndef h, fun zβ za zw zc => ?_⟩, ?_⟩
  ·obtain ⟨a1, c1, e1, hr1⟩ := (optMem (zc.dep 3 42 (by kernel_rfl)) rfl rfl)
   have m1 := (optMem (zc.dep 3 42 (by kernel_rfl)) rfl rfl)
   rw [e1] at m1
   exact wp_call (by kernel_rfl) rfl (hv2 (zc.kn.ev rfl) (((evt za 42)).trans e1)) (lof_any _ _ _ _ _) (fun v w' h => ⟨v, rfl, h.2, optDef zβ (by rw [h.1]; exact isT_mk (by unfold I64; decide) (m1.below h.2))⟩)
  refine ⟨⟨true, .none rfl, fun h w => optUndef h, fun zβ za zw zc => ?_⟩, ?_⟩
  ·obtain ⟨_, aq, cq, eq, _, _, _⟩ := IsT.form (optMem (zc.dep 4 43 (by kernel_rfl)) rfl rfl)
   have mq := (optMem (zc.dep 4 43 (by kernel_rfl)) rfl rfl)
   rw [eq] at mq
   have Eq := ((evt za 43)).trans eq
   exact wp_call (by kernel_rfl) rfl (hv2 ((evt za 39).trans (optVal (zc.dep 0 39 (by kernel_rfl)) rfl rfl)) Eq) (fUni_any g9 _ wkB _ (.mk 2 [(.mk 1 []), (.mk 1 [])]) _ (by decide) mq (FpIs.below hf3_ zc.below)) (fun v w' h => ⟨v, rfl, h.2, optDef zβ (told0 h.1 wk1)⟩)
  refine ⟨⟨true, .none rfl, fun h w => optUndef h, fun zβ za zw zc => ?_⟩, ?_⟩
  ·exact row_31_3 rfl (zc.kn.ev rfl) (zc.kn.ev rfl) (zc.kn.ev rfl) ⟨_, rfl, balloc _ _, optDef zβ (told_blk (l := [1, 2, 3]) (Blk.new' rfl))⟩
  refine ⟨⟨true, .none rfl, fun h w => optUndef h, fun zβ za zw zc => ?_⟩, ?_⟩
  ·exact wp_call (by kernel_rfl) rfl (hv2 (evt za 44) (evt za 45)) (row_told (optMem (zc.dep 5 44 (by kernel_rfl)) rfl rfl) (optMem (zc.dep 6 45 (by kernel_rfl)) rfl rfl) (by decide)) (fun v w' h => ⟨v, rfl, h.2, optDef zβ h.1⟩)
  refine ⟨⟨true, .none rfl, fun h w => optUndef h, fun zβ za zw zc => ?_⟩, ?_⟩
  ·exact wp_move rfl ((evt za 46).trans (optVal (zc.dep 7 46 (by kernel_rfl)) rfl rfl)) ⟨_, rfl, Below.refl _ _, optDef zβ rfl⟩
  refine ⟨⟨_, .yes (d := true) rfl (fun v w h => h), fun h w => optUndef h, fun zβ za zw zc => ?_⟩, ?_⟩
  ·exact wp_move rfl (zc.kn.ev rfl) ⟨_, rfl, Below.refl _ _, optDef zβ rfl⟩
  refine ⟨⟨_, .yes (d := true) rfl (fun v w h => h), fun h w => optUndef h, fun zβ za zw zc => ?_⟩, ?_⟩
  ·exact ld_24 rfl (zc.kn.ev rfl) (bkeeps zc.below _ _ ((hB103.cell 0).trans rfl)) (bkeeps zc.below _ _ ((hB103.cell 1).trans rfl)) ⟨_, rfl, Below.refl _ _, optDef zβ rfl⟩
  refine ⟨⟨_, .yes (d := true) rfl (fun v w h => h), fun h w => optUndef h, fun zβ za zw zc => ?_⟩, ?_⟩
  ·have mq : IsT zw (.mk 1 []) (.agg #[.int .i64 1, .slice none 0 0]) := isT_lf (by decide)
   have Eq := ((evt za 49).trans (optVal (zc.dep 10 49 (by kernel_rfl)) rfl rfl))
   exact wp_call (by kernel_rfl) rfl (hv2 ((evt za 48).trans (optVal (zc.dep 9 48 (by kernel_rfl)) rfl rfl)) Eq) (fUni_any g9 _ wkB _ (.mk 1 []) _ (by decide) mq (FpIs.below hf3_ zc.below)) (fun v w' h => ⟨v, rfl, h.2, optDef zβ (told0 h.1 wk2)⟩)
  refine ⟨⟨_, .yes (d := true) rfl (fun v w h => h), fun h w => optUndef h, fun zβ za zw zc => ?_⟩, ?_⟩
  ·exact row_31_2 rfl (zc.kn.ev rfl) (zc.kn.ev rfl) ⟨_, rfl, balloc _ _, optDef zβ (told_blk (l := [3, 4]) (Blk.new' rfl))⟩
  refine ⟨⟨_, .yes (d := true) rfl (fun v w h => h), fun h w => optUndef h, fun zβ za zw zc => ?_⟩, ?_⟩
  ·exact wp_call (by kernel_rfl) rfl (hv2 (evt za 50) (evt za 51)) (row_told (optMem (zc.dep 11 50 (by kernel_rfl)) rfl rfl) (optMem (zc.dep 12 51 (by kernel_rfl)) rfl rfl) (by decide)) (fun v w' h => ⟨v, rfl, h.2, optDef zβ h.1⟩)
  refine ⟨⟨true, .none rfl, fun h w => optUndef h, fun zβ za zw zc => ?_⟩, ?_⟩
  ·exact wp_pickT rfl ((evt za 47).trans (optVal (zc.dep 8 47 (by kernel_rfl)) rfl rfl)) ((evt za 52).trans (optVal (zc.dep 13 52 (by kernel_rfl)) rfl rfl)) ⟨_, rfl, Below.refl _ _, optDef zβ rfl⟩
  refine ⟨⟨true, .none rfl, fun h w => optUndef h, fun zβ za zw zc => ?_⟩, ?_⟩
  ·exact wp_move rfl ((evt za 53).trans (optVal (zc.dep 14 53 (by kernel_rfl)) rfl rfl)) ⟨_, rfl, Below.refl _ _, optDef zβ rfl⟩
  refine ⟨⟨_, .yes (d := true) rfl (fun v w h => h), fun h w => optUndef h, fun zβ za zw zc => ?_⟩, ?_⟩
  ·exact wp_move rfl (zc.kn.ev rfl) ⟨_, rfl, Below.refl _ _, optDef zβ rfl⟩
  refine ⟨⟨_, .yes (d := true) rfl (fun v w h => h), fun h w => optUndef h, fun zβ za zw zc => ?_⟩, ?_⟩
  ·exact ld_24 rfl (zc.kn.ev rfl) (bkeeps zc.below _ _ ((hB104.cell 0).trans rfl)) (bkeeps zc.below _ _ ((hB104.cell 1).trans rfl)) ⟨_, rfl, Below.refl _ _, optDef zβ rfl⟩
  refine ⟨⟨_, .yes (d := true) rfl (fun v w h => h), fun h w => optUndef h, fun zβ za zw zc => ?_⟩, ?_⟩
  ·exact wp_call (by kernel_rfl) rfl (hv2 (zc.kn.ev rfl) (zc.kn.ev rfl)) (lof_any _ _ _ _ _) (fun v w' h => ⟨v, rfl, h.2, optDef zβ (by rw [h.1]; exact isT_lf (by decide))⟩)
  refine ⟨⟨_, .yes (d := true) rfl (fun v w h => h), fun h w => optUndef h, fun zβ za zw zc => ?_⟩, ?_⟩
  ·have m0 : IsT zw (.mk ((-1)) []) (.agg #[.int .i64 ((-1)), .slice none 0 0]) := isT_lf (by decide)
   have E0 := ((evt za 56).trans (optVal (zc.dep 17 56 (by kernel_rfl)) rfl rfl))
   obtain ⟨_, a1, c1, e1, _, _, _⟩ := IsT.form (optMem (zc.dep 18 57 (by kernel_rfl)) rfl rfl)
   have m1 := (optMem (zc.dep 18 57 (by kernel_rfl)) rfl rfl)
   rw [e1] at m1
   have E1 := ((evt za 57)).trans e1
   exact row_22_2 rfl E0 E1 ⟨_, rfl, balloc _ _, optDef zβ ⟨_, _, rfl, Nat.le_refl _, by unfold maxLen; decide, ⟨⟨_, 0, _, _, rfl, (Blk.cell (Blk.new' rfl) _).trans rfl, (Blk.cell (Blk.new' rfl) _).trans rfl, IsT.below (balloc _ _) m0⟩, ⟨⟨_, 0, _, _, rfl, (Blk.cell (Blk.new' rfl) _).trans rfl, (Blk.cell (Blk.new' rfl) _).trans rfl, IsT.below (balloc _ _) m1⟩, trivial⟩⟩⟩⟩
  refine ⟨⟨_, .yes (d := true) rfl (fun v w h => h), fun h w => optUndef h, fun zβ za zw zc => ?_⟩, ?_⟩
  ·obtain ⟨a1, c1, e1, hr1⟩ := (optMem (zc.dep 19 58 (by kernel_rfl)) rfl rfl)
   have m1 := (optMem (zc.dep 19 58 (by kernel_rfl)) rfl rfl)
   rw [e1] at m1
   exact wp_call (by kernel_rfl) rfl (hv2 (zc.kn.ev rfl) (((evt za 58)).trans e1)) (lof_any _ _ _ _ _) (fun v w' h => ⟨v, rfl, h.2, optDef zβ (by rw [h.1]; exact isT_mk (by unfold I64; decide) (m1.below h.2))⟩)
  refine ⟨⟨_, .yes (d := true) rfl (fun v w h => h), fun h w => optUndef h, fun zβ za zw zc => ?_⟩, ?_⟩
  ·obtain ⟨_, aq, cq, eq, _, _, _⟩ := IsT.form (optMem (zc.dep 20 59 (by kernel_rfl)) rfl rfl)
   have mq := (optMem (zc.dep 20 59 (by kernel_rfl)) rfl rfl)
   rw [eq] at mq
   have Eq := ((evt za 59)).trans eq
   exact wp_call (by kernel_rfl) rfl (hv2 ((evt za 55).trans (optVal (zc.dep 16 55 (by kernel_rfl)) rfl rfl)) Eq) (fGen_any g9 _ wkB _ (.mk 2 [(.mk ((-1)) []), (.mk ((-2)) [])]) _ (by decide) mq (FpIs.below hf3_ zc.below)) (fun v w' h => ⟨v, rfl, h.2, optDef zβ (told0 h.1 wk3)⟩)
  refine ⟨⟨_, .yes (d := true) rfl (fun v w h => h), fun h w => optUndef h, fun zβ za zw zc => ?_⟩, ?_⟩
  ·exact row_31_1 rfl (zc.kn.ev rfl) ⟨_, rfl, balloc _ _, optDef zβ (told_blk (l := [3]) (Blk.new' rfl))⟩
  refine ⟨⟨_, .yes (d := true) rfl (fun v w h => h), fun h w => optUndef h, fun zβ za zw zc => ?_⟩, ?_⟩
  ·exact wp_call (by kernel_rfl) rfl (hv2 (evt za 60) (evt za 61)) (row_told (optMem (zc.dep 21 60 (by kernel_rfl)) rfl rfl) (optMem (zc.dep 22 61 (by kernel_rfl)) rfl rfl) (by decide)) (fun v w' h => ⟨v, rfl, h.2, optDef zβ h.1⟩)
  refine ⟨⟨true, .none rfl, fun h w => optUndef h, fun zβ za zw zc => ?_⟩, ?_⟩
  ·exact wp_pickT rfl ((evt za 54).trans (optVal (zc.dep 15 54 (by kernel_rfl)) rfl rfl)) ((evt za 62).trans (optVal (zc.dep 23 62 (by kernel_rfl)) rfl rfl)) ⟨_, rfl, Below.refl _ _, optDef zβ rfl⟩
  refine ⟨⟨true, .none rfl, fun h w => optUndef h, fun zβ za zw zc => ?_⟩, ?_⟩
  ·exact wp_move rfl ((evt za 63).trans (optVal (zc.dep 24 63 (by kernel_rfl)) rfl rfl)) ⟨_, rfl, Below.refl _ _, optDef zβ rfl⟩
  refine ⟨⟨_, .yes (d := true) rfl (fun v w h => h), fun h w => optUndef h, fun zβ za zw zc => ?_⟩, ?_⟩
  ·exact wp_move rfl (zc.kn.ev rfl) ⟨_, rfl, Below.refl _ _, optDef zβ rfl⟩
  refine ⟨⟨_, .yes (d := true) rfl (fun v w h => h), fun h w => optUndef h, fun zβ za zw zc => ?_⟩, ?_⟩
  ·exact ld_24 rfl (zc.kn.ev rfl) (bkeeps zc.below _ _ ((hB104.cell 0).trans rfl)) (bkeeps zc.below _ _ ((hB104.cell 1).trans rfl)) ⟨_, rfl, Below.refl _ _, optDef zβ rfl⟩
  refine ⟨⟨_, .yes (d := true) rfl (fun v w h => h), fun h w => optUndef h, fun zβ za zw zc => ?_⟩, ?_⟩
  ·exact wp_call (by kernel_rfl) rfl (hv2 (zc.kn.ev rfl) (zc.kn.ev rfl)) (lof_any _ _ _ _ _) (fun v w' h => ⟨v, rfl, h.2, optDef zβ (by rw [h.1]; exact isT_lf (by decide))⟩)
  refine ⟨⟨_, .yes (d := true) rfl (fun v w h => h), fun h w => optUndef h, fun zβ za zw zc => ?_⟩, ?_⟩
  ·have m0 : IsT zw (.mk ((-1)) []) (.agg #[.int .i64 ((-1)), .slice none 0 0]) := isT_lf (by decide)
   have E0 := ((evt za 66).trans (optVal (zc.dep 27 66 (by kernel_rfl)) rfl rfl))
   obtain ⟨_, a1, c1, e1, _, _, _⟩ := IsT.form (optMem (zc.dep 28 67 (by kernel_rfl)) rfl rfl)
   have m1 := (optMem (zc.dep 28 67 (by kernel_rfl)) rfl rfl)
   rw [e1] at m1
   have E1 := ((evt za 67)).trans e1
   exact row_22_2 rfl E0 E1 ⟨_, rfl, balloc _ _, optDef zβ ⟨_, _, rfl, Nat.le_refl _, by unfold maxLen; decide, ⟨⟨_, 0, _, _, rfl, (Blk.cell (Blk.new' rfl) _).trans rfl, (Blk.cell (Blk.new' rfl) _).trans rfl, IsT.below (balloc _ _) m0⟩, ⟨⟨_, 0, _, _, rfl, (Blk.cell (Blk.new' rfl) _).trans rfl, (Blk.cell (Blk.new' rfl) _).trans rfl, IsT.below (balloc _ _) m1⟩, trivial⟩⟩⟩⟩
  refine ⟨⟨_, .yes (d := true) rfl (fun v w h => h), fun h w => optUndef h, fun zβ za zw zc => ?_⟩, ?_⟩
  ·obtain ⟨a1, c1, e1, hr1⟩ := (optMem (zc.dep 29 68 (by kernel_rfl)) rfl rfl)
   have m1 := (optMem (zc.dep 29 68 (by kernel_rfl)) rfl rfl)
   rw [e1] at m1
   exact wp_call (by kernel_rfl) rfl (hv2 (zc.kn.ev rfl) (((evt za 68)).trans e1)) (lof_any _ _ _ _ _) (fun v w' h => ⟨v, rfl, h.2, optDef zβ (by rw [h.1]; exact isT_mk (by unfold I64; decide) (m1.below h.2))⟩)
  refine ⟨⟨_, .yes (d := true) rfl (fun v w h => h), fun h w => optUndef h, fun zβ za zw zc => ?_⟩, ?_⟩
  ·obtain ⟨_, aq, cq, eq, _, _, _⟩ := IsT.form (optMem (zc.dep 30 69 (by kernel_rfl)) rfl rfl)
   have mq := (optMem (zc.dep 30 69 (by kernel_rfl)) rfl rfl)
   rw [eq] at mq
   have Eq := ((evt za 69)).trans eq
   exact wp_call (by kernel_rfl) rfl (hv2 ((evt za 65).trans (optVal (zc.dep 26 65 (by kernel_rfl)) rfl rfl)) Eq) (fIns_any g9 _ wkB _ (.mk 2 [(.mk ((-1)) []), (.mk ((-2)) [])]) _ (by decide) mq (FpIs.below hf3_ zc.below)) (fun v w' h => ⟨v, rfl, h.2, optDef zβ (told0 h.1 wk4)⟩)
  refine ⟨⟨_, .yes (d := true) rfl (fun v w h => h), fun h w => optUndef h, fun zβ za zw zc => ?_⟩, ?_⟩
  ·exact row_31_2 rfl (zc.kn.ev rfl) (zc.kn.ev rfl) ⟨_, rfl, balloc _ _, optDef zβ (told_blk (l := [1, 2]) (Blk.new' rfl))⟩
  refine ⟨⟨_, .yes (d := true) rfl (fun v w h => h), fun h w => optUndef h, fun zβ za zw zc => ?_⟩, ?_⟩
  ·exact wp_call (by kernel_rfl) rfl (hv2 (evt za 70) (evt za 71)) (row_told (optMem (zc.dep 31 70 (by kernel_rfl)) rfl rfl) (optMem (zc.dep 32 71 (by kernel_rfl)) rfl rfl) (by decide)) (fun v w' h => ⟨v, rfl, h.2, optDef zβ h.1⟩)
  refine ⟨⟨true, .none rfl, fun h w => optUndef h, fun zβ za zw zc => ?_⟩, ?_⟩
  ·exact wp_pickT rfl ((evt za 64).trans (optVal (zc.dep 25 64 (by kernel_rfl)) rfl rfl)) ((evt za 72).trans (optVal (zc.dep 33 72 (by kernel_rfl)) rfl rfl)) ⟨_, rfl, Below.refl _ _, optDef zβ rfl⟩
  refine ⟨⟨true, .none rfl, fun h w => optUndef h, fun zβ za zw zc => ?_⟩, ?_⟩
  ·exact wp_move rfl ((evt za 73).trans (optVal (zc.dep 34 73 (by kernel_rfl)) rfl rfl)) ⟨_, rfl, Below.refl _ _, optDef zβ rfl⟩
  refine ⟨⟨_, .yes (d := true) rfl (fun v w h => h), fun h w => optUndef h, fun zβ za zw zc => ?_⟩, ?_⟩
  ·exact wp_move rfl (zc.kn.ev rfl) ⟨_, rfl, Below.refl _ _, optDef zβ rfl⟩
  refine ⟨⟨_, .yes (d := true) rfl (fun v w h => h), fun h w => optUndef h, fun zβ za zw zc => ?_⟩, ?_⟩
  ·exact wp_call (by kernel_rfl) rfl (hv1 ((evt za 75).trans (optVal (zc.dep 36 75 (by kernel_rfl)) rfl rfl))) (flen_any g9 _ wkB _ (FpIs.below hf3_ zc.below)) (fun v w' h => ⟨v, rfl, h.2, optDef zβ h.1⟩)
  refine ⟨⟨_, .yes (d := true) rfl (fun v w h => h), fun h w => optUndef h, fun zβ za zw zc => ?_⟩, ?_⟩
  ·exact eql_3 rfl ((evt za 76).trans (optVal (zc.dep 37 76 (by kernel_rfl)) rfl rfl)) (zc.kn.ev rfl) (by rw [show ((((List.length wkB : Nat) : Int) : Int) == (4 : Int)) = true from rfl]; exact ⟨_, rfl, Below.refl _ _, optDef zβ rfl⟩)
  refine ⟨⟨true, .none rfl, fun h w => optUndef h, fun zβ za zw zc => ?_⟩, ?_⟩
  ·exact wp_pickT rfl ((evt za 74).trans (optVal (zc.dep 35 74 (by kernel_rfl)) rfl rfl)) ((evt za 77).trans (optVal (zc.dep 38 77 (by kernel_rfl)) rfl rfl)) ⟨_, rfl, Below.refl _ _, optDef zβ rfl⟩
  refine ⟨⟨true, .none rfl, fun h w => optUndef h, fun zβ za zw zc => ?_⟩, ?_⟩
  ·exact wp_move rfl ((evt za 78).trans (optVal (zc.dep 39 78 (by kernel_rfl)) rfl rfl)) ⟨_, rfl, Below.refl _ _, optDef zβ rfl⟩
  refine ⟨⟨_, .yes (d := true) rfl (fun v w h => h), fun h w => optUndef h, fun zβ za zw zc => ?_⟩, ?_⟩
  ·exact wp_move rfl (zc.kn.ev rfl) ⟨_, rfl, Below.refl _ _, optDef zβ rfl⟩
  refine ⟨⟨_, .yes (d := true) rfl (fun v w h => h), fun h w => optUndef h, fun zβ za zw zc => ?_⟩, ?_⟩
  ·exact ld_24 rfl (zc.kn.ev rfl) (bkeeps zc.below _ _ ((hB103.cell 0).trans rfl)) (bkeeps zc.below _ _ ((hB103.cell 1).trans rfl)) ⟨_, rfl, Below.refl _ _, optDef zβ rfl⟩
  refine ⟨⟨_, .yes (d := true) rfl (fun v w h => h), fun h w => optUndef h, fun zβ za zw zc => ?_⟩, ?_⟩
  ·exact wp_call (by kernel_rfl) rfl (hv3 ((evt za 80).trans (optVal (zc.dep 41 80 (by kernel_rfl)) rfl rfl)) ((evt za 81).trans (optVal (zc.dep 42 81 (by kernel_rfl)) rfl rfl)) (zc.kn.ev rfl)) (fadd_no g9 _ _ _ (.agg #[.int .i64 1, .slice none 0 0]) _ _ _ _ _ (by decide) (FpIs.below hf3_ zc.below)) (fun v w' h => ⟨v, rfl, h.2, optDef zβ h.1⟩)
  refine ⟨⟨_, .yes (d := true) rfl (fun v w h => h), fun h w => optUndef h, fun zβ za zw zc => ?_⟩, ?_⟩
  ·exact eql_29 rfl ((evt za 82).trans (optVal (zc.dep 43 82 (by kernel_rfl)) rfl rfl)) (zc.kn.ev rfl) (by rw [show ((2 : Int) == (2 : Int)) = true from rfl]; exact ⟨_, rfl, Below.refl _ _, optDef zβ rfl⟩)
  refine ⟨⟨true, .none rfl, fun h w => optUndef h, fun zβ za zw zc => ?_⟩, ?_⟩
  ·exact wp_pickT rfl ((evt za 79).trans (optVal (zc.dep 40 79 (by kernel_rfl)) rfl rfl)) ((evt za 83).trans (optVal (zc.dep 44 83 (by kernel_rfl)) rfl rfl)) ⟨_, rfl, Below.refl _ _, optDef zβ rfl⟩
  refine ⟨⟨true, .none rfl, fun h w => optUndef h, fun zβ za zw zc => ?_⟩, ?_⟩
  ·exact wp_assign rfl ((evt za 84).trans (optVal (zc.dep 45 84 (by kernel_rfl)) rfl rfl)) ⟨_, rfl, Below.refl _ _, optDef zβ rfl⟩
  exact trivial
 ·intro za w107 zh hb108 zu
  have zh := zh.cons (d := 0) (v := .bool true) (optVal (zu 46 0 (by kernel_rfl)) rfl rfl)
  clear zu
  refine WE.go zh ?_
  refine WE.next (WC.ret (WE.ret1 rfl rfl ?_))
  have hb109 : Below w.heap.size w w107 := (bstep hb102 hb108)
  exact ⟨_, rfl, rfl, hb109⟩
end Go.Proofs.Ytibncmnmjhimeaa

namespace Go.Proofs.Ytibncmnmjhimeaa
end Go.Proofs.Ytibncmnmjhimeaa

namespace Go.Proofs.Ytibncmnmjhimeaa
end Go.Proofs.Ytibncmnmjhimeaa

/- The document's matcher tells its bindings: insertion, plain. -/
namespace Go.Proofs.Ytibncmnmjhimeaa
open Go.RowKit Go
set_option linter.unusedVariables false
set_option linter.unusedSimpArgs false
def insAt (L : List Bd) (j : Nat) (x : Bd) : List Bd := L.take j ++ x :: L.drop j
section
variable {L st : List Bd} {j i k : Nat} {x : Bd}
theorem insAt_len (h : j ≤ L.length) : (insAt L j x).length = L.length + 1 := by unfold insAt; simp; omega
theorem insAt_end : insAt L L.length x = L ++ [x] := by unfold insAt; rw [List.take_length, List.drop_length]
theorem dget_ins_at (h : j ≤ L.length) : dget (insAt L j x) j = x := by
  have e : (L.take j).length = j := by simp; omega
  unfold insAt dget
  rw [List.getD_eq_getElem?_getD, List.getElem?_append_right (by omega), e, Nat.sub_self]; rfl
theorem dget_ins_lt (hk : k < j) (h : j ≤ L.length) : dget (insAt L j x) k = dget L k := by
  have e : (L.take j).length = j := by simp; omega
  unfold insAt dget
  rw [List.getD_eq_getElem?_getD, List.getElem?_append_left (by omega), List.getElem?_take_of_lt hk, List.getD_eq_getElem?_getD]
theorem ins_swap (h0 : 0 < j) (h : j ≤ L.length) : ((insAt L j x).set j (dget (insAt L j x) (j - 1))).set (j - 1) (dget (insAt L j x) j) = insAt L (j - 1) x := by
  rw [dget_ins_at h, dget_ins_lt (by omega) h]
  obtain ⟨m, rfl⟩ : ∃ m, j = m + 1 := ⟨j - 1, by omega⟩
  rw [Nat.add_sub_cancel]
  have hm : m < L.length := by omega
  have e1 : (L.take (m + 1)).length = m + 1 := by simp; omega
  have e0 : (L.take m).length = m := by simp; omega
  unfold insAt
  rw [List.set_append_right _ _ (by omega), e1, Nat.sub_self, List.set_cons_zero, List.take_succ_eq_append_getElem hm, List.append_assoc, List.set_append_right _ _ (by omega), e0, Nat.sub_self, List.singleton_append, List.set_cons_zero, List.drop_eq_getElem_cons hm, dget_lt hm]
theorem mem_ins {y : Bd} : y ∈ insAt L j x ↔ y ∈ L ∨ y = x := by
  have : y ∈ L ↔ y ∈ L.take j ∨ y ∈ L.drop j := by rw [← List.mem_append, List.take_append_drop]
  unfold insAt
  rw [this, List.mem_append, List.mem_cons]
  constructor
  · rintro (q | q | q)
    · exact .inl (.inl q)
    · exact .inr q
    · exact .inl (.inr q)
  · rintro ((q | q) | q)
    · exact .inl q
    · exact .inr (.inr q)
    · exact .inr (.inl q)
theorem take_snoc (hi : i < st.length) : st.take (i + 1) = st.take i ++ [dget st i] := by rw [List.take_succ_eq_append_getElem hi, dget_lt hi]
theorem subOf_skip (h : SubOf (st.take i) L) (hi : i < st.length) (hs : (dget st i).itself = true) : SubOf (st.take (i + 1)) L := by
  refine ⟨h.sorted, fun y => ?_⟩
  rw [h.mem, take_snoc hi, List.mem_append, List.mem_singleton]
  constructor
  · rintro ⟨q, e⟩; exact ⟨.inl q, e⟩
  · rintro ⟨q | q, e⟩
    · exact ⟨q, e⟩
    · rw [q, hs] at e; cases e
theorem subOf_nil : SubOf (st.take 0) [] := ⟨List.Pairwise.nil, fun y => by simp⟩
theorem subOf_ins (h : SubOf (st.take i) L) (hn : (st.map (·.var)).Nodup) (hi : i < st.length) (hs : ¬ (dget st i).itself = true) (hj : j ≤ L.length) (hr : ∀ k, j ≤ k → k < L.length → (dget st i).var < (dget L k).var) (hl : ¬ (0 < j ∧ (dget st i).var < (dget L (j - 1)).var)) : SubOf (st.take (i + 1)) (insAt L j (dget st i)) := by
  have ne : ∀ y ∈ L, y.var ≠ (dget st i).var := by
    intro y hy e
    have h1 := ((h.mem y).1 hy).1
    obtain ⟨m, hm, rfl⟩ := List.getElem_of_mem h1
    have hmi : m < i := by simp at hm; omega
    rw [List.getElem_take, dget_lt hi] at e
    have hx : (st.map (·.var))[m]'(by simp; omega) = (st.map (·.var))[i]'(by simp; omega) := by simpa using e
    have := (List.getElem_inj hn).1 hx
    omega
  refine ⟨?_, fun y => ?_⟩
  · unfold insAt
    have hLs : (L.take j ++ L.drop j).Pairwise fun x y => x.var < y.var := by rw [List.take_append_drop]; exact h.sorted
    obtain ⟨p1, p2, p3⟩ := List.pairwise_append.1 hLs
    have right : ∀ y ∈ L.drop j, (dget st i).var < y.var := by
      intro y hy
      obtain ⟨m, hm, rfl⟩ := List.getElem_of_mem hy
      have hm' : j + m < L.length := by simp at hm; omega
      have := hr (j + m) (by omega) hm'
      rw [dget_lt hm'] at this
      rw [List.getElem_drop]; exact this
    have left : ∀ y ∈ L.take j, y.var < (dget st i).var := by
      intro y hy
      obtain ⟨m, hm, rfl⟩ := List.getElem_of_mem hy
      have hm' : m < j := by simp at hm; omega
      have hjl : j - 1 < L.length := by omega
      have h1 : ¬ (dget st i).var < L[j - 1].var := fun q => hl ⟨by omega, by rw [dget_lt hjl]; exact q⟩
      have h2 := ne L[j - 1] (List.getElem_mem _)
      rw [List.getElem_take]
      rcases Nat.lt_or_ge m (j - 1) with q | q
      · have := List.pairwise_iff_getElem.1 h.sorted m (j - 1) (by omega) hjl q
        omega
      · have e : m = j - 1 := by omega
        subst e; omega
    refine List.pairwise_append.2 ⟨p1, List.pairwise_cons.2 ⟨right, p2⟩, fun a ha b hb => ?_⟩
    rcases List.mem_cons.1 hb with e | hb
    · rw [e]; exact left a ha
    · exact p3 a ha b hb
  · rw [mem_ins, h.mem, take_snoc hi, List.mem_append, List.mem_singleton]
    constructor
    · rintro (⟨q, e⟩ | q)
      · exact ⟨.inl q, e⟩
      · exact ⟨.inr q, by rw [q]; exact Bool.eq_false_iff.2 hs⟩
    · rintro ⟨q | q, e⟩
      · exact .inl ⟨q, e⟩
      · exact .inr q
end
structure RXs where
  i : Nat
  a : Option Addr
  c : Nat
  n : Nat
  L : List Bd
end Go.Proofs.Ytibncmnmjhimeaa

/- The document's matcher: how it lies in memory. -/
namespace Go.Proofs.Ytibncmnmjhimeaa
open Go.RowKit Go
set_option linter.unusedVariables false
set_option linter.unusedSimpArgs false
/-- The document's matcher at the block 'g': its bindings, and 'D': the blocks of its own. -/
structure RefIn (w : World) (g : Nat) (st : List Bd) (D : Nat → Prop) (a : Option Addr) (c : Nat) : Prop where
  blk : Blk w g 66 #[.slice a st.length c]
  row : RowD eltB (fun b => D b ∧ b ≠ g ∧ (Value.slice a st.length c).ownBlock ≠ some b) w 85 a c st.length st
  dg : D g
  drow : ∀ b, (Value.slice a st.length c).ownBlock = some b → D b
  dlt : ∀ b, D b → b < w.heap.size
  sz : ∀ x ∈ st, x.t.size ≤ 4294967296
def RefAt (w : World) (g : Nat) (st : List Bd) (D : Nat → Prop) : Prop := ∃ a c, RefIn w g st D a c
section
variable {w w' w0 : World} {g : Nat} {st : List Bd} {D S : Nat → Prop} {a : Option Addr} {c : Nat}
theorem RefIn.chg (h : RefIn w g st D a c) (hc : Chg S w w') (hS : ∀ b, D b → ¬ S b) : RefIn w' g st D a c where
  blk := chg_blk h.blk hc (hS _ h.dg)
  row := h.row.chg hc (fun b q => hS b (h.drow b q)) (fun b q => hS b q.1)
  dg := h.dg
  drow := h.drow
  dlt := fun b q => Nat.lt_of_lt_of_le (h.dlt b q) hc.size
  sz := h.sz
theorem RefAt.chg (h : RefAt w g st D) (hc : Chg S w w') (hS : ∀ b, D b → ¬ S b) : RefAt w' g st D := by
  obtain ⟨a, c, h⟩ := h
  exact ⟨a, c, h.chg hc hS⟩
theorem RefAt.below (h : RefAt w g st D) (hb : Below w.heap.size w w') : RefAt w' g st D := h.chg (S := fun _ => False) (.ofBelow hb) (fun _ _ => id)
theorem RefIn.rowg (h : RefIn w g st D a c) : (Value.slice a st.length c).ownBlock ≠ some g := h.row.neBlk h.blk (by decide)
theorem RefIn.cap (h : RefIn w g st D a c) : st.length ≤ c ∧ c ≤ maxLen := ⟨h.row.inRow.2.1, h.row.inRow.2.2⟩
/-- One binding more. -/
theorem RefIn.push {x : Bd} {ra : Option Addr} {rc : Nat} {Z : Nat → Prop} (h : RefIn w g st D a c) (hr : RowD eltB Z w' 85 ra rc (st.length + 1) (st ++ [x])) (hZ : ∀ b, Z b → ((D b ∧ b ≠ g ∧ (Value.slice a st.length c).ownBlock ≠ some b) ∨ w.heap.size ≤ b))
    (ho : ∀ b, (Value.slice ra (st.length + 1) rc).ownBlock = some b → (Value.slice a st.length c).ownBlock = some b ∨ w.heap.size ≤ b) (hB : Blk w' g 66 #[.slice ra (st.length + 1) rc]) (hz : x.t.size ≤ 4294967296) (hw : w.heap.size ≤ w'.heap.size) : RefIn w' g (st ++ [x]) (fun b => D b ∨ (w.heap.size ≤ b ∧ b < w'.heap.size)) ra rc := by
  have e : (st ++ [x]).length = st.length + 1 := by simp
  have hgl := h.blk.lt
  refine ⟨by rw [e]; exact hB, ?_, .inl h.dg, ?_, ?_, ?_⟩
  · rw [e]
    refine hr.mono (fun b q hlt => ⟨?_, ?_, hr.ne b q⟩) (fun b q => q.2.2)
    · rcases hZ b q with q | q
      · exact .inl q.1
      · exact .inr ⟨q, hlt⟩
    · rcases hZ b q with q | q
      · exact q.2.1
      · omega
  · rw [e]
    intro b q
    rcases ho b q with q2 | q2
    · exact .inl (h.drow b q2)
    · exact .inr ⟨q2, hr.lt b q⟩
  · rintro b (q | q)
    · exact Nat.lt_of_lt_of_le (h.dlt b q) hw
    · exact q.2
  · intro y hy
    rcases List.mem_append.1 hy with q | q
    · exact h.sz y q
    · rw [List.mem_singleton] at q; rw [q]; exact hz
/-- The first bindings alone. -/
theorem RefIn.cut (h : RefIn w g st D a c) (k : Nat) (hk : k ≤ st.length) (hB : Blk w' g 66 #[.slice a k c]) (hc : Chg (fun b => b = g) w w') : RefIn w' g (st.take k) D a c := by
  have e : (st.take k).length = k := by simp; omega
  have hr := h.row.take k hk
  have own : ∀ {k1 k2 : Nat}, (Value.slice a k1 c).ownBlock = (Value.slice a k2 c).ownBlock := by intro k1 k2; cases a <;> rfl
  refine ⟨by rw [e]; exact hB, ?_, h.dg, ?_, fun b q => Nat.lt_of_lt_of_le (h.dlt b q) hc.size, fun x hx => h.sz x (List.mem_of_mem_take hx)⟩
  · rw [e]
    refine RowD.mono (hr.chg hc (fun b q => ?_) (fun b q => q.2.1)) (fun b q _ => ⟨q.1, q.2.1, fun q2 => q.2.2 (own.trans q2)⟩) (fun b q => q.2.2)
    intro e2
    exact h.rowg (own.trans (e2 ▸ q))
  · rw [e]; exact fun b q => h.drow b (own.trans q)
/-- A binding. -/
theorem RefIn.rows (h : RefIn w g st D a c) : InRow eltB (fun _ => True) w st a := h.row.inRow.1
end
theorem RefIn.start {w : World} {g : Nat} (hB : Blk w g 66 #[.slice none 0 0]) : RefIn w g [] (fun b => b = g) none 0 :=
  ⟨hB, RowD.nil, rfl, fun b h => (nomatch h), fun b q => by rw [q]; exact hB.lt, fun x hx => (nomatch hx)⟩
/-- As 'MatGo'. -/
def RefGo (w0 : World) (D : Nat → Prop) (g : Nat) (st : List Bd) (w : World) : Prop := (∃ D', RefAt w g st D' ∧ ∀ b, D' b → Since w0 D b) ∧ w0.heap.size ≤ w.heap.size
section
variable {w0 w w' : World} {g : Nat} {st st' : List Bd} {D S : Nat → Prop}
theorem RefGo.start (h : RefAt w g st D) : RefGo w D g st w := ⟨⟨D, h, fun _ => .inl⟩, Nat.le_refl _⟩
theorem RefGo.below (h : RefGo w0 D g st w) (hb : Below w.heap.size w w') : RefGo w0 D g st w' := by
  obtain ⟨⟨C', h, h1⟩, h2⟩ := h
  exact ⟨⟨C', h.below hb, h1⟩, Nat.le_trans h2 hb.size⟩
theorem RefGo.done {w w1 w' : World} {g : Nat} {st : List Bd} {C : Nat → Prop} (h : RefGo w1 C g st w') (hb : w.heap.size ≤ w1.heap.size) : ∃ C', RefAt w' g st C' ∧ ∀ b, C' b → C b ∨ w.heap.size ≤ b := by
  obtain ⟨⟨C', h, h1⟩, _⟩ := h
  exact ⟨C', h, fun b q => (h1 b q).imp id (fun q => Nat.le_trans hb q)⟩
theorem RefGo.in_ (h : RefGo w0 D g st w) : ∃ D' a c, RefIn w g st D' a c ∧ (∀ b, D' b → Since w0 D b) := by
  obtain ⟨⟨D', ⟨a, c, h⟩, h1⟩, _⟩ := h
  exact ⟨D', a, c, h, h1⟩
end
end Go.Proofs.Ytibncmnmjhimeaa

/- The document's matcher: how it matches a term, plain. -/
namespace Go.Proofs.Ytibncmnmjhimeaa
open Go.RowKit Go
set_option linter.unusedVariables false
set_option linter.unusedSimpArgs false
theorem subFind_here {v : Int} : ∀ {st : List Bd} {k : Nat}, k < st.length → (∀ i, i < k → (dget st i).var ≠ v) → (dget st k).var = v → subFind st v = some (dget st k).t
  | b :: st, 0, _, _, h => by simp [dget] at h; simp [subFind, dget, h]
  | b :: st, k + 1, hk, hn, h => by
    have h0 : ¬ b.var = v := by simpa [dget] using hn 0 (by omega)
    have := subFind_here (v := v) (st := st) (k := k) (by simpa using hk) (fun i hi => by simpa [dget] using hn (i + 1) (by omega)) (by simpa [dget] using h)
    simpa [subFind, h0, dget] using this
theorem subFind_gone {v : Int} {st : List Bd} (h : ∀ i, i < st.length → (dget st i).var ≠ v) : subFind st v = none := by
  unfold subFind
  rw [Option.map_eq_none_iff, List.find?_eq_none]
  intro x hx e
  obtain ⟨i, hi, rfl⟩ := List.getElem_of_mem hx
  have := h i hi
  rw [dget_lt hi] at this
  exact this (by simpa using e)
/-- What 'get' tells. -/
def RGetIs (st : List Bd) (v : Int) (x : Value) (w : World) : Prop := match subFind st v with
  | none => x = .tuple #[.agg #[.int .i64 0, .slice none 0 0], .bool false]
  | some o => ∃ (a : Option Addr) (c : Nat), x = .tuple #[.agg #[.int .i64 o.f, .slice a o.args.length c], .bool true] ∧ IsT w o (.agg #[.int .i64 o.f, .slice a o.args.length c])
def mtB (p t : T) (st : List Bd) : Bool := (p.mt st t).isSome
/-- What is bound when a term was matched, or was not. -/
structure RtOk (p t : T) (st st' : List Bd) : Prop where
  ok : ∀ s, p.mt st t = some s → st' = s
  lo : st.length ≤ st'.length
  hi : st'.length ≤ st.length + p.size
  pre : st'.take st.length = st
theorem RtOk.same {p t : T} {st : List Bd} (h : ∀ s, p.mt st t = some s → st = s) : RtOk p t st st := ⟨h, Nat.le_refl _, Nat.le_add_right _ _, List.take_length⟩
theorem mt_oldr {f : Int} {l : List T} {st : List Bd} {t o : T} (hf : f < 0) (h : subFind st (-1 - f) = some o) : (T.mk f l).mt st t = if T.same o t = true then some st else none := by rw [T.mt, if_pos hf, h]
theorem mt_old_ok {f : Int} {l : List T} {st : List Bd} {t o : T} (hf : f < 0) (h : subFind st (-1 - f) = some o) : RtOk (.mk f l) t st st ∧ mtB (.mk f l) t st = T.same o t := by
  unfold mtB
  rw [mt_oldr hf h]
  refine ⟨.same fun s e => ?_, ?_⟩
  · rw [mt_oldr hf h] at e; split at e <;> cases e; rfl
  · cases T.same o t <;> rfl
theorem mt_offr {f : Int} {l : List T} {st : List Bd} {t : T} (hf : ¬ f < 0) (h : ¬ (f = t.f ∧ l.length = t.args.length)) : (T.mk f l).mt st t = none := by rw [T.mt, if_neg hf, if_neg h]
theorem mt_new_ok {f : Int} {l : List T} {st : List Bd} {t : T} (hf : f < 0) (h : subFind st (-1 - f) = none) : RtOk (.mk f l) t st (st ++ [⟨-1 - f, t⟩]) ∧ mtB (.mk f l) t st = true := by
  unfold mtB
  have e : (T.mk f l).mt st t = some (st ++ [⟨-1 - f, t⟩]) := by rw [T.mt, if_pos hf, h]
  refine ⟨⟨fun s q => by rw [e] at q; exact Option.some.inj q, by simp, by rw [T.size]; simp, by simp⟩, by rw [e]; rfl⟩
theorem mt_args {f : Int} {l : List T} {st : List Bd} {t : T} (hf : ¬ f < 0) (h : f = t.f ∧ l.length = t.args.length) : (T.mk f l).mt st t = T.mtL l st t.args := by rw [T.mt, if_neg hf, if_pos h]
theorem mtL_step {l ts : List T} {k : Nat} {x : List Bd} (hk : k < l.length) (hl : l.length = ts.length) : T.mtL (l.drop k) x (ts.drop k) = match (tget l k).mt x (tget ts k) with | none => none | some s => T.mtL (l.drop (k + 1)) s (ts.drop (k + 1)) := by
  rw [List.drop_eq_getElem_cons hk, List.drop_eq_getElem_cons (show k < ts.length by omega), T.mtL, tget_lt hk, tget_lt (by omega)]
  cases l[k].mt x ts[k] <;> rfl
theorem sizeL_drop {l : List T} {k : Nat} (hk : k < l.length) : T.sizeL (l.drop k) = (tget l k).size + T.sizeL (l.drop (k + 1)) := by
  rw [List.drop_eq_getElem_cons hk, T.sizeL, tget_lt hk]
/-- The loop over the arguments. -/
structure RtL (l ts : List T) (st : List Bd) (k : Nat) (x : List Bd) : Prop where
  ans : T.mtL l st ts = T.mtL (l.drop k) x (ts.drop k)
  lo : st.length ≤ x.length
  hi : x.length + T.sizeL (l.drop k) ≤ st.length + T.sizeL l
  pre : x.take st.length = st
theorem RtL.start {l ts : List T} {st : List Bd} : RtL l ts st 0 st := ⟨by simp, Nat.le_refl _, by simp, List.take_length⟩
theorem RtL.next {l ts : List T} {st x x' : List Bd} {k : Nat} (h : RtL l ts st k x) (hk : k < l.length) (hl : l.length = ts.length) (hr : RtOk (tget l k) (tget ts k) x x') (hs : mtB (tget l k) (tget ts k) x = true) : RtL l ts st (k + 1) x' := by
  obtain ⟨s, hs⟩ := Option.isSome_iff_exists.1 hs
  obtain rfl := hr.ok s hs
  have := sizeL_drop hk
  have h1 := hr.hi
  have h2 := hr.lo
  have h3 := h.lo
  have h4 := h.hi
  refine ⟨by rw [h.ans, mtL_step hk hl, hs], by omega, by omega, ?_⟩
  have e9 : x'.take st.length = (x'.take x.length).take st.length := by rw [List.take_take, Nat.min_eq_left h3]
  rw [e9, hr.pre, h.pre]
theorem RtL.bad {f : Int} {l : List T} {t : T} {st x x' : List Bd} {k : Nat} (h : RtL l t.args st k x) (hf : ¬ f < 0) (he : f = t.f ∧ l.length = t.args.length) (hk : k < l.length) (hr : RtOk (tget l k) (tget t.args k) x x') (hs : ¬ mtB (tget l k) (tget t.args k) x = true) : RtOk (.mk f l) t st x' ∧ mtB (.mk f l) t st = false := by
  unfold mtB at hs ⊢
  have e : (T.mk f l).mt st t = none := by
    rw [mt_args hf he, h.ans, mtL_step hk he.2]
    rw [Option.isSome_iff_ne_none, Classical.not_not] at hs
    rw [hs]
  have := sizeL_drop hk
  have h1 := hr.hi
  have h2 := hr.lo
  have h3 := h.lo
  have h4 := h.hi
  refine ⟨⟨fun s q => (by rw [e] at q; cases q), by omega, by rw [T.size]; omega, ?_⟩, by rw [e]; rfl⟩
  have e9 : x'.take st.length = (x'.take x.length).take st.length := by rw [List.take_take, Nat.min_eq_left h3]
  rw [e9, hr.pre, h.pre]
theorem RtL.good {f : Int} {l : List T} {t : T} {st x : List Bd} {k : Nat} (h : RtL l t.args st k x) (hf : ¬ f < 0) (he : f = t.f ∧ l.length = t.args.length) (hk : l.length ≤ k) : RtOk (.mk f l) t st x ∧ mtB (.mk f l) t st = true := by
  unfold mtB
  have e : (T.mk f l).mt st t = some x := by
    rw [mt_args hf he, h.ans, List.drop_of_length_le hk]; rfl
  have h3 := h.lo
  have h4 := h.hi
  refine ⟨⟨fun s q => by rw [e] at q; exact Option.some.inj q, h3, by rw [T.size]; omega, h.pre⟩, by rw [e]; rfl⟩
theorem mtB_some {p t : T} {st st' : List Bd} (hr : RtOk p t st st') (h : mtB p t st = true) : p.mt st t = some st' := by
  unfold mtB at h
  obtain ⟨s, hs⟩ := Option.isSome_iff_exists.1 h
  rw [hr.ok s hs, hs]
theorem mtB_none {p t : T} {st : List Bd} (h : ¬ mtB p t st = true) : p.mt st t = none := by
  unfold mtB at h
  rwa [Option.isSome_iff_ne_none, Classical.not_not] at h
def RtSpec (p : T) : Prop := ∀ (t : T) (g : Nat) (st : List Bd) (D A : Nat → Prop) (w : World) (u v : Value), RefAt w g st D → InT A w p u → InT A w t v → (∀ b, A b → ¬ D b) → p.size ≤ 4294967296 → t.size ≤ 4294967296 → st.length + p.size ≤ 1099511627776 →
  Calls Try.prog 47 #[.pointer (some ⟨g, 0, none⟩), u, v] w (Ret fun v' w' => (∃ st' D', v' = .bool (mtB p t st) ∧ RefAt w' g st' D' ∧ (∀ b, D' b → D b ∨ w.heap.size ≤ b) ∧ RtOk p t st st') ∧ Chg D w w')
theorem rterm_go {p t : T} {w0 w : World} {g : Nat} {st : List Bd} {D A : Nat → Prop} {u v : Value} (ih : RtSpec p) (h : RefGo w0 D g st w) (hp : InT A w p u) (ht : InT A w t v) (hA : ∀ b, A b → ¬ Since w0 D b) (hzp : p.size ≤ 4294967296) (hzt : t.size ≤ 4294967296) (hn : st.length + p.size ≤ 1099511627776) :
    Calls Try.prog 47 #[.pointer (some ⟨g, 0, none⟩), u, v] w (Ret fun v' w' => (∃ st', v' = .bool (mtB p t st) ∧ RefGo w0 D g st' w' ∧ RtOk p t st st') ∧ Chg (Since w0 D) w w') := by
  obtain ⟨⟨D', h, h1⟩, h2⟩ := h
  refine (ih t g st D' A w u v h hp ht (fun b q q2 => hA b q (h1 b q2)) hzp hzt hn).mono ?_
  rintro e w' ⟨v, rfl, ⟨st', D'', rfl, h3, h4, h6⟩, h5⟩
  refine ⟨_, rfl, ⟨st', rfl, ⟨⟨D'', h3, fun b q => ?_⟩, Nat.le_trans h2 h5.size⟩, h6⟩, h5.mono h1⟩
  rcases h4 b q with q | q
  · exact h1 b q
  · exact .inr (Nat.le_trans h2 q)
end Go.Proofs.Ytibncmnmjhimeaa

namespace Go.Proofs.Ytibncmnmjhimeaa
open Go.RowKit Go.Sort Go
set_option maxHeartbeats 400000 in
theorem compare_any (s : T) : ∀ (t : T) (w : World) (v u : Value), IsT w s v → IsT w t u →
    Calls Try.prog 57 #[v, u] w fun e w' => e = .returned (.int .i64 (T.cmp s t)) ∧ Below w.heap.size w w' := by
  induction s using T.ind with
  | h f l ih =>
  intro t w v u hv hu
  obtain ⟨g, q⟩ := t
  obtain ⟨⟨hf1, hf2⟩, a, c, rfl, hc, hm, hl⟩ := hv
  obtain ⟨⟨hg1, hg2⟩, a', c', rfl, hc', hm', hq⟩ := hu
  unfold maxLen at hm hm'
  by_cases hfg : f = g
  · have E := Lib.hid (show T.cmp (.mk f l) (.mk g q) = T.cmpL l q by rw [T.cmp, if_neg (by simpa using hfg)])
    have hne : (f != g) = false := by simpa using hfg
    subst hfg
    go_enter Try.func57, Try.ntmps57
    go_wp2_with fail
    go_loopw [5] (fun i wr => ∃ (k : Nat), k ≤ l.length ∧ k ≤ q.length ∧ i = .int .i64 k ∧ Hid (T.cmpL l q = T.cmpL (l.drop k) (q.drop k)) ∧ Below w.heap.size w wr ∧ Box wr w.heap.size [.int .i64 f, .slice a l.length c] ∧ Box wr (w.heap.size + 1) [.int .i64 f, .slice a' q.length c']) (fun i _ => l.length - (intOf i).toNat)
    case atStart => exact ⟨0, Nat.zero_le _, Nat.zero_le _, rfl, rfl, balloc2 _ _ _, (Box.new _ _ _).alloc _, by have := Box.new (w.alloc (.cells #[.int .i64 f, .slice a l.length c] 24)) [.int .i64 f, .slice a' q.length c'] 24; simpa using this⟩
    case round =>
      obtain ⟨k, hk, hkq, rfl, hx, hw, hB1, hB2⟩ := hrel
      obtain ⟨s0, s1⟩ := hB1.two
      obtain ⟨t0, t1⟩ := hB2.two
      by_cases hlt : k < l.length
      · by_cases hlq : k < q.length
        · obtain ⟨b1, o1, a1, c1, rfl, g1, g2, h3⟩ := hl.at_ hw k hlt
          obtain ⟨b2, o2, a2, c2, rfl, g3, g4, h4⟩ := hq.at_ hw k hlq
          have IH := fun w v u => ih l[k] (List.getElem_mem hlt) q[k] w v u
          have q5 := T.cmpL_drop l q k hlt hlq
          have k0 : (0 : Int) ≤ (k : Int) := by omega
          have k1 : (k : Int) < (l.length : Int) := by omega
          have k2 : (k : Int) < (q.length : Int) := by omega
          have r0 := cell_regrown s1
          have r1 := cell_regrown t1
          have r2 := cell_regrown g1
          have r3 := cell_regrown g2
          have r4 := cell_regrown g3
          have r5 := cell_regrown g4
          have Hh3 := Lib.hid h3
          have Hh4 := Lib.hid h4
          have HhB1 := Lib.hid hB1
          have HhB2 := Lib.hid hB2
          have Hhw := Lib.hid hw
          have Hq5 := Lib.hid q5
          have Hhx := Lib.hid hx
          clear h3 h4 hB1 hB2 hw q5 hx
          clear ih hl hq
          by_cases hz : T.cmp l[k] q[k] = 0
          · rw [hz] at IH
            have Hz := Lib.hid hz
            clear hz
            go_wp2_with fail
            refine wp_region_quiet_below (by kernel_rfl) (by kernel_rfl) ?_
            repeat (quiet_step (exact Calls.regrown_of (IH _ _ _ (Hh3.out.below (below_regrown _ _ _)) (Hh4.out.below (below_regrown _ _ _)))))
            refine wpQuiet_nil ?_
            intro _ hw'
            obtain ⟨⟨dq, osq⟩, hw''⟩ := hw'
            subst hw''
            have hbq := below_regrown wr dq osq
            generalize grow (redrawn wr dq) osq = wq at hbq ⊢
            go_wp2_with fail
            go_roundw
            case rel => exact ⟨k + 1, by omega, by omega, by go_num, by unfold Hid; rw [Hhx.out, Hq5.out, if_pos Hz.out], bstep Hhw.out hbq, HhB1.out.below hbq, HhB2.out.below hbq⟩
            case measure => simp [intOf]; omega
          · have hzb : (T.cmp l[k] q[k] != 0) = true := by simpa using hz
            have Hz := Lib.hid hz
            clear hz
            go_wp2_with fail
            refine wp_region_quiet_below (by kernel_rfl) (by kernel_rfl) ?_
            repeat (quiet_step (exact Calls.regrown_of (IH _ _ _ (Hh3.out.below (below_regrown _ _ _)) (Hh4.out.below (below_regrown _ _ _)))))
            refine wpQuiet_nil ?_
            intro _ hw'
            obtain ⟨⟨dq, osq⟩, hw''⟩ := hw'
            subst hw''
            have hbq := below_regrown wr dq osq
            generalize grow (redrawn wr dq) osq = wq at hbq ⊢
            go_wp2_with fail
            go_ret
            exact ⟨rint (by rw [E.out, Hhx.out, Hq5.out, if_neg Hz.out]), bstep Hhw.out hbq⟩
        · have Q := Lib.hid (show T.cmpL (l.drop k) (q.drop k) = 1 from T.cmpL_long l q k hlt (by omega))
          have Hhw := Lib.hid hw
          have Hhx := Lib.hid hx
          clear hw hx
          clear ih hl hq
          go_wp2_with fail
          go_ret
          exact ⟨rint (by rw [E.out, Hhx.out, Q.out]), Hhw.out⟩
      · obtain rfl : k = l.length := by omega
        by_cases hlq : l.length < q.length
        · have Q := Lib.hid (show T.cmpL (l.drop l.length) (q.drop l.length) = -1 from T.cmpL_short l q hlq)
          have Hhw := Lib.hid hw
          have Hhx := Lib.hid hx
          clear hw hx
          clear ih hl hq
          go_wp2_with fail
          go_ret
          exact ⟨rint (by rw [E.out, Hhx.out, Q.out]), Hhw.out⟩
        · have Q := Lib.hid (show T.cmpL (l.drop l.length) (q.drop l.length) = 0 from T.cmpL_end l q (by omega))
          have Hhw := Lib.hid hw
          have Hhx := Lib.hid hx
          clear hw hx
          clear ih hl hq
          go_wp2_with fail
          go_ret
          exact ⟨rint (by rw [E.out, Hhx.out, Q.out]), Hhw.out⟩
  · have hne : (f != g) = true := by simpa using hfg
    by_cases hf : f < 0
    · by_cases hg : g < 0
      · by_cases hlt : g < f
        · have E := Lib.hid (show T.cmp (.mk f l) (.mk g q) = -1 by rw [T.cmp, if_pos hfg, if_pos ⟨hf, hg⟩, if_pos hlt])
          go_enter Try.func57, Try.ntmps57
          go_wp2_with fail
          go_ret
          exact ⟨rint E.out, balloc2 _ _ _⟩
        · have E := Lib.hid (show T.cmp (.mk f l) (.mk g q) = 1 by rw [T.cmp, if_pos hfg, if_pos ⟨hf, hg⟩, if_neg hlt])
          go_enter Try.func57, Try.ntmps57
          go_wp2_with fail
          go_ret
          exact ⟨rint E.out, balloc2 _ _ _⟩
      · have hlt : f < g := by omega
        have E := Lib.hid (show T.cmp (.mk f l) (.mk g q) = -1 by rw [T.cmp, if_pos hfg, if_neg (by omega), if_pos hlt])
        go_enter Try.func57, Try.ntmps57
        go_wp2_with fail
        go_ret
        exact ⟨rint E.out, balloc2 _ _ _⟩
    · by_cases hlt : f < g
      · have E := Lib.hid (show T.cmp (.mk f l) (.mk g q) = -1 by rw [T.cmp, if_pos hfg, if_neg (by omega), if_pos hlt])
        go_enter Try.func57, Try.ntmps57
        go_wp2_with fail
        go_ret
        exact ⟨rint E.out, balloc2 _ _ _⟩
      · have E := Lib.hid (show T.cmp (.mk f l) (.mk g q) = 1 by rw [T.cmp, if_pos hfg, if_neg (by omega), if_neg hlt])
        go_enter Try.func57, Try.ntmps57
        go_wp2_with fail
        go_ret
        exact ⟨rint E.out, balloc2 _ _ _⟩
theorem rsame_any (s t : T) (w : World) (v u : Value) (hv : IsT w s v) (hu : IsT w t u) :
    Calls Try.prog 54 #[v, u] w fun e w' => e = .returned (.bool (T.same s t)) ∧ Below w.heap.size w w' := by
  obtain ⟨_, a, c, rfl, hc, hm, _⟩ := hv.form
  obtain ⟨_, a', c', rfl, hc', hm', _⟩ := hu.form
  unfold maxLen at hm hm'
  have E := T.cmp_same s t
  have C := fun w v u => compare_any s t w v u
  cases hs : T.same s t with
  | true =>
    rw [hs, if_pos rfl] at E
    rw [E] at C
    have Hhv := Lib.hid hv
    have Hhu := Lib.hid hu
    clear hv hu
    clear hs E
    go_enter Try.func54, Try.ntmps54
    go_wp2_with (go_at_call 57; refine (C _ _ _ (Hhv.out.below (balloc2 _ _ _)) (Hhu.out.below (balloc2 _ _ _))).mono ?_; rintro e w' ⟨rfl, hb'⟩)
    go_ret
    exact ⟨rfl, bstep (balloc2 _ _ _) hb'⟩
  | false =>
    rw [hs] at E
    have E' : (T.cmp s t == 0) = false := by simpa using E
    have Hhv := Lib.hid hv
    have Hhu := Lib.hid hu
    clear hv hu
    clear hs E
    go_enter Try.func54, Try.ntmps54
    go_wp2_with (go_at_call 57; refine (C _ _ _ (Hhv.out.below (balloc2 _ _ _)) (Hhu.out.below (balloc2 _ _ _))).mono ?_; rintro e w' ⟨rfl, hb'⟩)
    go_ret
    exact ⟨rfl, bstep (balloc2 _ _ _) hb'⟩
end Go.Proofs.Ytibncmnmjhimeaa
