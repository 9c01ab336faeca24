/- Arguments of a law, opened: rows of terms, rows of integers. -/
import Derived.Test.YtibncmnmjhimeaaFPLf
import Derived.Test.YtibncmnmjhimeaaFPLh
import Derived.Test.YtibncmnmjhimeaaFPLi
import Derived.Test.YtibncmnmjhimeaaFPLc
import Derived.Test.YtibncmnmjhimeaaFPLa
import Derived.WalkKit
import Derived.ProofKit
import Derived.JoinedCond
import Derived.OpenShut

/- The walk through FprintLeaves. -/
namespace Go.Proofs.Ytibncmnmjhimeaa
open Go.RowKit Go
set_option linter.unusedVariables false
set_option linter.unusedSimpArgs false
theorem take_d48 {l : List T} {k : Nat} (h : k < l.length) : (l.take k).map T.d48 ++ [(tget l k).d48] = (l.take (k + 1)).map T.d48 := by
 rw [List.take_add_one, List.getElem?_eq_getElem h, List.map_append, tget_lt h]; rfl
theorem lowL_at {m : Int} : ∀ {l : List T} {k : Nat}, T.lowL m l = true → k < l.length → (tget l k).low m = true
 | t :: r, 0, h, _ => by rw [T.lowL, Bool.and_eq_true] at h; exact h.1
 | t :: r, k + 1, h, hk => by rw [T.lowL, Bool.and_eq_true] at h; exact lowL_at (l := r) h.2 (by simpa using hk)
theorem low_at {m f : Int} {l : List T} (h : (T.mk f l).low m = true) {k : Nat} (hk : k < l.length) : (tget l k).low m = true := by
 rw [T.low] at h
 split at h
 ·simp only [Bool.and_eq_true, decide_eq_true_eq] at h; omega
 ·exact lowL_at h hk
theorem low_f {m f : Int} {l : List T} (h : (T.mk f l).low m = true) (hf : f < 0) : -m ≤ f := by
 rw [T.low, if_pos hf] at h
 simp only [Bool.and_eq_true, decide_eq_true_eq] at h; exact h.1
set_option maxRecDepth 100000 in
theorem moved_any : ∀ (t : T) (w : World) (v : Value), t.low 48 = true → t.size ≤ 4294967296 → IsT w t v → Calls Try.prog 14 #[v] w (Ret fun v' w' => NewT w w' t.d48 v' ∧ Below w.heap.size w w') := by
 refine T.ind (fun f l ih => ?_)
 intro w v hlo hz hv
 have hlen := len_le_sizeL l
 have hz' := hz
 simp only [T.size] at hz'
 have hlf := fun q => low_f hlo q
 obtain ⟨hf, a, c, rfl, hc, hm, hl⟩ := hv
 have hf' := hf
 unfold I64 at hf'
 refine Calls.walk (l := [.agg #[.int .i64 f, .slice a l.length c]]) Try.func14 rfl (by kernel_rfl) ?_
 refine WC.sub (K' := [(0, .agg #[.int .i64 f, .slice a l.length c])]) ⟨rfl, trivial⟩ ?_
 refine WC.seq (WC.region ?_)
 refine WL.step (post := NewBlk w 24 #[.int .i64 f, .slice a l.length c]) rfl rfl rfl (fun za zC zh zk => box_24 rfl (zh.ev rfl) (zk _ _ (newBlk _ _ _))) ?_
 rintro _ w1 ⟨g2, rfl, hg3, hB4, hb5, hz6⟩
 have hl7 : w.heap.size ≤ g2 := by omega
 refine WL.step (post := NewBlk w1 24 #[.int .i64 0, .slice none 0 0]) rfl rfl rfl (fun za zC zh zk => alloc_24 rfl (zk _ _ (newBlk _ _ _))) ?_
 rintro _ w8 ⟨g9, rfl, hg10, hB11, hb12, hz13⟩
 have hl14 : g2 < g9 := by have z1 := hB4.lt; omega
 have hl15 : w.heap.size ≤ g9 := by have z2 := (hb5).size; omega
 refine WL.nil (WE.next (WC.seq (WC.region ?_)))
 refine WL.val _ rfl rfl rfl (fun za zC zh zk => fld_24_0 rfl (zh.ev rfl) zk) ?_
 have hB16 := hB4.below hb12
 refine WL.val _ rfl rfl rfl (fun za zC zh zk => ld_3 rfl (zh.ev rfl) ((hB16.cell 0).trans rfl) zk) ?_
 refine WL.val (.agg #[.int .i64 f, .slice none 0 0]) rfl rfl rfl (fun za zC zh zk => build_24_0 rfl (zh.ev rfl) zk) ?_
 refine WL.step (post := NewBlk w8 24 #[.int .i64 0, .slice none 0 0]) rfl rfl rfl (fun za zC zh zk => alloc_24 rfl (zk _ _ (newBlk _ _ _))) ?_
 rintro _ w17 ⟨g18, rfl, hg19, hB20, hb21, hz22⟩
 have hl23 : g2 < g18 := by have z1 := hB16.lt; omega
 have hl24 : g9 < g18 := by have z1 := hB11.lt; omega
 have hb25 : Below w.heap.size w w8 := (bstep hb5 hb12)
 have hl26 : w.heap.size ≤ g18 := by have z2 := (hb25).size; omega
 refine WL.step (post := fun _ w' => Upd g18 w17 w' ∧ Blk w' g18 24 #[.int .i64 f, .slice none 0 0]) rfl rfl rfl (fun za zC zh zk => st_24 rfl (zh.ev rfl) (zh.ev rfl) rfl rfl hB20 (by first | decide | simp) (fun v => zk v _ ⟨(Upd.at_ _ _ _ _).trans (Upd.at_ _ _ _ _), (hB20.set_ 0 _).set_ 1 _⟩)) ?_
 rintro v30 w27 ⟨hu28, hB29⟩
 have hb31 : Below w.heap.size w w17 := (bstep hb25 hb21)
 have hb32 := upd_below hb31 hu28 (by omega)
 have hB33 := hB16.below hb21
 have hB34 := upd_blk hB33 hu28 (by omega)
 have hB35 := hB11.below hb21
 have hB36 := upd_blk hB35 hu28 (by omega)
 refine WL.nil (WE.next (WC.seq (WC.seq (WC.region ?_))))
 refine WL.val _ rfl rfl rfl (fun za zC zh zk => fld_24_0 rfl (zh.ev rfl) zk) ?_
 refine WL.val _ rfl rfl rfl (fun za zC zh zk => ld_3 rfl (zh.ev rfl) ((hB34.cell 0).trans rfl) zk) ?_
 refine WL.val (.bool ((decide ((f : Int) < (0 : Int))))) rfl rfl rfl (fun za zC zh zk => lss_3 rfl (zh.ev rfl) (zh.ev rfl) zk) ?_
 refine WL.nil (WE.next ?_)
 refine WC.cond rfl (fun h37 => ?_) (fun h37 => ?_)
 ·have h37 : (f : Int) < (0 : Int) := by simpa using h37
  have hlf9 := hlf (by omega)
  refine WC.region ?_
  refine WL.val _ rfl rfl rfl (fun za zC zh zk => fld_24_0 rfl (zh.ev rfl) zk) ?_
  refine WL.val _ rfl rfl rfl (fun za zC zh zk => ld_3 rfl (zh.ev rfl) ((hB34.cell 0).trans rfl) zk) ?_
  refine WL.val (.int .i64 ((f - 48))) rfl rfl rfl (fun za zC zh zk => subb_3 rfl (zh.ev rfl) (zh.ev rfl) (wrap_eq rfl (by omega) (by omega)) zk) ?_
  refine WL.val _ rfl rfl rfl (fun za zC zh zk => fld_24_0 rfl (zh.ev rfl) zk) ?_
  refine WL.step (post := fun _ w' => Upd g18 w27 w' ∧ Blk w' g18 24 #[.int .i64 ((f - 48)), .slice none 0 0]) rfl rfl rfl (fun za zC zh zk => st_3 rfl (zh.ev rfl) (zh.ev rfl) hB29 (by first | decide | simp) (fun v => zk v _ ⟨Upd.at_ _ _ _ _, hB29.set_ 0 _⟩)) ?_
  rintro v41 w38 ⟨hu39, hB40⟩
  have hb42 := upd_below hb32 hu39 (by omega)
  have hB43 := upd_blk hB34 hu39 (by omega)
  have hB44 := upd_blk hB36 hu39 (by omega)
  refine WL.nil (WE.next (WC.seq (WC.seq (WC.region (WL.asg rfl rfl rfl rfl rfl (WL.nil (WE.next (WC.block ?_))))))))
  have hl45 : g2 < w38.heap.size := by have z1 := hB43.lt; omega
  have hl46 : g9 < w38.heap.size := by have z1 := hB44.lt; omega
  have hl47 : g18 < w38.heap.size := by have z1 := hB40.lt; omega
  have hl48 : w.heap.size ≤ w38.heap.size := (hb42).size
  have hR49 : RowE eltT w38 w38.heap.size 24 none 0 0 [] := RowE.nil
  refine WC.loop (X := Option Addr × Nat × Nat) (fun x => l.length - x.2.2) (fun x => [(0, .agg #[.int .i64 f, .slice a l.length c]), (1, .pointer (some ⟨g2, 0, none⟩)), (2, .pointer (some ⟨g9, 0, none⟩)), (3, .pointer (some ⟨g18, 0, none⟩)), (4, .int .i64 (((x.2.2 : Nat) : Int))), (10, .bool ((decide ((f : Int) < (0 : Int)))))]) (fun x w50 => x.2.2 ≤ l.length ∧ w38.heap.size ≤ (w50).heap.size ∧ Below w.heap.size w w50 ∧ Blk w50 g2 24 #[.int .i64 f, .slice a l.length c] ∧ Blk w50 g9 24 #[.int .i64 0, .slice none 0 0] ∧ Blk w50 g18 24 #[.int .i64 ((f - 48)), .slice x.1 x.2.2 x.2.1] ∧ RowE eltT (w50) w38.heap.size 24 x.1 x.2.1 x.2.2 ((l.take x.2.2).map T.d48)) ((none, 0, 0)) ⟨rfl, rfl, rfl, rfl, rfl, rfl, trivial⟩ ?_ ?_
  ·exact ⟨Nat.zero_le _, Nat.le_refl _, hb42, hB43, hB44, hB40, (by simpa using hR49)⟩
  ·rintro x w50 ⟨hk, hBw, hb51, hB52, hB53, hB54, ho55⟩
   refine WC.seq (WC.seq (WC.region (WL.mv rfl rfl rfl rfl rfl ?_)))
   refine WL.val _ rfl rfl rfl (fun za zC zh zk => fld_24_1 rfl (zh.ev rfl) zk) ?_
   refine WL.val _ rfl rfl rfl (fun za zC zh zk => ld_22 rfl (zh.ev rfl) ((hB52.cell 1).trans rfl) zk) ?_
   refine WL.val (.int .i64 (((l.length : Nat) : Int))) rfl rfl rfl (fun za zC zh zk => len_22 rfl (zh.ev rfl) zk) ?_
   refine WL.val (.bool ((decide ((((x.2.2 : Nat) : Int) : Int) < (((l.length : Nat) : Int) : Int))))) rfl rfl rfl (fun za zC zh zk => lss_3 rfl (zh.ev rfl) (zh.ev rfl) zk) ?_
   refine WL.nil (WE.next ?_)
   refine WC.cond rfl (fun h56 => ?_) (fun h56 => ?_)
   ·have h56 : (((x.2.2 : Nat) : Int) : Int) < (((l.length : Nat) : Int) : Int) := by simpa using h56
    refine WC.skip (WE.next (WC.seq (WC.block ?_)))
    obtain ⟨b57, o58, A59, C60, ha61, hc62⟩ := IsTs.open hl
    have hSlt : ∀ b, (fun b => b = g18 ∨ (Value.slice x.1 x.2.2 x.2.1).ownBlock = some b) b → b < w50.heap.size := fun b h => h.elim (fun e => e ▸ hB54.lt) (fun h => (ho55.lt b h).2)
    have hSlo : ∀ b, (fun b => b = g18 ∨ (Value.slice x.1 x.2.2 x.2.1).ownBlock = some b) b → b = g18 ∨ (w38.heap.size ≤ b ∧ b < w50.heap.size) := fun b h => h.imp id (fun h => ho55.lt b h)
    have hBW : w38.heap.size ≤ w50.heap.size := by have z1 := hBw; omega
    have hlL : x.2.2 = (((l.take x.2.2).map T.d48)).length := ho55.len
    refine WC.tail2 (S := ((fun b => b = g18 ∨ (Value.slice x.1 x.2.2 x.2.1).ownBlock = some b))) [(true, .val (.pointer (some ⟨g18, 1, none⟩))), (true, .val (.slice x.1 x.2.2 x.2.1)), (true, .val (.pointer (some ⟨g2, 1, none⟩))), (true, .val (.slice a l.length c)), (true, .val (.int .i64 (((x.2.2 : Nat) : Int)))), (true, .val (.pointer (some ⟨b57, o58 + x.2.2 * 2, none⟩))), (true, .val (.agg #[.int .i64 ((tget l x.2.2).f), .slice ((A59 x.2.2)) ((tget l x.2.2).args.length) ((C60 x.2.2))])), (true, .mem (fun v w' => NewT w50 w' ((tget l x.2.2).d48) v) (fun v w w' hc h => InT.chg h hc (fun b hb hs => by have z := hSlt b hs; omega))), (true, .mem (fun v w' => OneRow eltT w50 24 ((tget l x.2.2).d48) v w') (fun v w w' hc h => h.chg hc hSlt)), (true, .val undef), (true, .val (.pointer (some ⟨g18, 1, none⟩))), (true, .val undef)] [(0, .agg #[.int .i64 f, .slice a l.length c]), (1, .pointer (some ⟨g2, 0, none⟩)), (2, .pointer (some ⟨g9, 0, none⟩)), (3, .pointer (some ⟨g18, 0, none⟩)), (4, .int .i64 (((x.2.2 : Nat) : Int))), (10, .bool ((decide ((f : Int) < (0 : Int))))), (19, .bool ((decide ((((x.2.2 : Nat) : Int) : Int) < (((l.length : Nat) : Int) : Int)))))] 9 11 ((x.2.2 + 1)) 31 (fun ra rc wz => RowE eltT wz w38.heap.size 24 ra rc (x.2.2 + 1) (((l.take x.2.2).map T.d48 ++ [(tget l x.2.2).d48])) ∧ Blk wz g18 24 #[.int .i64 ((f - 48)), .slice x.1 x.2.2 x.2.1]) (fun ra rc wz => RowE eltT wz w38.heap.size 24 ra rc (x.2.2 + 1) (((l.take x.2.2).map T.d48 ++ [(tget l x.2.2).d48])) ∧ Blk wz g18 24 #[.int .i64 ((f - 48)), .slice ra ((x.2.2 + 1)) rc]) (by decide) (fun ra rc w w' hb h => ⟨h.1.below hb, h.2.below hb⟩) (fun ra rc w w' hb h => ⟨h.1.below hb, h.2.below hb⟩) ⟨rfl, rfl, rfl, rfl, rfl, rfl, rfl, trivial⟩ (by kernel_rfl) (by kernel_rfl) (by kernel_rfl) (by kernel_rfl) (by kernel_rfl) ?_ ?_
    ·refine ⟨.inl ⟨rfl, true, .none rfl, (fun gg b h => by cases h), fun h w => optUndef h, fun zβ za zw zc => ?_⟩, ?_⟩
     ·exact fld_24_1 rfl (zc.kn.ev rfl) ⟨_, rfl, Below.refl _ _, optDef zβ rfl⟩
     refine ⟨.inl ⟨rfl, true, .none rfl, (fun gg b h => by cases h), fun h w => optUndef h, fun zβ za zw zc => ?_⟩, ?_⟩
     ·exact ld_22 rfl ((evt za 22).trans (optSVal (zc.dep 0 22 (by kernel_rfl) (by decide)) rfl rfl)) (bkeeps (zc.early (by kernel_rfl)) _ _ ((hB54.cell 1).trans rfl)) ⟨_, rfl, Below.refl _ _, optDef zβ rfl⟩
     refine ⟨.inl ⟨rfl, true, .none rfl, (fun gg b h => by cases h), fun h w => optUndef h, fun zβ za zw zc => ?_⟩, ?_⟩
     ·exact fld_24_1 rfl (zc.kn.ev rfl) ⟨_, rfl, Below.refl _ _, optDef zβ rfl⟩
     refine ⟨.inl ⟨rfl, true, .none rfl, (fun gg b h => by cases h), fun h w => optUndef h, fun zβ za zw zc => ?_⟩, ?_⟩
     ·exact ld_22 rfl ((evt za 24).trans (optSVal (zc.dep 2 24 (by kernel_rfl) (by decide)) rfl rfl)) (bkeeps (zc.early (by kernel_rfl)) _ _ ((hB52.cell 1).trans rfl)) ⟨_, rfl, Below.refl _ _, optDef zβ rfl⟩
     refine ⟨.inl ⟨rfl, true, .none rfl, (fun gg b h => by cases h), fun h w => optUndef h, fun zβ za zw zc => ?_⟩, ?_⟩
     ·exact wp_move rfl (zc.kn.ev rfl) ⟨_, rfl, Below.refl _ _, optDef zβ rfl⟩
     refine ⟨.inl ⟨rfl, true, .none rfl, (fun gg b h => by cases h), fun h w => optUndef h, fun zβ za zw zc => ?_⟩, ?_⟩
     ·exact ix_22 (k := x.2.2) rfl ((evt za 25).trans (optSVal (zc.dep 3 25 (by kernel_rfl) (by decide)) rfl rfl)) (ha61 x.2.2 (by first | omega | (simp; omega))) ((evt za 26).trans (optSVal (zc.dep 4 26 (by kernel_rfl) (by decide)) rfl rfl)) (by first | omega | (simp; omega)) ⟨_, rfl, Below.refl _ _, optDef zβ rfl⟩
     refine ⟨.inl ⟨rfl, true, .none rfl, (fun gg b h => by cases h), fun h w => optUndef h, fun zβ za zw zc => ?_⟩, ?_⟩
     ·exact ld_24 rfl ((evt za 27).trans (optSVal (zc.dep 5 27 (by kernel_rfl) (by decide)) rfl rfl)) (bkeeps (bstep hb51 (zc.early (by kernel_rfl))) _ _ (hc62 x.2.2 (by first | omega | (simp; omega))).1) (bkeeps (bstep hb51 (zc.early (by kernel_rfl))) _ _ (hc62 x.2.2 (by first | omega | (simp; omega))).2.1) ⟨_, rfl, Below.refl _ _, optDef zβ rfl⟩
     refine ⟨.inl ⟨rfl, true, .none rfl, (fun gg b h => by cases h), fun h w => optUndef h, fun zβ za zw zc => ?_⟩, ?_⟩
     ·exact wp_call (by kernel_rfl) rfl (hv1 ((evt za 28).trans (optSVal (zc.dep 6 28 (by kernel_rfl) (by decide)) rfl rfl))) (ih (tget l x.2.2) (tget_mem (by omega)) _ _ (low_at hlo (by omega)) (size_at (by omega) hz) (IsT.below (bstep hb51 (zc.early (by kernel_rfl))) (hc62 x.2.2 (by first | omega | (simp; omega))).2.2)) (fun v w' h => ⟨v, rfl, h.2, optDef zβ (InT.mono (fun b hb _ => Nat.le_trans (zc.early (by kernel_rfl)).size hb) h.1)⟩)
     refine ⟨.inl ⟨rfl, true, .none rfl, (fun gg b h => by cases h), fun h w => optUndef h, fun zβ za zw zc => ?_⟩, ?_⟩
     ·have zv := (optSMem (zc.dep 7 29 (by kernel_rfl) (by decide)) rfl rfl)
      obtain ⟨_, a1, c1, e1, _⟩ := zv.form
      rw [e1] at zv
      exact row_22_1 rfl ((evt za 29).trans e1) ⟨_, rfl, balloc _ _, optDef zβ ⟨_, _, rfl, zc.chg.size, Blk.new' rfl, _, _, rfl, zv.below (balloc _ _)⟩⟩
     refine ⟨.inr (.inl ⟨rfl, rfl, fun za zw zc => ?_⟩), ?_⟩
     ·obtain ⟨g1, cs, e1, hg1, hB1, hin⟩ := (optSMem (zc.dep 8 30 (by kernel_rfl) (by decide)) rfl rfl)
      exact wp_appE (E := eltT) (size := 2) (bytes := 32) (z := .agg #[.int .i64 0, .slice none 0 0]) rfl Try.underlying22 (by kernel_rfl) rfl (by decide) rfl ((evt za 23).trans (optSVal (zc.dep 1 23 (by kernel_rfl) (by decide)) rfl rfl)) ((evt za 30).trans e1) (ho55.below zc.below) hB1 (eltT.mono (fun b hb _ => ⟨by omega, fun e => by have z := (ho55.lt b e).2; omega⟩) hin) (by omega) (by omega) (by have z := zc.below.size; omega) (fun ra rc w' h1 h2 _ => ⟨ra, rc, rfl, ⟨h1, chg_blk (hB54.below zc.below) h2 (fun e => by have z := (ho55.lt _ e).1; omega)⟩, h2.mono (fun b hb => .inr hb)⟩)
     refine ⟨.inl ⟨rfl, true, .none rfl, (fun gg b h => by cases h), fun h w => optUndef h, fun zβ za zw zc => ?_⟩, ?_⟩
     ·exact fld_24_1 rfl (zc.kn.ev rfl) ⟨_, rfl, Below.refl _ _, optDef zβ rfl⟩
     refine ⟨.inr (.inr ⟨rfl, rfl, 31, by kernel_rfl, fun za zw ra rc zk zd zv zg => ?_⟩), ?_⟩
     ·exact st_22 rfl ((evt za 32).trans (optSVal (zd 10 32 (by kernel_rfl) (by decide)) rfl rfl)) ((evt za 31).trans zv) zg.2 (by first | decide | simp) (fun v => ⟨v, rfl, ⟨zg.1.upd (Upd.at_ _ _ _ _) (by omega), zg.2.set_ 1 _⟩, .ofUpd (Upd.at_ _ _ _ _) (.inl rfl)⟩)
     exact trivial
    ·intro za w63 ra66 rc67 zh zv hG64 hc65 zu
     have hb68 := chg_below hb51 hc65 (fun b hb => (fun h => by rcases hSlo _ h with h | h <;> omega))
     have hB69 := chg_blk hB52 hc65 (fun h => by rcases hSlo _ h with h | h <;> omega)
     have hB70 := chg_blk hB53 hc65 (fun h => by rcases hSlo _ h with h | h <;> omega)
     clear zu
     refine WE.go zh ?_
     refine WE.blockNormal (WE.next (WC.region (WL.mv rfl rfl rfl rfl rfl ?_)))
     refine WL.val (.int .i64 ((((x.2.2 + 1) : Nat) : Int))) rfl rfl rfl (fun za zC zh zk => addb_3 rfl (zh.ev rfl) (zh.ev rfl) (wrap_eq (by omega) (by omega) (by omega)) zk) ?_
     refine WL.asg rfl rfl rfl rfl rfl (WL.nil ?_)
     refine WE.round ((ra66, rc67, x.2.2 + 1)) ⟨rfl, rfl, rfl, rfl, rfl, rfl, trivial⟩ ?_ ?_
     ·exact ⟨by (try dsimp only at *); omega, (Nat.le_trans hBw hc65.size), hb68, hB69, hB70, hG64.2, (by rw [← take_d48 (by (try dsimp only at *); omega)]; exact hG64.1)⟩
     ·dsimp only; omega
   ·have h56 : ¬ ((((x.2.2 : Nat) : Int) : Int) < (((l.length : Nat) : Int) : Int)) := by simpa using h56
    refine WC.exit (WE.thenExit (WE.thenExit (WE.blockIs rfl (WE.next (WC.seq (WC.region ?_))))))
    refine WL.val _ rfl rfl rfl (fun za zC zh zk => ld_24 rfl (zh.ev rfl) ((hB54.cell 0).trans rfl) ((hB54.cell 1).trans rfl) zk) ?_
    refine WL.step (post := fun _ w' => Upd g9 w50 w' ∧ Blk w' g9 24 #[.int .i64 ((f - 48)), .slice x.1 x.2.2 x.2.1]) rfl rfl rfl (fun za zC zh zk => st_24 rfl (zh.ev rfl) (zh.ev rfl) rfl rfl hB53 (by first | decide | simp) (fun v => zk v _ ⟨(Upd.at_ _ _ _ _).trans (Upd.at_ _ _ _ _), (hB53.set_ 0 _).set_ 1 _⟩)) ?_
    rintro v74 w71 ⟨hu72, hB73⟩
    have hb75 := upd_below hb51 hu72 (by omega)
    have hB76 := upd_blk hB52 hu72 (by omega)
    have hB77 := upd_blk hB54 hu72 (by omega)
    have ho78 := ho55.upd hu72 (by omega)
    refine WL.nil (WE.next (WC.ret ?_))
    refine WE.retAny (v := .agg #[.int .i64 ((f - 48)), .slice x.1 x.2.2 x.2.1]) (fun za zh => ?_) ?_
    ·have z0 : za.tmps[2]?.getD undef = .pointer (some ⟨g9, 0, none⟩) := by rw [← Array.getD_eq_getD_getElem?]; exact zh.knows 2 _ rfl
     have y0 : w71.cell? ⟨g9, 0, none⟩ = some (.int .i64 ((f - 48))) := ((hB73.cell 0).trans rfl)
     have y1 : w71.cell? ⟨g9, 1, none⟩ = some (.slice x.1 x.2.2 x.2.1) := ((hB73.cell 1).trans rfl)
     simp [results, Try.results14, z0, y0, y1, go_sem]
    ·have z := ho78
     rw [List.take_of_length_le (by omega)] at z
     refine ⟨_, rfl, ?_, hb75⟩
     rw [T.d48, d48L_map, if_pos (by omega)]
     exact newT_row (by unfold I64; omega) z (by omega)
 ·have h37 : ¬ ((f : Int) < (0 : Int)) := by simpa using h37
  refine WC.skip (WE.next (WC.seq (WC.seq (WC.region (WL.asg rfl rfl rfl rfl rfl (WL.nil (WE.next (WC.block ?_))))))))
  have hl79 : g2 < w27.heap.size := by have z1 := hB34.lt; omega
  have hl80 : g9 < w27.heap.size := by have z1 := hB36.lt; omega
  have hl81 : g18 < w27.heap.size := by have z1 := hB29.lt; omega
  have hl82 : w.heap.size ≤ w27.heap.size := (hb32).size
  have hR83 : RowE eltT w27 w27.heap.size 24 none 0 0 [] := RowE.nil
  refine WC.loop (X := Option Addr × Nat × Nat) (fun x => l.length - x.2.2) (fun x => [(0, .agg #[.int .i64 f, .slice a l.length c]), (1, .pointer (some ⟨g2, 0, none⟩)), (2, .pointer (some ⟨g9, 0, none⟩)), (3, .pointer (some ⟨g18, 0, none⟩)), (4, .int .i64 (((x.2.2 : Nat) : Int))), (10, .bool ((decide ((f : Int) < (0 : Int)))))]) (fun x w84 => x.2.2 ≤ l.length ∧ w27.heap.size ≤ (w84).heap.size ∧ Below w.heap.size w w84 ∧ Blk w84 g2 24 #[.int .i64 f, .slice a l.length c] ∧ Blk w84 g9 24 #[.int .i64 0, .slice none 0 0] ∧ Blk w84 g18 24 #[.int .i64 f, .slice x.1 x.2.2 x.2.1] ∧ RowE eltT (w84) w27.heap.size 24 x.1 x.2.1 x.2.2 ((l.take x.2.2).map T.d48)) ((none, 0, 0)) ⟨rfl, rfl, rfl, rfl, rfl, rfl, trivial⟩ ?_ ?_
  ·exact ⟨Nat.zero_le _, Nat.le_refl _, hb32, hB34, hB36, hB29, (by simpa using hR83)⟩
  ·rintro x w84 ⟨hk, hBw, hb85, hB86, hB87, hB88, ho89⟩
   refine WC.seq (WC.seq (WC.region (WL.mv rfl rfl rfl rfl rfl ?_)))
   refine WL.val _ rfl rfl rfl (fun za zC zh zk => fld_24_1 rfl (zh.ev rfl) zk) ?_
   refine WL.val _ rfl rfl rfl (fun za zC zh zk => ld_22 rfl (zh.ev rfl) ((hB86.cell 1).trans rfl) zk) ?_
   refine WL.val (.int .i64 (((l.length : Nat) : Int))) rfl rfl rfl (fun za zC zh zk => len_22 rfl (zh.ev rfl) zk) ?_
   refine WL.val (.bool ((decide ((((x.2.2 : Nat) : Int) : Int) < (((l.length : Nat) : Int) : Int))))) rfl rfl rfl (fun za zC zh zk => lss_3 rfl (zh.ev rfl) (zh.ev rfl) zk) ?_
   refine WL.nil (WE.next ?_)
   refine WC.cond rfl (fun h90 => ?_) (fun h90 => ?_)
   ·have h90 : (((x.2.2 : Nat) : Int) : Int) < (((l.length : Nat) : Int) : Int) := by simpa using h90
    refine WC.skip (WE.next (WC.seq (WC.block ?_)))
    obtain ⟨b91, o92, A93, C94, ha95, hc96⟩ := IsTs.open hl
    have hSlt : ∀ b, (fun b => b = g18 ∨ (Value.slice x.1 x.2.2 x.2.1).ownBlock = some b) b → b < w84.heap.size := fun b h => h.elim (fun e => e ▸ hB88.lt) (fun h => (ho89.lt b h).2)
    have hSlo : ∀ b, (fun b => b = g18 ∨ (Value.slice x.1 x.2.2 x.2.1).ownBlock = some b) b → b = g18 ∨ (w27.heap.size ≤ b ∧ b < w84.heap.size) := fun b h => h.imp id (fun h => ho89.lt b h)
    have hBW : w27.heap.size ≤ w84.heap.size := by have z1 := hBw; omega
    have hlL : x.2.2 = (((l.take x.2.2).map T.d48)).length := ho89.len
    refine WC.tail2 (S := ((fun b => b = g18 ∨ (Value.slice x.1 x.2.2 x.2.1).ownBlock = some b))) [(true, .val (.pointer (some ⟨g18, 1, none⟩))), (true, .val (.slice x.1 x.2.2 x.2.1)), (true, .val (.pointer (some ⟨g2, 1, none⟩))), (true, .val (.slice a l.length c)), (true, .val (.int .i64 (((x.2.2 : Nat) : Int)))), (true, .val (.pointer (some ⟨b91, o92 + x.2.2 * 2, none⟩))), (true, .val (.agg #[.int .i64 ((tget l x.2.2).f), .slice ((A93 x.2.2)) ((tget l x.2.2).args.length) ((C94 x.2.2))])), (true, .mem (fun v w' => NewT w84 w' ((tget l x.2.2).d48) v) (fun v w w' hc h => InT.chg h hc (fun b hb hs => by have z := hSlt b hs; omega))), (true, .mem (fun v w' => OneRow eltT w84 24 ((tget l x.2.2).d48) v w') (fun v w w' hc h => h.chg hc hSlt)), (true, .val undef), (true, .val (.pointer (some ⟨g18, 1, none⟩))), (true, .val undef)] [(0, .agg #[.int .i64 f, .slice a l.length c]), (1, .pointer (some ⟨g2, 0, none⟩)), (2, .pointer (some ⟨g9, 0, none⟩)), (3, .pointer (some ⟨g18, 0, none⟩)), (4, .int .i64 (((x.2.2 : Nat) : Int))), (10, .bool ((decide ((f : Int) < (0 : Int))))), (19, .bool ((decide ((((x.2.2 : Nat) : Int) : Int) < (((l.length : Nat) : Int) : Int)))))] 9 11 ((x.2.2 + 1)) 31 (fun ra rc wz => RowE eltT wz w27.heap.size 24 ra rc (x.2.2 + 1) (((l.take x.2.2).map T.d48 ++ [(tget l x.2.2).d48])) ∧ Blk wz g18 24 #[.int .i64 f, .slice x.1 x.2.2 x.2.1]) (fun ra rc wz => RowE eltT wz w27.heap.size 24 ra rc (x.2.2 + 1) (((l.take x.2.2).map T.d48 ++ [(tget l x.2.2).d48])) ∧ Blk wz g18 24 #[.int .i64 f, .slice ra ((x.2.2 + 1)) rc]) (by decide) (fun ra rc w w' hb h => ⟨h.1.below hb, h.2.below hb⟩) (fun ra rc w w' hb h => ⟨h.1.below hb, h.2.below hb⟩) ⟨rfl, rfl, rfl, rfl, rfl, rfl, rfl, trivial⟩ (by kernel_rfl) (by kernel_rfl) (by kernel_rfl) (by kernel_rfl) (by kernel_rfl) ?_ ?_
    ·refine ⟨.inl ⟨rfl, true, .none rfl, (fun gg b h => by cases h), fun h w => optUndef h, fun zβ za zw zc => ?_⟩, ?_⟩
     ·exact fld_24_1 rfl (zc.kn.ev rfl) ⟨_, rfl, Below.refl _ _, optDef zβ rfl⟩
     refine ⟨.inl ⟨rfl, true, .none rfl, (fun gg b h => by cases h), fun h w => optUndef h, fun zβ za zw zc => ?_⟩, ?_⟩
     ·exact ld_22 rfl ((evt za 22).trans (optSVal (zc.dep 0 22 (by kernel_rfl) (by decide)) rfl rfl)) (bkeeps (zc.early (by kernel_rfl)) _ _ ((hB88.cell 1).trans rfl)) ⟨_, rfl, Below.refl _ _, optDef zβ rfl⟩
     refine ⟨.inl ⟨rfl, true, .none rfl, (fun gg b h => by cases h), fun h w => optUndef h, fun zβ za zw zc => ?_⟩, ?_⟩
     ·exact fld_24_1 rfl (zc.kn.ev rfl) ⟨_, rfl, Below.refl _ _, optDef zβ rfl⟩
     refine ⟨.inl ⟨rfl, true, .none rfl, (fun gg b h => by cases h), fun h w => optUndef h, fun zβ za zw zc => ?_⟩, ?_⟩
     ·exact ld_22 rfl ((evt za 24).trans (optSVal (zc.dep 2 24 (by kernel_rfl) (by decide)) rfl rfl)) (bkeeps (zc.early (by kernel_rfl)) _ _ ((hB86.cell 1).trans rfl)) ⟨_, rfl, Below.refl _ _, optDef zβ rfl⟩
     refine ⟨.inl ⟨rfl, true, .none rfl, (fun gg b h => by cases h), fun h w => optUndef h, fun zβ za zw zc => ?_⟩, ?_⟩
     ·exact wp_move rfl (zc.kn.ev rfl) ⟨_, rfl, Below.refl _ _, optDef zβ rfl⟩
     refine ⟨.inl ⟨rfl, true, .none rfl, (fun gg b h => by cases h), fun h w => optUndef h, fun zβ za zw zc => ?_⟩, ?_⟩
     ·exact ix_22 (k := x.2.2) rfl ((evt za 25).trans (optSVal (zc.dep 3 25 (by kernel_rfl) (by decide)) rfl rfl)) (ha95 x.2.2 (by first | omega | (simp; omega))) ((evt za 26).trans (optSVal (zc.dep 4 26 (by kernel_rfl) (by decide)) rfl rfl)) (by first | omega | (simp; omega)) ⟨_, rfl, Below.refl _ _, optDef zβ rfl⟩
     refine ⟨.inl ⟨rfl, true, .none rfl, (fun gg b h => by cases h), fun h w => optUndef h, fun zβ za zw zc => ?_⟩, ?_⟩
     ·exact ld_24 rfl ((evt za 27).trans (optSVal (zc.dep 5 27 (by kernel_rfl) (by decide)) rfl rfl)) (bkeeps (bstep hb85 (zc.early (by kernel_rfl))) _ _ (hc96 x.2.2 (by first | omega | (simp; omega))).1) (bkeeps (bstep hb85 (zc.early (by kernel_rfl))) _ _ (hc96 x.2.2 (by first | omega | (simp; omega))).2.1) ⟨_, rfl, Below.refl _ _, optDef zβ rfl⟩
     refine ⟨.inl ⟨rfl, true, .none rfl, (fun gg b h => by cases h), fun h w => optUndef h, fun zβ za zw zc => ?_⟩, ?_⟩
     ·exact wp_call (by kernel_rfl) rfl (hv1 ((evt za 28).trans (optSVal (zc.dep 6 28 (by kernel_rfl) (by decide)) rfl rfl))) (ih (tget l x.2.2) (tget_mem (by omega)) _ _ (low_at hlo (by omega)) (size_at (by omega) hz) (IsT.below (bstep hb85 (zc.early (by kernel_rfl))) (hc96 x.2.2 (by first | omega | (simp; omega))).2.2)) (fun v w' h => ⟨v, rfl, h.2, optDef zβ (InT.mono (fun b hb _ => Nat.le_trans (zc.early (by kernel_rfl)).size hb) h.1)⟩)
     refine ⟨.inl ⟨rfl, true, .none rfl, (fun gg b h => by cases h), fun h w => optUndef h, fun zβ za zw zc => ?_⟩, ?_⟩
     ·have zv := (optSMem (zc.dep 7 29 (by kernel_rfl) (by decide)) rfl rfl)
      obtain ⟨_, a1, c1, e1, _⟩ := zv.form
      rw [e1] at zv
      exact row_22_1 rfl ((evt za 29).trans e1) ⟨_, rfl, balloc _ _, optDef zβ ⟨_, _, rfl, zc.chg.size, Blk.new' rfl, _, _, rfl, zv.below (balloc _ _)⟩⟩
     refine ⟨.inr (.inl ⟨rfl, rfl, fun za zw zc => ?_⟩), ?_⟩
     ·obtain ⟨g1, cs, e1, hg1, hB1, hin⟩ := (optSMem (zc.dep 8 30 (by kernel_rfl) (by decide)) rfl rfl)
      exact wp_appE (E := eltT) (size := 2) (bytes := 32) (z := .agg #[.int .i64 0, .slice none 0 0]) rfl Try.underlying22 (by kernel_rfl) rfl (by decide) rfl ((evt za 23).trans (optSVal (zc.dep 1 23 (by kernel_rfl) (by decide)) rfl rfl)) ((evt za 30).trans e1) (ho89.below zc.below) hB1 (eltT.mono (fun b hb _ => ⟨by omega, fun e => by have z := (ho89.lt b e).2; omega⟩) hin) (by omega) (by omega) (by have z := zc.below.size; omega) (fun ra rc w' h1 h2 _ => ⟨ra, rc, rfl, ⟨h1, chg_blk (hB88.below zc.below) h2 (fun e => by have z := (ho89.lt _ e).1; omega)⟩, h2.mono (fun b hb => .inr hb)⟩)
     refine ⟨.inl ⟨rfl, true, .none rfl, (fun gg b h => by cases h), fun h w => optUndef h, fun zβ za zw zc => ?_⟩, ?_⟩
     ·exact fld_24_1 rfl (zc.kn.ev rfl) ⟨_, rfl, Below.refl _ _, optDef zβ rfl⟩
     refine ⟨.inr (.inr ⟨rfl, rfl, 31, by kernel_rfl, fun za zw ra rc zk zd zv zg => ?_⟩), ?_⟩
     ·exact st_22 rfl ((evt za 32).trans (optSVal (zd 10 32 (by kernel_rfl) (by decide)) rfl rfl)) ((evt za 31).trans zv) zg.2 (by first | decide | simp) (fun v => ⟨v, rfl, ⟨zg.1.upd (Upd.at_ _ _ _ _) (by omega), zg.2.set_ 1 _⟩, .ofUpd (Upd.at_ _ _ _ _) (.inl rfl)⟩)
     exact trivial
    ·intro za w97 ra100 rc101 zh zv hG98 hc99 zu
     have hb102 := chg_below hb85 hc99 (fun b hb => (fun h => by rcases hSlo _ h with h | h <;> omega))
     have hB103 := chg_blk hB86 hc99 (fun h => by rcases hSlo _ h with h | h <;> omega)
     have hB104 := chg_blk hB87 hc99 (fun h => by rcases hSlo _ h with h | h <;> omega)
     clear zu
     refine WE.go zh ?_
     refine WE.blockNormal (WE.next (WC.region (WL.mv rfl rfl rfl rfl rfl ?_)))
     refine WL.val (.int .i64 ((((x.2.2 + 1) : Nat) : Int))) rfl rfl rfl (fun za zC zh zk => addb_3 rfl (zh.ev rfl) (zh.ev rfl) (wrap_eq (by omega) (by omega) (by omega)) zk) ?_
     refine WL.asg rfl rfl rfl rfl rfl (WL.nil ?_)
     refine WE.round ((ra100, rc101, x.2.2 + 1)) ⟨rfl, rfl, rfl, rfl, rfl, rfl, trivial⟩ ?_ ?_
     ·exact ⟨by (try dsimp only at *); omega, (Nat.le_trans hBw hc99.size), hb102, hB103, hB104, hG98.2, (by rw [← take_d48 (by (try dsimp only at *); omega)]; exact hG98.1)⟩
     ·dsimp only; omega
   ·have h90 : ¬ ((((x.2.2 : Nat) : Int) : Int) < (((l.length : Nat) : Int) : Int)) := by simpa using h90
    refine WC.exit (WE.thenExit (WE.thenExit (WE.blockIs rfl (WE.next (WC.seq (WC.region ?_))))))
    refine WL.val _ rfl rfl rfl (fun za zC zh zk => ld_24 rfl (zh.ev rfl) ((hB88.cell 0).trans rfl) ((hB88.cell 1).trans rfl) zk) ?_
    refine WL.step (post := fun _ w' => Upd g9 w84 w' ∧ Blk w' g9 24 #[.int .i64 f, .slice x.1 x.2.2 x.2.1]) rfl rfl rfl (fun za zC zh zk => st_24 rfl (zh.ev rfl) (zh.ev rfl) rfl rfl hB87 (by first | decide | simp) (fun v => zk v _ ⟨(Upd.at_ _ _ _ _).trans (Upd.at_ _ _ _ _), (hB87.set_ 0 _).set_ 1 _⟩)) ?_
    rintro v108 w105 ⟨hu106, hB107⟩
    have hb109 := upd_below hb85 hu106 (by omega)
    have hB110 := upd_blk hB86 hu106 (by omega)
    have hB111 := upd_blk hB88 hu106 (by omega)
    have ho112 := ho89.upd hu106 (by omega)
    refine WL.nil (WE.next (WC.ret ?_))
    refine WE.retAny (v := .agg #[.int .i64 f, .slice x.1 x.2.2 x.2.1]) (fun za zh => ?_) ?_
    ·have z0 : za.tmps[2]?.getD undef = .pointer (some ⟨g9, 0, none⟩) := by rw [← Array.getD_eq_getD_getElem?]; exact zh.knows 2 _ rfl
     have y0 : w105.cell? ⟨g9, 0, none⟩ = some (.int .i64 f) := ((hB107.cell 0).trans rfl)
     have y1 : w105.cell? ⟨g9, 1, none⟩ = some (.slice x.1 x.2.2 x.2.1) := ((hB107.cell 1).trans rfl)
     simp [results, Try.results14, z0, y0, y1, go_sem]
    ·have z := ho112
     rw [List.take_of_length_le (by omega)] at z
     refine ⟨_, rfl, ?_, hb109⟩
     rw [T.d48, d48L_map, if_neg (by omega)]
     exact newT_row (by unfold I64; omega) z (by omega)
set_option maxRecDepth 100000 in
theorem has_any {S : Nat → Prop} {L : List Int} {m : Int} {w : World} {a : Option Addr} {c : Nat} (h1 : InRow eltI S w L a) (hz : L.length ≤ 1073741824) : Calls Try.prog 15 #[.slice a L.length c, .int .i64 m] w (Ret fun v' w' => v' = .bool (decide (m ∈ L)) ∧ Below w.heap.size w w') := by
 obtain ⟨ib, io, hia, hci⟩ := InRow.openI h1
 refine Calls.walk (l := [.slice a L.length c, .int .i64 m]) Try.func15 rfl (by kernel_rfl) ?_
 refine WC.sub (K' := [(0, .slice a L.length c), (1, .int .i64 m)]) ⟨rfl, rfl, trivial⟩ ?_
 refine WC.seq (WC.region (WL.asg rfl rfl rfl rfl rfl (WL.nil (WE.next (WC.seq (WC.seq (WC.region (WL.asg rfl rfl rfl rfl rfl (WL.nil (WE.next (WC.block ?_)))))))))))
 refine WC.loop (X := Nat) (fun k => L.length - k) (fun k => [(0, .slice a L.length c), (1, .int .i64 m), (5, .int .i64 (((k : Nat) : Int)))]) (fun k w1 => k ≤ L.length ∧ (∀ j, j < k → List.getD L j 0 ≠ m) ∧ Below w.heap.size w w1) 0 ⟨rfl, rfl, rfl, trivial⟩ ?_ ?_
 ·exact ⟨Nat.zero_le _, fun q h => absurd h (Nat.not_lt_zero q), (Below.refl _ _)⟩
 ·rintro k w1 ⟨hk, hall, hb2⟩
  refine WC.seq (WC.seq (WC.region (WL.mv rfl rfl rfl rfl rfl (WL.mv rfl rfl rfl rfl rfl ?_))))
  refine WL.val (.int .i64 (((L.length : Nat) : Int))) rfl rfl rfl (fun za zC zh zk => len_31 rfl (zh.ev rfl) zk) ?_
  refine WL.val (.bool ((decide ((((k : Nat) : Int) : Int) < (((L.length : Nat) : Int) : Int))))) rfl rfl rfl (fun za zC zh zk => lss_3 rfl (zh.ev rfl) (zh.ev rfl) zk) ?_
  refine WL.nil (WE.next ?_)
  refine WC.cond rfl (fun h3 => ?_) (fun h3 => ?_)
  ·have h3 : (((k : Nat) : Int) : Int) < (((L.length : Nat) : Int) : Int) := by simpa using h3
   refine WC.skip (WE.next (WC.seq (WC.block (WC.seq (WC.region (WL.mv rfl rfl rfl rfl rfl (WL.mv rfl rfl rfl rfl rfl ?_)))))))
   refine WL.val _ rfl rfl rfl (fun za zC zh zk => ix_31 (k := k) rfl (zh.ev rfl) (hia k (by omega)) (zh.ev rfl) (by first | omega | (simp; omega)) zk) ?_
   refine WL.val _ rfl rfl rfl (fun za zC zh zk => ld_3 rfl (zh.ev rfl) (bkeeps hb2 _ _ (hci k (by omega))) zk) ?_
   refine WL.mv rfl rfl rfl rfl rfl ?_
   refine WL.val (.bool ((((List.getD L k 0) : Int) == (m : Int)))) rfl rfl rfl (fun za zC zh zk => eql_3 rfl (zh.ev rfl) (zh.ev rfl) zk) ?_
   refine WL.nil (WE.next ?_)
   refine WC.cond rfl (fun h4 => ?_) (fun h4 => ?_)
   ·have h4 : ((List.getD L k 0) : Int) = (m : Int) := by simpa using h4
    refine WC.seq (WC.region (WL.asg rfl rfl rfl rfl rfl (WL.nil (WE.next (WC.ret (WE.blockRet (WE.thenRet (WE.thenRet (WE.blockRet (WE.thenRet (WE.ret1 rfl rfl ?_)))))))))))
    refine ⟨_, rfl, congrArg Value.bool (decide_eq_true ?_).symm, hb2⟩
    have z : List.getD L k 0 = m := by simpa using h4
    rw [← z, List.getD_eq_getElem?_getD, List.getElem?_eq_getElem (by omega)]
    exact List.getElem_mem _
   ·have h4 : ¬ (((List.getD L k 0) : Int) = (m : Int)) := by simpa using h4
    refine WC.skip (WE.blockNormal (WE.next (WC.region (WL.mv rfl rfl rfl rfl rfl ?_))))
    refine WL.val (.int .i64 ((((k + 1) : Nat) : Int))) rfl rfl rfl (fun za zC zh zk => addb_3 rfl (zh.ev rfl) (zh.ev rfl) (wrap_eq (by omega) (by omega) (by omega)) zk) ?_
    refine WL.asg rfl rfl rfl rfl rfl (WL.nil ?_)
    refine WE.round (k + 1) ⟨rfl, rfl, rfl, trivial⟩ ?_ ?_
    ·exact ⟨(by (try dsimp only at *); omega), (fun j hj => by
       by_cases e : j = k
       ·subst e; simpa using h4
       ·exact hall j (by omega)), hb2⟩
    ·(try dsimp only at *); omega
  ·have h3 : ¬ ((((k : Nat) : Int) : Int) < (((L.length : Nat) : Int) : Int)) := by simpa using h3
   refine WC.exit (WE.thenExit (WE.thenExit (WE.blockIs rfl (WE.next (WC.seq (WC.region (WL.asg rfl rfl rfl rfl rfl (WL.nil (WE.next (WC.ret (WE.ret1 rfl rfl ?_)))))))))))
   refine ⟨_, rfl, congrArg Value.bool (decide_eq_false ?_).symm, hb2⟩
   intro q
   obtain ⟨j, hj, e⟩ := List.getElem_of_mem q
   have z := hall j (by omega)
   rw [List.getD_eq_getElem?_getD, List.getElem?_eq_getElem hj] at z
   exact z e
theorem rcan2 (a b : T) (w : World) (v1 v2 : Value) (h1 : IsT w a v1) (h2 : IsT w b v2) (z1 : a.size ≤ 4294967296) (z2 : b.size ≤ 4294967296) : Calls Try.prog 13 #[v1, v2] w (Ret fun v' w' => v' = .bool (canD a b) ∧ Below w.heap.size w w') := by
 refine (rcan_any a b w v1 v2 h1 h2 z1 z2).mono ?_
 rintro e w' ⟨v, rfl, ⟨c, rfl, hc⟩, hb⟩
 exact ⟨_, rfl, by rw [can_det hc], hb⟩
def MatV (b : Bool) (v : Value) : Prop := ∃ (a : Option Addr) (n c : Nat), v = .tuple #[.slice a n c, .bool b]
theorem rmatch2 (p t : T) (w : World) (u v : Value) (hp : IsT w p u) (ht : IsT w t v) (hzp : p.size ≤ 4294967296) (hzt : t.size ≤ 4294967296) : Calls Try.prog 16 #[u, v] w (Ret fun v' w' => MatV (mOk p t []) v' ∧ Below w.heap.size w w') := by
 refine (rmatch_any p t w u v hp ht hzp hzt).mono ?_
 rintro e w' ⟨x, rfl, h1, hb⟩
 exact ⟨_, rfl, h1.form, hb⟩
theorem imp_no {a : Bool} {P : Prop} [Decidable P] (h : a = true → P) : (a && !decide P) = false := by
 cases a with
 | false => rfl
 | true => rw [decide_eq_true (h rfl)]; rfl
theorem imp_no2 {a b : Bool} {P Q : Prop} [Decidable P] [Decidable Q] (h : a = true → P) (h2 : b = true → Q) : ((a && !decide P) || (b && !decide Q)) = false := by rw [imp_no h, imp_no h2]; rfl
def OneIx (w : World) (Bq g : Nat) (B : List TI) : Prop := ∃ Z, FpIs w g Z B ∧ ∀ b, Z b → Bq ≤ b
theorem one_add {w : World} {Bq g : Nat} {B : List TI} (h : OneIx w Bq g B) {t : T} {v : Value} {id : Int} (hid : 0 ≤ id) (hi : I64 id) (hz : t.size ≤ 4294967296) (hBl : B.length ≤ 1000000) (ht : IsT w t v) (hq : Bq ≤ w.heap.size) :
  Calls Try.prog 9 #[.pointer (some ⟨g, 0, none⟩), v, .int .i64 id] w (Ret fun v' w' => v' = .int .i64 0 ∧ OneIx w' Bq g (B ++ [(t, id)]) ∧ Chg (fun b => Bq ≤ b) w w') := by
 obtain ⟨Z, h1, h2⟩ := h
 refine (fadd_any g Z B w t v id hid hi hz hBl ht h1).mono ?_
 rintro e w' ⟨v', rfl, rfl, ⟨Z2, k1, k2⟩, k3⟩
 refine ⟨_, rfl, rfl, ⟨Z2, k1, fun b q => ?_⟩, k3.mono (fun b q => h2 b q)⟩
 rcases k2 b q with z | z
 ·exact h2 b z
 ·omega
set_option maxRecDepth 100000 in
set_option maxHeartbeats 2000000 in
theorem leaves_any (l : List T) (t : T) (w : World) (a : Option Addr) (c : Nat) (v : Value) (hl : IsTs w l a 0) (hlc : l.length ≤ c) (hsz : T.sizeL l ≤ 1048576) (hv : IsT w t v) (htz : t.size ≤ 1048576) :
  Calls Try.prog 3 #[.slice a l.length c, v] w (Ret fun v' w' => v' = .bool true ∧ Below w.heap.size w w') := by
 have hvt := hv
 obtain ⟨_, ta, tc, rfl, _, _, _⟩ := hv.form
 have hll := len_le_sizeL l
 have hszk : ∀ k, k < l.length → (tget l k).size ≤ 1048576 := fun k hk => Nat.le_trans (T.size_le_sizeL (tget_mem hk)) hsz
 refine Calls.walk (l := [.slice a l.length c, .agg #[.int .i64 t.f, .slice ta t.args.length tc]]) Try.func3 rfl (by kernel_rfl) ?_
 refine WC.sub (K' := [(0, .slice a l.length c), (1, .agg #[.int .i64 t.f, .slice ta t.args.length tc])]) ⟨rfl, rfl, trivial⟩ ?_
 refine WC.seq (WC.region ?_)
 refine WL.step (post := NewBlk w 24 #[.int .i64 t.f, .slice ta t.args.length tc]) rfl rfl rfl (fun za zC zh zk => box_24 rfl (zh.ev rfl) (zk _ _ (newBlk _ _ _))) ?_
 rintro _ w1 ⟨g2, rfl, hg3, hB4, hb5, hz6⟩
 have hl7 : w.heap.size ≤ g2 := by omega
 refine WL.asg rfl rfl rfl rfl rfl (WL.nil (WE.next (WC.seq (WC.seq ?_))))
 refine WC.opt [(true, .val (.slice a l.length c)), (true, .val (.int .i64 (((l.length : Nat) : Int)))), (true, .val (.bool ((decide ((60 : Int) < (((l.length : Nat) : Int) : Int)))))), (true, .val (.bool ((decide ((60 : Int) < (((l.length : Nat) : Int) : Int)))))), ((true && !(decide ((60 : Int) < (((l.length : Nat) : Int) : Int)))), .val (.agg #[.int .i64 t.f, .slice ta t.args.length tc])), ((true && !(decide ((60 : Int) < (((l.length : Nat) : Int) : Int)))), .val (.bool ((T.small 48 t)))), ((true && !(decide ((60 : Int) < (((l.length : Nat) : Int) : Int)))), .val (.bool ((!(T.small 48 t))))), (true, .val (.bool (((decide ((60 : Int) < (((l.length : Nat) : Int) : Int))) || (!(T.small 48 t))))))] [(0, .slice a l.length c), (1, .agg #[.int .i64 t.f, .slice ta t.args.length tc]), (3, .pointer (some ⟨g2, 0, none⟩)), (4, .bool false)] ⟨rfl, rfl, rfl, rfl, trivial⟩ (by kernel_rfl) (by kernel_rfl) (by kernel_rfl) ?_ ?_
 ·refine ⟨⟨true, .none rfl, fun h w => optUndef h, fun zβ za zw zc => ?_⟩, ?_⟩
  ·exact wp_move rfl (zc.kn.ev rfl) ⟨_, rfl, Below.refl _ _, optDef zβ rfl⟩
  refine ⟨⟨true, .none rfl, fun h w => optUndef h, fun zβ za zw zc => ?_⟩, ?_⟩
  ·exact len_22 rfl ((evt za 15).trans (optVal (zc.dep 0 15 (by kernel_rfl)) rfl rfl)) ⟨_, rfl, Below.refl _ _, optDef zβ rfl⟩
  refine ⟨⟨true, .none rfl, fun h w => optUndef h, fun zβ za zw zc => ?_⟩, ?_⟩
  ·exact gtr_3 rfl ((evt za 16).trans (optVal (zc.dep 1 16 (by kernel_rfl)) rfl rfl)) (zc.kn.ev rfl) ⟨_, rfl, Below.refl _ _, optDef zβ rfl⟩
  refine ⟨⟨true, .none rfl, fun h w => optUndef h, fun zβ za zw zc => ?_⟩, ?_⟩
  ·exact wp_move rfl ((evt za 17).trans (optVal (zc.dep 2 17 (by kernel_rfl)) rfl rfl)) ⟨_, rfl, Below.refl _ _, optDef zβ rfl⟩
  refine ⟨⟨_, .no (d := true) rfl (fun v w h => h), fun h w => optUndef h, fun zβ za zw zc => ?_⟩, ?_⟩
  ·exact ld_24 rfl (zc.kn.ev rfl) (bkeeps zc.below _ _ ((hB4.cell 0).trans rfl)) (bkeeps zc.below _ _ ((hB4.cell 1).trans rfl)) ⟨_, rfl, Below.refl _ _, optDef zβ rfl⟩
  refine ⟨⟨_, .no (d := true) rfl (fun v w h => h), fun h w => optUndef h, fun zβ za zw zc => ?_⟩, ?_⟩
  ·exact wp_call (by kernel_rfl) rfl (hv2 ((evt za 19).trans (optVal (zc.dep 4 19 (by kernel_rfl)) rfl zβ)) (zc.kn.ev rfl)) (rsmall_any t 48 _ _ (by decide) (by omega) (IsT.below (bstep hb5 zc.below) hvt)) (fun v w' h => ⟨v, rfl, h.2, optDef zβ h.1⟩)
  refine ⟨⟨_, .no (d := true) rfl (fun v w h => h), fun h w => optUndef h, fun zβ za zw zc => ?_⟩, ?_⟩
  ·exact wp_not rfl ((evt za 20).trans (optVal (zc.dep 5 20 (by kernel_rfl)) rfl zβ)) ⟨_, rfl, Below.refl _ _, optDef zβ rfl⟩
  refine ⟨⟨true, .none rfl, fun h w => optUndef h, fun zβ za zw zc => ?_⟩, ?_⟩
  ·exact wp_or rfl ((evt za 18).trans (optVal (zc.dep 3 18 (by kernel_rfl)) rfl rfl)) (fun hp => ((evt za 21).trans (optVal (zc.dep 6 21 (by kernel_rfl)) rfl (bMkN zβ hp)))) ⟨_, rfl, Below.refl _ _, optDef zβ rfl⟩
  exact trivial
 ·intro za w9 zh hb10 zu
  have zh := zh.cons (d := 22) (v := .bool (((decide ((60 : Int) < (((l.length : Nat) : Int) : Int))) || (!(T.small 48 t))))) (optVal (zu 7 22 (by kernel_rfl)) rfl rfl)
  clear zu
  refine WE.go zh ?_
  refine WE.next ?_
  refine WC.cond rfl (fun h11 => ?_) (fun h11 => ?_)
  ·have h11 : ((60 : Int) < (((l.length : Nat) : Int) : Int)) ∨ (¬ ((T.small 48 t) = true)) := by simpa using h11
   refine WC.seq (WC.region ?_)
   refine WL.call rfl rfl rfl (fun za zh zC => wp_call (by kernel_rfl) rfl (hv0)) (wakes_any _) ?_
   rintro _ w13 ⟨rfl, hq12⟩
   refine WL.asg rfl rfl rfl rfl rfl (WL.nil (WE.next (WC.ret (WE.thenRet (WE.ret1 rfl rfl ?_)))))
   have hb14 : Below w.heap.size w w13 := (bstep (bstep hb5 hb10) hq12)
   exact ⟨_, rfl, rfl, hb14⟩
  ·have h11 : ¬ (((60 : Int) < (((l.length : Nat) : Int) : Int)) ∨ (¬ ((T.small 48 t) = true))) := by simpa using h11
   have htsm : T.small 48 t = true ∧ l.length ≤ 60 := by
    have z := h11
    simp at z
    exact ⟨by simpa using z.2, by omega⟩
   have htlow : t.low 48 = true := by
    have z := htsm.1
    unfold T.small at z
    rw [Bool.and_eq_true] at z; exact z.2
   have hl60 := htsm.2
   refine WC.skip (WE.next (WC.seq (WC.region ?_)))
   obtain ⟨Bq, hBq⟩ : ∃ Bq, Bq = w9.heap.size := ⟨_, rfl⟩
   have hB15 := hB4.below hb10
   have hbx_g2 : g2 < Bq := by have z := hB15.lt; omega
   refine WL.call rfl rfl rfl (fun za zh zC => wp_call (by kernel_rfl) rfl (hv0)) (fnew_any _) ?_
   rintro _ w16 ⟨⟨gq, rfl, hFq⟩, hbq⟩
   have hT0 : OneIx w16 Bq gq [] := ⟨_, hFq, fun b q => by rw [hBq]; exact q.1⟩
   have hqw : w.heap.size ≤ Bq := by rw [hBq]; exact (Nat.le_trans hb5.size hb10.size)
   have hqj : Bq ≤ w16.heap.size := by rw [hBq]; exact hbq.size
   refine WL.asg rfl rfl rfl rfl rfl (WL.nil (WE.next (WC.seq (WC.seq (WC.region (WL.asg rfl rfl rfl rfl rfl (WL.nil (WE.next (WC.block ?_)))))))))
   refine WC.loop (X := Nat) (fun k => l.length - k) (fun k => [(0, .slice a l.length c), (1, .agg #[.int .i64 t.f, .slice ta t.args.length tc]), (3, .pointer (some ⟨g2, 0, none⟩)), (5, .pointer (some ⟨gq, 0, none⟩)), (6, .int .i64 (((k : Nat) : Int))), (22, .bool (((decide ((60 : Int) < (((l.length : Nat) : Int) : Int))) || (!(T.small 48 t)))))]) (fun k w17 => k ≤ l.length ∧ Bq ≤ (w17).heap.size ∧ Below w.heap.size w w17 ∧ Blk w17 g2 24 #[.int .i64 t.f, .slice ta t.args.length tc] ∧ OneIx (w17) Bq gq (bL l k)) 0 ⟨rfl, rfl, rfl, rfl, rfl, rfl, trivial⟩ ?_ ?_
   ·have hb18 : Below w.heap.size w w16 := (bstep (bstep hb5 hb10) hbq)
    have hB19 := hB15.below hbq
    exact ⟨Nat.zero_le _, hqj, hb18, hB19, hT0⟩
   ·rintro k w17 ⟨hk, hzw, hb20, hB21, ho22⟩
    refine WC.seq (WC.seq (WC.region (WL.mv rfl rfl rfl rfl rfl (WL.mv rfl rfl rfl rfl rfl ?_))))
    refine WL.val (.int .i64 (((l.length : Nat) : Int))) rfl rfl rfl (fun za zC zh zk => len_22 rfl (zh.ev rfl) zk) ?_
    refine WL.val (.bool ((decide ((((k : Nat) : Int) : Int) < (((l.length : Nat) : Int) : Int))))) rfl rfl rfl (fun za zC zh zk => lss_3 rfl (zh.ev rfl) (zh.ev rfl) zk) ?_
    refine WL.nil (WE.next ?_)
    refine WC.cond rfl (fun h23 => ?_) (fun h23 => ?_)
    ·have h23 : (((k : Nat) : Int) : Int) < (((l.length : Nat) : Int) : Int) := by simpa using h23
     refine WC.skip (WE.next (WC.seq (WC.block (WC.seq (WC.region (WL.mv rfl rfl rfl rfl rfl (WL.mv rfl rfl rfl rfl rfl (WL.mv rfl rfl rfl rfl rfl ?_))))))))
     obtain ⟨b24, o25, A26, C27, ha28, hc29⟩ := IsTs.open hl
     refine WL.val _ rfl rfl rfl (fun za zC zh zk => ix_22 (k := k) rfl (zh.ev rfl) (ha28 k (by first | omega | (simp; omega))) (zh.ev rfl) (by first | omega | (simp; omega)) zk) ?_
     refine WL.val _ rfl rfl rfl (fun za zC zh zk => ld_24 rfl (zh.ev rfl) (bkeeps hb20 _ _ (hc29 k (by first | omega | (simp; omega))).1) (bkeeps hb20 _ _ (hc29 k (by first | omega | (simp; omega))).2.1) zk) ?_
     refine WL.mv rfl rfl rfl rfl rfl ?_
     have hqz9 : Bq ≤ w17.heap.size := by omega
     refine WL.call rfl rfl rfl (fun za zh zC => wp_call (by kernel_rfl) rfl (hv3 (zh.ev rfl) (zh.ev rfl) (zh.ev rfl))) (one_add ho22 (by omega) (by unfold I64; omega) (Nat.le_trans (hszk _ (by omega)) (by decide)) (by rw [bL_len]; omega) (IsT.below hb20 (hc29 k (by first | omega | (simp; omega))).2.2) hqz9) ?_
     rintro _ w30 ⟨rfl, hT9, hc9⟩
     have hb31 := chg_below hb20 hc9 (fun b hb => (fun q => by have q2 : Bq ≤ _ := q; (try dsimp only at *); omega))
     have hB32 := chg_blk hB21 hc9 (fun q => by have q2 : Bq ≤ _ := q; (try dsimp only at *); omega)
     have hqn9 : Bq ≤ w30.heap.size := by have z := hc9.size; omega
     refine WL.val (.bool false) rfl rfl rfl (fun za zC zh zk => neq_29 rfl (zh.ev rfl) (zh.ev rfl) (by rw [show ((0 : Int) != (0 : Int)) = false from rfl]; exact zk)) ?_
     refine WL.nil (WE.next ?_)
     refine WC.condF rfl rfl ?_
     refine WC.skip (WE.blockNormal (WE.next (WC.region (WL.mv rfl rfl rfl rfl rfl ?_))))
     refine WL.val (.int .i64 ((((k + 1) : Nat) : Int))) rfl rfl rfl (fun za zC zh zk => addb_3 rfl (zh.ev rfl) (zh.ev rfl) (wrap_eq (by omega) (by omega) (by omega)) zk) ?_
     refine WL.asg rfl rfl rfl rfl rfl (WL.nil ?_)
     refine WE.round (k + 1) ⟨rfl, rfl, rfl, rfl, rfl, rfl, trivial⟩ ?_ ?_
     ·exact ⟨(by (try dsimp only at *); omega), hqn9, hb31, hB32, (by rw [bL_succ]; exact hT9)⟩
     ·(try dsimp only at *); omega
    ·have h23 : ¬ ((((k : Nat) : Int) : Int) < (((l.length : Nat) : Int) : Int)) := by simpa using h23
     refine WC.exit (WE.thenExit (WE.thenExit (WE.blockIs rfl (WE.next (WC.seq ?_)))))
     have hkl : k = l.length := by omega
     have hT11 := ho22
     rw [hkl] at hT11
     obtain ⟨Z9, hF9, _⟩ := hT11
     refine WC.opt [(true, .val (.pointer (some ⟨gq, 0, none⟩))), (true, .val (.agg #[.int .i64 t.f, .slice ta t.args.length tc])), (true, .mem (fun v w => Told0 w (askP (bL l l.length) 0 (prt t)) v) (fun v w w' hb h => h.below hb)), (true, .val (.pointer (some ⟨gq, 0, none⟩))), (true, .val (.agg #[.int .i64 t.f, .slice ta t.args.length tc])), (true, .mem (fun v w => Told0 w (askP (bL l l.length) 1 (prt t)) v) (fun v w w' hb h => h.below hb)), (true, .val (.pointer (some ⟨gq, 0, none⟩))), (true, .val (.agg #[.int .i64 t.f, .slice ta t.args.length tc])), (true, .mem (fun v w => Told0 w (askP (bL l l.length) 2 (prt t)) v) (fun v w w' hb h => h.below hb)), (true, .mem (fun v w => Told0 w (askP (bL l l.length) 0 (prt t)) v) (fun v w w' hb h => h.below hb)), (true, .mem (fun v w => Told0 w (askP (bL l l.length) 1 (prt t)) v) (fun v w w' hb h => h.below hb)), (true, .mem (fun v w => Told0 w (askP (bL l l.length) 2 (prt t)) v) (fun v w w' hb h => h.below hb))] [(0, .slice a l.length c), (1, .agg #[.int .i64 t.f, .slice ta t.args.length tc]), (3, .pointer (some ⟨g2, 0, none⟩)), (5, .pointer (some ⟨gq, 0, none⟩)), (6, .int .i64 (((k : Nat) : Int))), (22, .bool (((decide ((60 : Int) < (((l.length : Nat) : Int) : Int))) || (!(T.small 48 t))))), (28, .bool ((decide ((((k : Nat) : Int) : Int) < (((l.length : Nat) : Int) : Int)))))] ⟨rfl, rfl, rfl, rfl, rfl, rfl, rfl, trivial⟩ (by kernel_rfl) (by kernel_rfl) (by kernel_rfl) ?_ ?_
     ·refine ⟨⟨true, .none rfl, fun h w => optUndef h, fun zβ za zw zc => ?_⟩, ?_⟩
      ·exact wp_move rfl (zc.kn.ev rfl) ⟨_, rfl, Below.refl _ _, optDef zβ rfl⟩
      refine ⟨⟨true, .none rfl, fun h w => optUndef h, fun zβ za zw zc => ?_⟩, ?_⟩
      ·exact ld_24 rfl (zc.kn.ev rfl) (bkeeps zc.below _ _ ((hB21.cell 0).trans rfl)) (bkeeps zc.below _ _ ((hB21.cell 1).trans rfl)) ⟨_, rfl, Below.refl _ _, optDef zβ rfl⟩
      refine ⟨⟨true, .none rfl, fun h w => optUndef h, fun zβ za zw zc => ?_⟩, ?_⟩
      ·exact wp_call (by kernel_rfl) rfl (hv2 ((evt za 39).trans (optVal (zc.dep 0 39 (by kernel_rfl)) rfl rfl)) ((evt za 40).trans (optVal (zc.dep 1 40 (by kernel_rfl)) rfl rfl))) (fUni_any _ _ _ _ t _ (by rw [bL_len]; omega) (IsT.below (bstep hb20 zc.below) hvt) (FpIs.below hF9 zc.below)) (fun v w' h => ⟨v, rfl, h.2, optDef zβ (told0 h.1 rfl)⟩)
      refine ⟨⟨true, .none rfl, fun h w => optUndef h, fun zβ za zw zc => ?_⟩, ?_⟩
      ·exact wp_move rfl (zc.kn.ev rfl) ⟨_, rfl, Below.refl _ _, optDef zβ rfl⟩
      refine ⟨⟨true, .none rfl, fun h w => optUndef h, fun zβ za zw zc => ?_⟩, ?_⟩
      ·exact ld_24 rfl (zc.kn.ev rfl) (bkeeps zc.below _ _ ((hB21.cell 0).trans rfl)) (bkeeps zc.below _ _ ((hB21.cell 1).trans rfl)) ⟨_, rfl, Below.refl _ _, optDef zβ rfl⟩
      refine ⟨⟨true, .none rfl, fun h w => optUndef h, fun zβ za zw zc => ?_⟩, ?_⟩
      ·exact wp_call (by kernel_rfl) rfl (hv2 ((evt za 42).trans (optVal (zc.dep 3 42 (by kernel_rfl)) rfl rfl)) ((evt za 43).trans (optVal (zc.dep 4 43 (by kernel_rfl)) rfl rfl))) (fGen_any _ _ _ _ t _ (by rw [bL_len]; omega) (IsT.below (bstep hb20 zc.below) hvt) (FpIs.below hF9 zc.below)) (fun v w' h => ⟨v, rfl, h.2, optDef zβ (told0 h.1 rfl)⟩)
      refine ⟨⟨true, .none rfl, fun h w => optUndef h, fun zβ za zw zc => ?_⟩, ?_⟩
      ·exact wp_move rfl (zc.kn.ev rfl) ⟨_, rfl, Below.refl _ _, optDef zβ rfl⟩
      refine ⟨⟨true, .none rfl, fun h w => optUndef h, fun zβ za zw zc => ?_⟩, ?_⟩
      ·exact ld_24 rfl (zc.kn.ev rfl) (bkeeps zc.below _ _ ((hB21.cell 0).trans rfl)) (bkeeps zc.below _ _ ((hB21.cell 1).trans rfl)) ⟨_, rfl, Below.refl _ _, optDef zβ rfl⟩
      refine ⟨⟨true, .none rfl, fun h w => optUndef h, fun zβ za zw zc => ?_⟩, ?_⟩
      ·exact wp_call (by kernel_rfl) rfl (hv2 ((evt za 45).trans (optVal (zc.dep 6 45 (by kernel_rfl)) rfl rfl)) ((evt za 46).trans (optVal (zc.dep 7 46 (by kernel_rfl)) rfl rfl))) (fIns_any _ _ _ _ t _ (by rw [bL_len]; omega) (IsT.below (bstep hb20 zc.below) hvt) (FpIs.below hF9 zc.below)) (fun v w' h => ⟨v, rfl, h.2, optDef zβ (told0 h.1 rfl)⟩)
      refine ⟨⟨true, .none rfl, fun h w => optUndef h, fun zβ za zw zc => ?_⟩, ?_⟩
      ·exact wp_assign rfl (evt za 41) ⟨_, rfl, Below.refl _ _, optDef zβ (optMem (zc.dep 2 41 (by kernel_rfl)) rfl rfl)⟩
      refine ⟨⟨true, .none rfl, fun h w => optUndef h, fun zβ za zw zc => ?_⟩, ?_⟩
      ·exact wp_assign rfl (evt za 44) ⟨_, rfl, Below.refl _ _, optDef zβ (optMem (zc.dep 5 44 (by kernel_rfl)) rfl rfl)⟩
      refine ⟨⟨true, .none rfl, fun h w => optUndef h, fun zβ za zw zc => ?_⟩, ?_⟩
      ·exact wp_assign rfl (evt za 47) ⟨_, rfl, Below.refl _ _, optDef zβ (optMem (zc.dep 8 47 (by kernel_rfl)) rfl rfl)⟩
      exact trivial
     ·intro za w33 zh hb34 zu
      obtain ⟨aK0, cK0, zeK0, hK0⟩ := optMem (zu 9 7 (by kernel_rfl)) rfl rfl
      have zh := zh.cons (d := 7) zeK0
      obtain ⟨aK1, cK1, zeK1, hK1⟩ := optMem (zu 10 8 (by kernel_rfl)) rfl rfl
      have zh := zh.cons (d := 8) zeK1
      obtain ⟨aK2, cK2, zeK2, hK2⟩ := optMem (zu 11 9 (by kernel_rfl)) rfl rfl
      have zh := zh.cons (d := 9) zeK2
      clear zu
      refine WE.go zh ?_
      refine WE.next (WC.seq (WC.seq (WC.region (WL.asg rfl rfl rfl rfl rfl (WL.nil (WE.next (WC.block ?_)))))))
      refine WC.loop (X := Nat) (fun u => l.length - u) (fun u => [(0, .slice a l.length c), (1, .agg #[.int .i64 t.f, .slice ta t.args.length tc]), (3, .pointer (some ⟨g2, 0, none⟩)), (5, .pointer (some ⟨gq, 0, none⟩)), (6, .int .i64 (((k : Nat) : Int))), (7, .slice aK0 ((askP (bL l l.length) 0 (prt t)).length) cK0), (8, .slice aK1 ((askP (bL l l.length) 1 (prt t)).length) cK1), (9, .slice aK2 ((askP (bL l l.length) 2 (prt t)).length) cK2), (10, .int .i64 (((u : Nat) : Int))), (22, .bool (((decide ((60 : Int) < (((l.length : Nat) : Int) : Int))) || (!(T.small 48 t))))), (28, .bool ((decide ((((k : Nat) : Int) : Int) < (((l.length : Nat) : Int) : Int)))))]) (fun u w35 => u ≤ l.length ∧ Below w.heap.size w w35 ∧ Below w33.heap.size w33 w35 ∧ Blk w35 g2 24 #[.int .i64 t.f, .slice ta t.args.length tc]) 0 ⟨rfl, rfl, rfl, rfl, rfl, rfl, rfl, rfl, rfl, rfl, rfl, trivial⟩ ?_ ?_
      ·have hb36 : Below w.heap.size w w33 := (bstep hb20 hb34)
       have hB37 := hB21.below hb34
       exact ⟨Nat.zero_le _, hb36, (Below.refl _ _), hB37⟩
      ·rintro u w35 ⟨hu, hb38, hb39, hB40⟩
       refine WC.seq (WC.seq (WC.region (WL.mv rfl rfl rfl rfl rfl (WL.mv rfl rfl rfl rfl rfl ?_))))
       refine WL.val (.int .i64 (((l.length : Nat) : Int))) rfl rfl rfl (fun za zC zh zk => len_22 rfl (zh.ev rfl) zk) ?_
       refine WL.val (.bool ((decide ((((u : Nat) : Int) : Int) < (((l.length : Nat) : Int) : Int))))) rfl rfl rfl (fun za zC zh zk => lss_3 rfl (zh.ev rfl) (zh.ev rfl) zk) ?_
       refine WL.nil (WE.next ?_)
       refine WC.cond rfl (fun h41 => ?_) (fun h41 => ?_)
       ·have h41 : (((u : Nat) : Int) : Int) < (((l.length : Nat) : Int) : Int) := by simpa using h41
        refine WC.skip (WE.next (WC.seq (WC.block (WC.seq (WC.seq (WC.region (WL.mv rfl rfl rfl rfl rfl (WL.mv rfl rfl rfl rfl rfl ?_))))))))
        obtain ⟨b42, o43, A44, C45, ha46, hc47⟩ := IsTs.open hl
        refine WL.val _ rfl rfl rfl (fun za zC zh zk => ix_22 (k := u) rfl (zh.ev rfl) (ha46 u (by first | omega | (simp; omega))) (zh.ev rfl) (by first | omega | (simp; omega)) zk) ?_
        refine WL.val _ rfl rfl rfl (fun za zC zh zk => ld_24 rfl (zh.ev rfl) (bkeeps hb38 _ _ (hc47 u (by first | omega | (simp; omega))).1) (bkeeps hb38 _ _ (hc47 u (by first | omega | (simp; omega))).2.1) zk) ?_
        refine WL.call rfl rfl rfl (fun za zh zC => wp_call (by kernel_rfl) rfl (hv2 (zh.ev rfl) (zh.ev rfl))) (rsmall_any (tget l u) 48 _ _ (by decide) (Nat.le_trans (hszk _ (by omega)) (by decide)) (IsT.below hb38 (hc47 u (by first | omega | (simp; omega))).2.2)) ?_
        rintro _ w49 ⟨rfl, hq48⟩
        refine WL.val (.bool ((!(T.small 48 (tget l u))))) rfl rfl rfl (fun za zC zh zk => wp_not rfl (zh.ev rfl) zk) ?_
        refine WL.nil (WE.next ?_)
        refine WC.cond rfl (fun h50 => ?_) (fun h50 => ?_)
        ·have h50 : ¬ ((T.small 48 (tget l u)) = true) := by simpa using h50
         refine WC.exit (WE.thenExit (WE.blockIs rfl (WE.next (WC.region (WL.mv rfl rfl rfl rfl rfl ?_)))))
         refine WL.val (.int .i64 ((((u + 1) : Nat) : Int))) rfl rfl rfl (fun za zC zh zk => addb_3 rfl (zh.ev rfl) (zh.ev rfl) (wrap_eq (by omega) (by omega) (by omega)) zk) ?_
         refine WL.asg rfl rfl rfl rfl rfl (WL.nil ?_)
         refine WE.round (u + 1) ⟨rfl, rfl, rfl, rfl, rfl, rfl, rfl, rfl, rfl, rfl, rfl, trivial⟩ ?_ ?_
         ·have hb51 : Below w.heap.size w w49 := (bstep hb38 hq48)
          have hb52 : Below w33.heap.size w33 w49 := (bstep hb39 hq48)
          have hB53 := hB40.below hq48
          exact ⟨(by (try dsimp only at *); omega), hb51, hb52, hB53⟩
         ·(try dsimp only at *); omega
        ·have h50 : ¬ (¬ ((T.small 48 (tget l u)) = true)) := by simpa using h50
         refine WC.skip (WE.next (WC.seq (WC.seq ?_)))
         have hul : u < l.length := by omega
         have hcf : canD (tget l u) t.d48 = true → ((u : Nat) : Int) ∈ (askP (bL l l.length) 0 (prt t)) := fun q => leaf_in hul (can_fit q)
         have hup : mOk (tget l u) t [] = true → ((u : Nat) : Int) ∈ (askP (bL l l.length) 1 (prt t)) := fun q => leaf_in hul (match_up q)
         have hdn : mOk t (tget l u) [] = true → ((u : Nat) : Int) ∈ (askP (bL l l.length) 2 (prt t)) := fun q => leaf_in hul (match_down q)
         have hb54 : Below w.heap.size w w49 := (bstep hb38 hq48)
         have hB55 := hB40.below hq48
         have hb56 : Below w33.heap.size w33 w49 := (bstep hb39 hq48)
         refine WC.opt [(true, .val (.slice a l.length c)), (true, .val (.int .i64 (((u : Nat) : Int)))), (true, .val (.pointer (some ⟨b42, o43 + u * 2, none⟩))), (true, .val (.agg #[.int .i64 ((tget l u).f), .slice ((A44 u)) ((tget l u).args.length) ((C45 u))])), (true, .val (.agg #[.int .i64 t.f, .slice ta t.args.length tc])), (true, .mem (fun v w => IsT w t.d48 v) isT_keep), (true, .val (.bool ((canD (tget l u) t.d48)))), (true, .val (.bool ((canD (tget l u) t.d48)))), ((true && (canD (tget l u) t.d48)), .val (.slice aK0 ((askP (bL l l.length) 0 (prt t)).length) cK0)), ((true && (canD (tget l u) t.d48)), .val (.int .i64 (((u : Nat) : Int)))), ((true && (canD (tget l u) t.d48)), .val (.bool ((decide (((u : Nat) : Int) ∈ (askP (bL l l.length) 0 (prt t))))))), ((true && (canD (tget l u) t.d48)), .val (.bool ((!(decide (((u : Nat) : Int) ∈ (askP (bL l l.length) 0 (prt t)))))))), (true, .val (.bool (((canD (tget l u) t.d48) && (!(decide (((u : Nat) : Int) ∈ (askP (bL l l.length) 0 (prt t)))))))))] [(0, .slice a l.length c), (1, .agg #[.int .i64 t.f, .slice ta t.args.length tc]), (3, .pointer (some ⟨g2, 0, none⟩)), (5, .pointer (some ⟨gq, 0, none⟩)), (6, .int .i64 (((k : Nat) : Int))), (7, .slice aK0 ((askP (bL l l.length) 0 (prt t)).length) cK0), (8, .slice aK1 ((askP (bL l l.length) 1 (prt t)).length) cK1), (9, .slice aK2 ((askP (bL l l.length) 2 (prt t)).length) cK2), (10, .int .i64 (((u : Nat) : Int))), (22, .bool (((decide ((60 : Int) < (((l.length : Nat) : Int) : Int))) || (!(T.small 48 t))))), (28, .bool ((decide ((((k : Nat) : Int) : Int) < (((l.length : Nat) : Int) : Int))))), (51, .bool ((decide ((((u : Nat) : Int) : Int) < (((l.length : Nat) : Int) : Int))))), (59, .bool ((!(T.small 48 (tget l u)))))] ⟨rfl, rfl, rfl, rfl, rfl, rfl, rfl, rfl, rfl, rfl, rfl, rfl, rfl, trivial⟩ (by kernel_rfl) (by kernel_rfl) (by kernel_rfl) ?_ ?_
         ·refine ⟨⟨true, .none rfl, fun h w => optUndef h, fun zβ za zw zc => ?_⟩, ?_⟩
          ·exact wp_move rfl (zc.kn.ev rfl) ⟨_, rfl, Below.refl _ _, optDef zβ rfl⟩
          refine ⟨⟨true, .none rfl, fun h w => optUndef h, fun zβ za zw zc => ?_⟩, ?_⟩
          ·exact wp_move rfl (zc.kn.ev rfl) ⟨_, rfl, Below.refl _ _, optDef zβ rfl⟩
          refine ⟨⟨true, .none rfl, fun h w => optUndef h, fun zβ za zw zc => ?_⟩, ?_⟩
          ·exact ix_22 (k := u) rfl ((evt za 60).trans (optVal (zc.dep 0 60 (by kernel_rfl)) rfl rfl)) (ha46 u (by first | omega | (simp; omega))) ((evt za 61).trans (optVal (zc.dep 1 61 (by kernel_rfl)) rfl rfl)) (by first | omega | (simp; omega)) ⟨_, rfl, Below.refl _ _, optDef zβ rfl⟩
          refine ⟨⟨true, .none rfl, fun h w => optUndef h, fun zβ za zw zc => ?_⟩, ?_⟩
          ·exact ld_24 rfl ((evt za 62).trans (optVal (zc.dep 2 62 (by kernel_rfl)) rfl rfl)) (bkeeps (bstep hb54 zc.below) _ _ (hc47 u (by first | omega | (simp; omega))).1) (bkeeps (bstep hb54 zc.below) _ _ (hc47 u (by first | omega | (simp; omega))).2.1) ⟨_, rfl, Below.refl _ _, optDef zβ rfl⟩
          refine ⟨⟨true, .none rfl, fun h w => optUndef h, fun zβ za zw zc => ?_⟩, ?_⟩
          ·exact ld_24 rfl (zc.kn.ev rfl) (bkeeps zc.below _ _ ((hB55.cell 0).trans rfl)) (bkeeps zc.below _ _ ((hB55.cell 1).trans rfl)) ⟨_, rfl, Below.refl _ _, optDef zβ rfl⟩
          refine ⟨⟨true, .none rfl, fun h w => optUndef h, fun zβ za zw zc => ?_⟩, ?_⟩
          ·exact wp_call (by kernel_rfl) rfl (hv1 ((evt za 64).trans (optVal (zc.dep 4 64 (by kernel_rfl)) rfl rfl))) (moved_any t _ _ htlow (by omega) (IsT.below (bstep hb54 zc.below) hvt)) (fun v w' h => ⟨v, rfl, h.2, optDef zβ (InT.isT h.1)⟩)
          refine ⟨⟨true, .none rfl, fun h w => optUndef h, fun zβ za zw zc => ?_⟩, ?_⟩
          ·exact wp_call (by kernel_rfl) rfl (hv2 ((evt za 63).trans (optVal (zc.dep 3 63 (by kernel_rfl)) rfl rfl)) (evt za 65)) (rcan2 (tget l u) t.d48 _ _ _ (IsT.below (bstep hb54 zc.below) (hc47 u (by first | omega | (simp; omega))).2.2) (optMem (zc.dep 5 65 (by kernel_rfl)) rfl rfl) (Nat.le_trans (hszk _ (by omega)) (by decide)) (by rw [d48_size]; omega)) (fun v w' h => ⟨v, rfl, h.2, optDef zβ h.1⟩)
          refine ⟨⟨true, .none rfl, fun h w => optUndef h, fun zβ za zw zc => ?_⟩, ?_⟩
          ·exact wp_move rfl ((evt za 66).trans (optVal (zc.dep 6 66 (by kernel_rfl)) rfl rfl)) ⟨_, rfl, Below.refl _ _, optDef zβ rfl⟩
          refine ⟨⟨_, .yes (d := true) rfl (fun v w h => h), fun h w => optUndef h, fun zβ za zw zc => ?_⟩, ?_⟩
          ·exact wp_move rfl (zc.kn.ev rfl) ⟨_, rfl, Below.refl _ _, optDef zβ rfl⟩
          refine ⟨⟨_, .yes (d := true) rfl (fun v w h => h), fun h w => optUndef h, fun zβ za zw zc => ?_⟩, ?_⟩
          ·exact wp_move rfl (zc.kn.ev rfl) ⟨_, rfl, Below.refl _ _, optDef zβ rfl⟩
          refine ⟨⟨_, .yes (d := true) rfl (fun v w h => h), fun h w => optUndef h, fun zβ za zw zc => ?_⟩, ?_⟩
          ·exact wp_call (by kernel_rfl) rfl (hv2 ((evt za 68).trans (optVal (zc.dep 8 68 (by kernel_rfl)) rfl zβ)) ((evt za 69).trans (optVal (zc.dep 9 69 (by kernel_rfl)) rfl zβ))) (has_any (InRow.below hK0 (bstep hb56 zc.below)) (by have z := askP_len (bL l l.length) 0 (prt t); rw [bL_len] at z; omega)) (fun v w' h => ⟨v, rfl, h.2, optDef zβ h.1⟩)
          refine ⟨⟨_, .yes (d := true) rfl (fun v w h => h), fun h w => optUndef h, fun zβ za zw zc => ?_⟩, ?_⟩
          ·exact wp_not rfl ((evt za 70).trans (optVal (zc.dep 10 70 (by kernel_rfl)) rfl zβ)) ⟨_, rfl, Below.refl _ _, optDef zβ rfl⟩
          refine ⟨⟨true, .none rfl, fun h w => optUndef h, fun zβ za zw zc => ?_⟩, ?_⟩
          ·exact wp_and rfl ((evt za 67).trans (optVal (zc.dep 7 67 (by kernel_rfl)) rfl rfl)) (fun hp => ((evt za 71).trans (optVal (zc.dep 11 71 (by kernel_rfl)) rfl (bMk zβ hp)))) ⟨_, rfl, Below.refl _ _, optDef zβ rfl⟩
          exact trivial
         ·intro za w58 zh hb59 zu
          have zh := zh.cons (d := 72) (v := .bool (((canD (tget l u) t.d48) && (!(decide (((u : Nat) : Int) ∈ (askP (bL l l.length) 0 (prt t)))))))) (optVal (zu 12 72 (by kernel_rfl)) rfl rfl)
          clear zu
          refine WE.go zh ?_
          refine WE.next ?_
          refine WC.condF rfl ((imp_no hcf)) ?_
          refine WC.skip (WE.next (WC.seq ?_))
          have hb60 : Below w.heap.size w w58 := (bstep hb54 hb59)
          have hB61 := hB55.below hb59
          refine WC.opt [(true, .val (.slice a l.length c)), (true, .val (.int .i64 (((u : Nat) : Int)))), (true, .val (.pointer (some ⟨b42, o43 + u * 2, none⟩))), (true, .val (.agg #[.int .i64 ((tget l u).f), .slice ((A44 u)) ((tget l u).args.length) ((C45 u))])), (true, .val (.agg #[.int .i64 t.f, .slice ta t.args.length tc])), (true, .mem (fun v _ => MatV (mOk (tget l u) t []) v) (fun v w w' hb h => h)), (true, .mem (fun v _ => MatV (mOk (tget l u) t []) v) (fun v w w' hb h => h)), (true, .mem (fun _ _ => True) (fun _ _ _ _ _ => trivial)), (true, .val (.bool ((mOk (tget l u) t [])))), (true, .mem (fun _ _ => True) (fun _ _ _ _ _ => trivial)), (true, .val (.bool ((mOk (tget l u) t []))))] [(0, .slice a l.length c), (1, .agg #[.int .i64 t.f, .slice ta t.args.length tc]), (3, .pointer (some ⟨g2, 0, none⟩)), (5, .pointer (some ⟨gq, 0, none⟩)), (6, .int .i64 (((k : Nat) : Int))), (7, .slice aK0 ((askP (bL l l.length) 0 (prt t)).length) cK0), (8, .slice aK1 ((askP (bL l l.length) 1 (prt t)).length) cK1), (9, .slice aK2 ((askP (bL l l.length) 2 (prt t)).length) cK2), (10, .int .i64 (((u : Nat) : Int))), (22, .bool (((decide ((60 : Int) < (((l.length : Nat) : Int) : Int))) || (!(T.small 48 t))))), (28, .bool ((decide ((((k : Nat) : Int) : Int) < (((l.length : Nat) : Int) : Int))))), (51, .bool ((decide ((((u : Nat) : Int) : Int) < (((l.length : Nat) : Int) : Int))))), (59, .bool ((!(T.small 48 (tget l u))))), (72, .bool (((canD (tget l u) t.d48) && (!(decide (((u : Nat) : Int) ∈ (askP (bL l l.length) 0 (prt t))))))))] ⟨rfl, rfl, rfl, rfl, rfl, rfl, rfl, rfl, rfl, rfl, rfl, rfl, rfl, rfl, trivial⟩ (by kernel_rfl) (by kernel_rfl) (by kernel_rfl) ?_ ?_
          ·refine ⟨⟨true, .none rfl, fun h w => optUndef h, fun zβ za zw zc => ?_⟩, ?_⟩
           ·exact wp_move rfl (zc.kn.ev rfl) ⟨_, rfl, Below.refl _ _, optDef zβ rfl⟩
           refine ⟨⟨true, .none rfl, fun h w => optUndef h, fun zβ za zw zc => ?_⟩, ?_⟩
           ·exact wp_move rfl (zc.kn.ev rfl) ⟨_, rfl, Below.refl _ _, optDef zβ rfl⟩
           refine ⟨⟨true, .none rfl, fun h w => optUndef h, fun zβ za zw zc => ?_⟩, ?_⟩
           ·exact ix_22 (k := u) rfl ((evt za 74).trans (optVal (zc.dep 0 74 (by kernel_rfl)) rfl rfl)) (ha46 u (by first | omega | (simp; omega))) ((evt za 75).trans (optVal (zc.dep 1 75 (by kernel_rfl)) rfl rfl)) (by first | omega | (simp; omega)) ⟨_, rfl, Below.refl _ _, optDef zβ rfl⟩
           refine ⟨⟨true, .none rfl, fun h w => optUndef h, fun zβ za zw zc => ?_⟩, ?_⟩
           ·exact ld_24 rfl ((evt za 76).trans (optVal (zc.dep 2 76 (by kernel_rfl)) rfl rfl)) (bkeeps (bstep hb60 zc.below) _ _ (hc47 u (by first | omega | (simp; omega))).1) (bkeeps (bstep hb60 zc.below) _ _ (hc47 u (by first | omega | (simp; omega))).2.1) ⟨_, rfl, Below.refl _ _, optDef zβ rfl⟩
           refine ⟨⟨true, .none rfl, fun h w => optUndef h, fun zβ za zw zc => ?_⟩, ?_⟩
           ·exact ld_24 rfl (zc.kn.ev rfl) (bkeeps zc.below _ _ ((hB61.cell 0).trans rfl)) (bkeeps zc.below _ _ ((hB61.cell 1).trans rfl)) ⟨_, rfl, Below.refl _ _, optDef zβ rfl⟩
           refine ⟨⟨true, .none rfl, fun h w => optUndef h, fun zβ za zw zc => ?_⟩, ?_⟩
           ·exact wp_call (by kernel_rfl) rfl (hv2 ((evt za 77).trans (optVal (zc.dep 3 77 (by kernel_rfl)) rfl rfl)) ((evt za 78).trans (optVal (zc.dep 4 78 (by kernel_rfl)) rfl rfl))) (rmatch2 (tget l u) t _ _ _ (IsT.below (bstep hb60 zc.below) (hc47 u (by first | omega | (simp; omega))).2.2) (IsT.below (bstep hb60 zc.below) hvt) (Nat.le_trans (hszk _ (by omega)) (by decide)) (by omega)) (fun v w' h => ⟨v, rfl, h.2, optDef zβ h.1⟩)
           refine ⟨⟨true, .none rfl, fun h w => optUndef h, fun zβ za zw zc => ?_⟩, ?_⟩
           ·exact wp_move rfl (evt za 79) ⟨_, rfl, Below.refl _ _, optDef zβ (optMem (zc.dep 5 79 (by kernel_rfl)) rfl rfl)⟩
           refine ⟨⟨true, .none rfl, fun h w => optUndef h, fun zβ za zw zc => ?_⟩, ?_⟩
           ·obtain ⟨a9, n9, c9, e9⟩ := (optMem (zc.dep 6 73 (by kernel_rfl)) rfl rfl)
            exact ext2_0 rfl ((evt za 73).trans e9) ⟨_, rfl, Below.refl _ _, optDef zβ trivial⟩
           refine ⟨⟨true, .none rfl, fun h w => optUndef h, fun zβ za zw zc => ?_⟩, ?_⟩
           ·obtain ⟨a9, n9, c9, e9⟩ := (optMem (zc.dep 6 73 (by kernel_rfl)) rfl rfl)
            exact ext2_1 rfl ((evt za 73).trans e9) ⟨_, rfl, Below.refl _ _, optDef zβ rfl⟩
           refine ⟨⟨true, .none rfl, fun h w => optUndef h, fun zβ za zw zc => ?_⟩, ?_⟩
           ·exact wp_assign rfl (evt za 80) ⟨_, rfl, Below.refl _ _, optDef zβ trivial⟩
           refine ⟨⟨true, .none rfl, fun h w => optUndef h, fun zβ za zw zc => ?_⟩, ?_⟩
           ·exact wp_assign rfl ((evt za 81).trans (optVal (zc.dep 8 81 (by kernel_rfl)) rfl rfl)) ⟨_, rfl, Below.refl _ _, optDef zβ rfl⟩
           exact trivial
          ·intro za w62 zh hb63 zu
           have zh := zh.cons (d := 12) (v := .bool ((mOk (tget l u) t []))) (optVal (zu 10 12 (by kernel_rfl)) rfl rfl)
           clear zu
           refine WE.go zh ?_
           refine WE.next (WC.seq ?_)
           have hB64 := hB61.below hb63
           have hb65 : Below w.heap.size w w62 := (bstep hb60 hb63)
           refine WC.opt [(true, .val (.agg #[.int .i64 t.f, .slice ta t.args.length tc])), (true, .val (.slice a l.length c)), (true, .val (.int .i64 (((u : Nat) : Int)))), (true, .val (.pointer (some ⟨b42, o43 + u * 2, none⟩))), (true, .val (.agg #[.int .i64 ((tget l u).f), .slice ((A44 u)) ((tget l u).args.length) ((C45 u))])), (true, .mem (fun v _ => MatV (mOk t (tget l u) []) v) (fun v w w' hb h => h)), (true, .mem (fun v _ => MatV (mOk t (tget l u) []) v) (fun v w w' hb h => h)), (true, .mem (fun _ _ => True) (fun _ _ _ _ _ => trivial)), (true, .val (.bool ((mOk t (tget l u) [])))), (true, .mem (fun _ _ => True) (fun _ _ _ _ _ => trivial)), (true, .val (.bool ((mOk t (tget l u) []))))] [(0, .slice a l.length c), (1, .agg #[.int .i64 t.f, .slice ta t.args.length tc]), (3, .pointer (some ⟨g2, 0, none⟩)), (5, .pointer (some ⟨gq, 0, none⟩)), (6, .int .i64 (((k : Nat) : Int))), (7, .slice aK0 ((askP (bL l l.length) 0 (prt t)).length) cK0), (8, .slice aK1 ((askP (bL l l.length) 1 (prt t)).length) cK1), (9, .slice aK2 ((askP (bL l l.length) 2 (prt t)).length) cK2), (10, .int .i64 (((u : Nat) : Int))), (12, .bool ((mOk (tget l u) t []))), (22, .bool (((decide ((60 : Int) < (((l.length : Nat) : Int) : Int))) || (!(T.small 48 t))))), (28, .bool ((decide ((((k : Nat) : Int) : Int) < (((l.length : Nat) : Int) : Int))))), (51, .bool ((decide ((((u : Nat) : Int) : Int) < (((l.length : Nat) : Int) : Int))))), (59, .bool ((!(T.small 48 (tget l u))))), (72, .bool (((canD (tget l u) t.d48) && (!(decide (((u : Nat) : Int) ∈ (askP (bL l l.length) 0 (prt t))))))))] ⟨rfl, rfl, rfl, rfl, rfl, rfl, rfl, rfl, rfl, rfl, rfl, rfl, rfl, rfl, rfl, trivial⟩ (by kernel_rfl) (by kernel_rfl) (by kernel_rfl) ?_ ?_
           ·refine ⟨⟨true, .none rfl, fun h w => optUndef h, fun zβ za zw zc => ?_⟩, ?_⟩
            ·exact ld_24 rfl (zc.kn.ev rfl) (bkeeps zc.below _ _ ((hB64.cell 0).trans rfl)) (bkeeps zc.below _ _ ((hB64.cell 1).trans rfl)) ⟨_, rfl, Below.refl _ _, optDef zβ rfl⟩
            refine ⟨⟨true, .none rfl, fun h w => optUndef h, fun zβ za zw zc => ?_⟩, ?_⟩
            ·exact wp_move rfl (zc.kn.ev rfl) ⟨_, rfl, Below.refl _ _, optDef zβ rfl⟩
            refine ⟨⟨true, .none rfl, fun h w => optUndef h, fun zβ za zw zc => ?_⟩, ?_⟩
            ·exact wp_move rfl (zc.kn.ev rfl) ⟨_, rfl, Below.refl _ _, optDef zβ rfl⟩
            refine ⟨⟨true, .none rfl, fun h w => optUndef h, fun zβ za zw zc => ?_⟩, ?_⟩
            ·exact ix_22 (k := u) rfl ((evt za 84).trans (optVal (zc.dep 1 84 (by kernel_rfl)) rfl rfl)) (ha46 u (by first | omega | (simp; omega))) ((evt za 85).trans (optVal (zc.dep 2 85 (by kernel_rfl)) rfl rfl)) (by first | omega | (simp; omega)) ⟨_, rfl, Below.refl _ _, optDef zβ rfl⟩
            refine ⟨⟨true, .none rfl, fun h w => optUndef h, fun zβ za zw zc => ?_⟩, ?_⟩
            ·exact ld_24 rfl ((evt za 86).trans (optVal (zc.dep 3 86 (by kernel_rfl)) rfl rfl)) (bkeeps (bstep hb65 zc.below) _ _ (hc47 u (by first | omega | (simp; omega))).1) (bkeeps (bstep hb65 zc.below) _ _ (hc47 u (by first | omega | (simp; omega))).2.1) ⟨_, rfl, Below.refl _ _, optDef zβ rfl⟩
            refine ⟨⟨true, .none rfl, fun h w => optUndef h, fun zβ za zw zc => ?_⟩, ?_⟩
            ·exact wp_call (by kernel_rfl) rfl (hv2 ((evt za 83).trans (optVal (zc.dep 0 83 (by kernel_rfl)) rfl rfl)) ((evt za 87).trans (optVal (zc.dep 4 87 (by kernel_rfl)) rfl rfl))) (rmatch2 t (tget l u) _ _ _ (IsT.below (bstep hb65 zc.below) hvt) (IsT.below (bstep hb65 zc.below) (hc47 u (by first | omega | (simp; omega))).2.2) (by omega) (Nat.le_trans (hszk _ (by omega)) (by decide))) (fun v w' h => ⟨v, rfl, h.2, optDef zβ h.1⟩)
            refine ⟨⟨true, .none rfl, fun h w => optUndef h, fun zβ za zw zc => ?_⟩, ?_⟩
            ·exact wp_move rfl (evt za 88) ⟨_, rfl, Below.refl _ _, optDef zβ (optMem (zc.dep 5 88 (by kernel_rfl)) rfl rfl)⟩
            refine ⟨⟨true, .none rfl, fun h w => optUndef h, fun zβ za zw zc => ?_⟩, ?_⟩
            ·obtain ⟨a9, n9, c9, e9⟩ := (optMem (zc.dep 6 82 (by kernel_rfl)) rfl rfl)
             exact ext2_0 rfl ((evt za 82).trans e9) ⟨_, rfl, Below.refl _ _, optDef zβ trivial⟩
            refine ⟨⟨true, .none rfl, fun h w => optUndef h, fun zβ za zw zc => ?_⟩, ?_⟩
            ·obtain ⟨a9, n9, c9, e9⟩ := (optMem (zc.dep 6 82 (by kernel_rfl)) rfl rfl)
             exact ext2_1 rfl ((evt za 82).trans e9) ⟨_, rfl, Below.refl _ _, optDef zβ rfl⟩
            refine ⟨⟨true, .none rfl, fun h w => optUndef h, fun zβ za zw zc => ?_⟩, ?_⟩
            ·exact wp_assign rfl (evt za 89) ⟨_, rfl, Below.refl _ _, optDef zβ trivial⟩
            refine ⟨⟨true, .none rfl, fun h w => optUndef h, fun zβ za zw zc => ?_⟩, ?_⟩
            ·exact wp_assign rfl ((evt za 90).trans (optVal (zc.dep 8 90 (by kernel_rfl)) rfl rfl)) ⟨_, rfl, Below.refl _ _, optDef zβ rfl⟩
            exact trivial
           ·intro za w66 zh hb67 zu
            have zh := zh.cons (d := 14) (v := .bool ((mOk t (tget l u) []))) (optVal (zu 10 14 (by kernel_rfl)) rfl rfl)
            clear zu
            refine WE.go zh ?_
            refine WE.next (WC.seq ?_)
            have hb68 : Below w33.heap.size w33 w66 := (bstep (bstep (bstep hb56 hb59) hb63) hb67)
            refine WC.opt [(true, .val (.bool ((mOk (tget l u) t [])))), (true, .val (.bool ((mOk (tget l u) t [])))), ((true && (mOk (tget l u) t [])), .val (.slice aK1 ((askP (bL l l.length) 1 (prt t)).length) cK1)), ((true && (mOk (tget l u) t [])), .val (.int .i64 (((u : Nat) : Int)))), ((true && (mOk (tget l u) t [])), .val (.bool ((decide (((u : Nat) : Int) ∈ (askP (bL l l.length) 1 (prt t))))))), ((true && (mOk (tget l u) t [])), .val (.bool ((!(decide (((u : Nat) : Int) ∈ (askP (bL l l.length) 1 (prt t)))))))), (true, .val (.bool (((mOk (tget l u) t []) && (!(decide (((u : Nat) : Int) ∈ (askP (bL l l.length) 1 (prt t))))))))), (true, .val (.bool (((mOk (tget l u) t []) && (!(decide (((u : Nat) : Int) ∈ (askP (bL l l.length) 1 (prt t))))))))), ((true && !((mOk (tget l u) t []) && (!(decide (((u : Nat) : Int) ∈ (askP (bL l l.length) 1 (prt t))))))), .val (.bool ((mOk t (tget l u) [])))), ((true && !((mOk (tget l u) t []) && (!(decide (((u : Nat) : Int) ∈ (askP (bL l l.length) 1 (prt t))))))), .val (.bool ((mOk t (tget l u) [])))), (((true && !((mOk (tget l u) t []) && (!(decide (((u : Nat) : Int) ∈ (askP (bL l l.length) 1 (prt t))))))) && (mOk t (tget l u) [])), .val (.slice aK2 ((askP (bL l l.length) 2 (prt t)).length) cK2)), (((true && !((mOk (tget l u) t []) && (!(decide (((u : Nat) : Int) ∈ (askP (bL l l.length) 1 (prt t))))))) && (mOk t (tget l u) [])), .val (.int .i64 (((u : Nat) : Int)))), (((true && !((mOk (tget l u) t []) && (!(decide (((u : Nat) : Int) ∈ (askP (bL l l.length) 1 (prt t))))))) && (mOk t (tget l u) [])), .val (.bool ((decide (((u : Nat) : Int) ∈ (askP (bL l l.length) 2 (prt t))))))), (((true && !((mOk (tget l u) t []) && (!(decide (((u : Nat) : Int) ∈ (askP (bL l l.length) 1 (prt t))))))) && (mOk t (tget l u) [])), .val (.bool ((!(decide (((u : Nat) : Int) ∈ (askP (bL l l.length) 2 (prt t)))))))), ((true && !((mOk (tget l u) t []) && (!(decide (((u : Nat) : Int) ∈ (askP (bL l l.length) 1 (prt t))))))), .val (.bool (((mOk t (tget l u) []) && (!(decide (((u : Nat) : Int) ∈ (askP (bL l l.length) 2 (prt t))))))))), (true, .val (.bool ((((mOk (tget l u) t []) && (!(decide (((u : Nat) : Int) ∈ (askP (bL l l.length) 1 (prt t)))))) || ((mOk t (tget l u) []) && (!(decide (((u : Nat) : Int) ∈ (askP (bL l l.length) 2 (prt t))))))))))] [(0, .slice a l.length c), (1, .agg #[.int .i64 t.f, .slice ta t.args.length tc]), (3, .pointer (some ⟨g2, 0, none⟩)), (5, .pointer (some ⟨gq, 0, none⟩)), (6, .int .i64 (((k : Nat) : Int))), (7, .slice aK0 ((askP (bL l l.length) 0 (prt t)).length) cK0), (8, .slice aK1 ((askP (bL l l.length) 1 (prt t)).length) cK1), (9, .slice aK2 ((askP (bL l l.length) 2 (prt t)).length) cK2), (10, .int .i64 (((u : Nat) : Int))), (12, .bool ((mOk (tget l u) t []))), (14, .bool ((mOk t (tget l u) []))), (22, .bool (((decide ((60 : Int) < (((l.length : Nat) : Int) : Int))) || (!(T.small 48 t))))), (28, .bool ((decide ((((k : Nat) : Int) : Int) < (((l.length : Nat) : Int) : Int))))), (51, .bool ((decide ((((u : Nat) : Int) : Int) < (((l.length : Nat) : Int) : Int))))), (59, .bool ((!(T.small 48 (tget l u))))), (72, .bool (((canD (tget l u) t.d48) && (!(decide (((u : Nat) : Int) ∈ (askP (bL l l.length) 0 (prt t))))))))] ⟨rfl, rfl, rfl, rfl, rfl, rfl, rfl, rfl, rfl, rfl, rfl, rfl, rfl, rfl, rfl, rfl, trivial⟩ (by kernel_rfl) (by kernel_rfl) (by kernel_rfl) ?_ ?_
            ·refine ⟨⟨true, .none rfl, fun h w => optUndef h, fun zβ za zw zc => ?_⟩, ?_⟩
             ·exact wp_move rfl (zc.kn.ev rfl) ⟨_, rfl, Below.refl _ _, optDef zβ rfl⟩
             refine ⟨⟨true, .none rfl, fun h w => optUndef h, fun zβ za zw zc => ?_⟩, ?_⟩
             ·exact wp_move rfl ((evt za 91).trans (optVal (zc.dep 0 91 (by kernel_rfl)) rfl rfl)) ⟨_, rfl, Below.refl _ _, optDef zβ rfl⟩
             refine ⟨⟨_, .yes (d := true) rfl (fun v w h => h), fun h w => optUndef h, fun zβ za zw zc => ?_⟩, ?_⟩
             ·exact wp_move rfl (zc.kn.ev rfl) ⟨_, rfl, Below.refl _ _, optDef zβ rfl⟩
             refine ⟨⟨_, .yes (d := true) rfl (fun v w h => h), fun h w => optUndef h, fun zβ za zw zc => ?_⟩, ?_⟩
             ·exact wp_move rfl (zc.kn.ev rfl) ⟨_, rfl, Below.refl _ _, optDef zβ rfl⟩
             refine ⟨⟨_, .yes (d := true) rfl (fun v w h => h), fun h w => optUndef h, fun zβ za zw zc => ?_⟩, ?_⟩
             ·exact wp_call (by kernel_rfl) rfl (hv2 ((evt za 93).trans (optVal (zc.dep 2 93 (by kernel_rfl)) rfl zβ)) ((evt za 94).trans (optVal (zc.dep 3 94 (by kernel_rfl)) rfl zβ))) (has_any (InRow.below hK1 (bstep hb68 zc.below)) (by have z := askP_len (bL l l.length) 1 (prt t); rw [bL_len] at z; omega)) (fun v w' h => ⟨v, rfl, h.2, optDef zβ h.1⟩)
             refine ⟨⟨_, .yes (d := true) rfl (fun v w h => h), fun h w => optUndef h, fun zβ za zw zc => ?_⟩, ?_⟩
             ·exact wp_not rfl ((evt za 95).trans (optVal (zc.dep 4 95 (by kernel_rfl)) rfl zβ)) ⟨_, rfl, Below.refl _ _, optDef zβ rfl⟩
             refine ⟨⟨true, .none rfl, fun h w => optUndef h, fun zβ za zw zc => ?_⟩, ?_⟩
             ·exact wp_and rfl ((evt za 92).trans (optVal (zc.dep 1 92 (by kernel_rfl)) rfl rfl)) (fun hp => ((evt za 96).trans (optVal (zc.dep 5 96 (by kernel_rfl)) rfl (bMk zβ hp)))) ⟨_, rfl, Below.refl _ _, optDef zβ rfl⟩
             refine ⟨⟨true, .none rfl, fun h w => optUndef h, fun zβ za zw zc => ?_⟩, ?_⟩
             ·exact wp_move rfl ((evt za 97).trans (optVal (zc.dep 6 97 (by kernel_rfl)) rfl rfl)) ⟨_, rfl, Below.refl _ _, optDef zβ rfl⟩
             refine ⟨⟨_, .no (d := true) rfl (fun v w h => h), fun h w => optUndef h, fun zβ za zw zc => ?_⟩, ?_⟩
             ·exact wp_move rfl (zc.kn.ev rfl) ⟨_, rfl, Below.refl _ _, optDef zβ rfl⟩
             refine ⟨⟨_, .no (d := true) rfl (fun v w h => h), fun h w => optUndef h, fun zβ za zw zc => ?_⟩, ?_⟩
             ·exact wp_move rfl ((evt za 99).trans (optVal (zc.dep 8 99 (by kernel_rfl)) rfl zβ)) ⟨_, rfl, Below.refl _ _, optDef zβ rfl⟩
             refine ⟨⟨_, .yes (d := (true && !((mOk (tget l u) t []) && (!(decide (((u : Nat) : Int) ∈ (askP (bL l l.length) 1 (prt t)))))))) rfl (fun v w h => h), fun h w => optUndef h, fun zβ za zw zc => ?_⟩, ?_⟩
             ·exact wp_move rfl (zc.kn.ev rfl) ⟨_, rfl, Below.refl _ _, optDef zβ rfl⟩
             refine ⟨⟨_, .yes (d := (true && !((mOk (tget l u) t []) && (!(decide (((u : Nat) : Int) ∈ (askP (bL l l.length) 1 (prt t)))))))) rfl (fun v w h => h), fun h w => optUndef h, fun zβ za zw zc => ?_⟩, ?_⟩
             ·exact wp_move rfl (zc.kn.ev rfl) ⟨_, rfl, Below.refl _ _, optDef zβ rfl⟩
             refine ⟨⟨_, .yes (d := (true && !((mOk (tget l u) t []) && (!(decide (((u : Nat) : Int) ∈ (askP (bL l l.length) 1 (prt t)))))))) rfl (fun v w h => h), fun h w => optUndef h, fun zβ za zw zc => ?_⟩, ?_⟩
             ·exact wp_call (by kernel_rfl) rfl (hv2 ((evt za 101).trans (optVal (zc.dep 10 101 (by kernel_rfl)) rfl zβ)) ((evt za 102).trans (optVal (zc.dep 11 102 (by kernel_rfl)) rfl zβ))) (has_any (InRow.below hK2 (bstep hb68 zc.below)) (by have z := askP_len (bL l l.length) 2 (prt t); rw [bL_len] at z; omega)) (fun v w' h => ⟨v, rfl, h.2, optDef zβ h.1⟩)
             refine ⟨⟨_, .yes (d := (true && !((mOk (tget l u) t []) && (!(decide (((u : Nat) : Int) ∈ (askP (bL l l.length) 1 (prt t)))))))) rfl (fun v w h => h), fun h w => optUndef h, fun zβ za zw zc => ?_⟩, ?_⟩
             ·exact wp_not rfl ((evt za 103).trans (optVal (zc.dep 12 103 (by kernel_rfl)) rfl zβ)) ⟨_, rfl, Below.refl _ _, optDef zβ rfl⟩
             refine ⟨⟨_, .no (d := true) rfl (fun v w h => h), fun h w => optUndef h, fun zβ za zw zc => ?_⟩, ?_⟩
             ·exact wp_and rfl ((evt za 100).trans (optVal (zc.dep 9 100 (by kernel_rfl)) rfl zβ)) (fun hp => ((evt za 104).trans (optVal (zc.dep 13 104 (by kernel_rfl)) rfl (bMk zβ hp)))) ⟨_, rfl, Below.refl _ _, optDef zβ rfl⟩
             refine ⟨⟨true, .none rfl, fun h w => optUndef h, fun zβ za zw zc => ?_⟩, ?_⟩
             ·exact wp_or rfl ((evt za 98).trans (optVal (zc.dep 7 98 (by kernel_rfl)) rfl rfl)) (fun hp => ((evt za 105).trans (optVal (zc.dep 14 105 (by kernel_rfl)) rfl (bMkN zβ hp)))) ⟨_, rfl, Below.refl _ _, optDef zβ rfl⟩
             exact trivial
            ·intro za w71 zh hb72 zu
             have zh := zh.cons (d := 106) (v := .bool ((((mOk (tget l u) t []) && (!(decide (((u : Nat) : Int) ∈ (askP (bL l l.length) 1 (prt t)))))) || ((mOk t (tget l u) []) && (!(decide (((u : Nat) : Int) ∈ (askP (bL l l.length) 2 (prt t))))))))) (optVal (zu 15 106 (by kernel_rfl)) rfl rfl)
             clear zu
             refine (show WE _ [(0, .slice a l.length c), (1, .agg #[.int .i64 t.f, .slice ta t.args.length tc]), (3, .pointer (some ⟨g2, 0, none⟩)), (5, .pointer (some ⟨gq, 0, none⟩)), (6, .int .i64 (((k : Nat) : Int))), (7, .slice aK0 ((askP (bL l l.length) 0 (prt t)).length) cK0), (8, .slice aK1 ((askP (bL l l.length) 1 (prt t)).length) cK1), (9, .slice aK2 ((askP (bL l l.length) 2 (prt t)).length) cK2), (10, .int .i64 (((u : Nat) : Int))), (12, .bool ((mOk (tget l u) t []))), (14, .bool ((mOk t (tget l u) []))), (22, .bool (((decide ((60 : Int) < (((l.length : Nat) : Int) : Int))) || (!(T.small 48 t))))), (28, .bool ((decide ((((k : Nat) : Int) : Int) < (((l.length : Nat) : Int) : Int))))), (51, .bool ((decide ((((u : Nat) : Int) : Int) < (((l.length : Nat) : Int) : Int))))), (59, .bool ((!(T.small 48 (tget l u))))), (72, .bool (((canD (tget l u) t.d48) && (!(decide (((u : Nat) : Int) ∈ (askP (bL l l.length) 0 (prt t)))))))), (106, .bool ((((mOk (tget l u) t []) && (!(decide (((u : Nat) : Int) ∈ (askP (bL l l.length) 1 (prt t)))))) || ((mOk t (tget l u) []) && (!(decide (((u : Nat) : Int) ∈ (askP (bL l l.length) 2 (prt t)))))))))] w71 _ .normal from ?_) za (zh.sub ⟨rfl, rfl, rfl, rfl, rfl, rfl, rfl, rfl, rfl, rfl, rfl, rfl, rfl, rfl, rfl, rfl, rfl, trivial⟩)
             refine WE.next ?_
             refine WC.condF rfl ((imp_no2 hup hdn)) ?_
             refine WC.skip (WE.blockNormal (WE.next (WC.region (WL.mv rfl rfl rfl rfl rfl ?_))))
             refine WL.val (.int .i64 ((((u + 1) : Nat) : Int))) rfl rfl rfl (fun za zC zh zk => addb_3 rfl (zh.ev rfl) (zh.ev rfl) (wrap_eq (by omega) (by omega) (by omega)) zk) ?_
             refine WL.asg rfl rfl rfl rfl rfl (WL.nil ?_)
             refine WE.round (u + 1) ⟨rfl, rfl, rfl, rfl, rfl, rfl, rfl, rfl, rfl, rfl, rfl, trivial⟩ ?_ ?_
             ·have hb73 : Below w.heap.size w w71 := (bstep (bstep hb65 hb67) hb72)
              have hb74 : Below w33.heap.size w33 w71 := (bstep hb68 hb72)
              have hb76 : Below w62.heap.size w62 w71 := (bstep hb67 hb72)
              have hB75 := hB64.below hb76
              exact ⟨(by (try dsimp only at *); omega), hb73, hb74, hB75⟩
             ·(try dsimp only at *); omega
       ·have h41 : ¬ ((((u : Nat) : Int) : Int) < (((l.length : Nat) : Int) : Int)) := by simpa using h41
        refine WC.exit (WE.thenExit (WE.thenExit (WE.blockIs rfl (WE.next (WC.seq (WC.region ?_))))))
        refine WL.call rfl rfl rfl (fun za zh zC => wp_call (by kernel_rfl) rfl (hv0)) (wakes_any _) ?_
        rintro _ w78 ⟨rfl, hq77⟩
        refine WL.asg rfl rfl rfl rfl rfl (WL.nil (WE.next (WC.ret (WE.ret1 rfl rfl ?_))))
        have hb79 : Below w.heap.size w w78 := (bstep hb38 hq77)
        exact ⟨_, rfl, rfl, hb79⟩
end Go.Proofs.Ytibncmnmjhimeaa

/- Rows of things of several cells, how they lie in memory. -/
namespace Go.Proofs.Ytibncmnmjhimeaa
open Go.RowKit
/-- The row at 'a' holds the things 'l', 'k' cells each. -/
def IsRow {α : Type} (w : World) (k : Nat) (R : World → α → List Value → Prop) (l : List α) (a : Option Addr) : Prop :=
  ∀ i (hi : i < l.length), ∃ (b o : Nat) (cs : List Value), a = some ⟨b, o, none⟩ ∧ cs.length = k ∧ (∀ j, j < k → w.cell? ⟨b, o + i * k + j, none⟩ = cs[j]?) ∧ R w l[i] cs
section
variable {H : Type} {enc : TypeId × Value → H} {P : Program} {w : World} {base : Nat} {spare : Nat → Bool} {held : Bool}
/-- A slice opened: its things, one by one. -/
theorem open_row {α : Type} [Inhabited α] {t e : TypeId} {k : Nat} {fuel : Nat} {cs : List Value} {x : DataW H × List MemPlace} (ht : P.underlying t = some (.slice e)) (hC : P.cellsOf e = k) (hk : 0 < k)
    (h : DataW.trod enc P w base spare held fuel t cs = some x) {R : World → α → List Value → Prop} {S : α → DataW H → Prop}
    (hel : ∀ n cs x, DataW.trod enc P w base spare held n e cs = some x → ∃ a : α, R w a cs ∧ S a x.1) :
    ∃ (l : List α) (a : Option Addr) (cap : Nat) (ds sp : List (DataW H)), cs = [.slice a l.length cap] ∧ l.length ≤ cap ∧ cap ≤ maxLen ∧ IsRow w k R l a ∧ ds.length = l.length ∧ (x.1 = .nil ∧ l = [] ∧ ds = [] ∨ x.1 = .slice ds sp) ∧
      ∀ i (hi : i < l.length) (hd : i < ds.length), S l[i] ds[i] := by
  rcases DataW.trod_slice ht h with ⟨rfl, rfl⟩ | ⟨a, len, cap, elems, rest, m, rfl, rfl, rfl, hb, hlc, hcm, hlen, hat, _, _⟩
  · exact ⟨[], none, 0, [], [], rfl, Nat.le_refl _, Nat.zero_le _, fun i hi => absurd hi (by simp), rfl, .inl ⟨rfl, rfl, rfl⟩, fun i hi => absurd hi (by simp)⟩
  · have hspot : 0 < len → ∃ b o, a = ⟨b, o, none⟩ := by
      intro h0
      have hk := hat 0 h0
      rw [hC, List.getElem?_eq_getElem (by omega)] at hk
      obtain ⟨cs', h1, _⟩ := Option.bind_eq_some_iff.1 hk
      obtain ⟨_, hl', hcell⟩ := World.cells?_some h1
      have c0 := hcell 0 (by omega)
      rw [List.getElem?_eq_getElem (by omega)] at c0
      have := World.cell?_spot c0
      obtain ⟨b, o, spot⟩ := a
      exact ⟨b, o, by simpa [Addr.add] using this⟩
    have key : ∀ i, i < len → ∃ t : α, (∃ (b o : Nat) (cs : List Value), some a = some ⟨b, o, none⟩ ∧ cs.length = k ∧ (∀ j, j < k → w.cell? ⟨b, o + i * k + j, none⟩ = cs[j]?) ∧ R w t cs) ∧
        ∀ (hd : i < elems.length), S t elems[i].1 := by
      intro i hi
      have hk := hat i hi
      rw [hC, List.getElem?_eq_getElem (by omega)] at hk
      obtain ⟨cs', h1, h2⟩ := Option.bind_eq_some_iff.1 hk
      obtain ⟨t, hR, hS⟩ := hel _ _ _ h2
      obtain ⟨_, hl', hcell⟩ := World.cells?_some h1
      obtain ⟨b, o, rfl⟩ := hspot (by omega)
      refine ⟨t, ⟨b, o, cs', rfl, hl', fun j hj => ?_, hR⟩, fun _ => hS⟩
      have := hcell j hj
      rwa [add_plain2, add_plain2] at this
    obtain ⟨F, hF⟩ := Go.Deep.choose_lt key
    have hLL : ((List.range len).map F).length = len := by simp
    refine ⟨(List.range len).map F, some a, cap, elems.map (·.1), rest.map (·.1), by rw [hLL], by rw [hLL]; exact hlc, hcm, fun i hi => ?_, by rw [hLL]; simpa using hlen, .inr rfl, fun i hi hd => ?_⟩
    · have := (hF i (by simpa using hi)).1
      simpa using this
    · have := (hF i (by simpa using hi)).2 (by simpa using hd)
      simpa using this
end
end Go.Proofs.Ytibncmnmjhimeaa

/- What a law's statement asks behind its call, where the call answers true and leaves all that was there as it was. -/
namespace Go.Proofs.Ytibncmnmjhimeaa
open Go.ChangeShapes Go.WideShapes Go.ChangeAt Go.RowKit
section
variable {H : Type} {enc : TypeId × Value → H} {P : Program}
theorem trodAll_below (hl : laidOutB P = true) {W W' : World} (hb : Below W.heap.size W W') : ∀ {ts : List TypeId} {vs : List Value} {ds : List (DataW H)} {ps : List MemPlace},
    (∀ t ∈ ts, P.readableRec t = true ∧ t < P.types.size) → (∀ x ∈ ps, x.block < W.heap.size) → DataW.TrodAll enc P W 0 (fun _ => true) true ts vs ds ps →
    DataW.TrodAll enc P W' 0 (fun b => decide (b < W.heap.size)) true ts vs ds ps
  | [], [], [], _, _, _, h => h
  | t :: ts, v :: vs, d :: ds, ps, hr, hlt, ⟨p, q, h1, h2, e⟩ => by
    subst e
    exact ⟨p, q, Below.trod hl (hr t (by simp)).1 (hr t (by simp)).2 h1 hb (fun x hx => hlt x (by simp [hx])), trodAll_below hl hb (fun t ht => hr t (by simp [ht])) (fun x hx => hlt x (by simp [hx])) h2, rfl⟩
  | [], _ :: _, _, _, _, _, h => h.elim
  | [], [], _ :: _, _, _, _, h => h.elim
  | _ :: _, [], _, _, _, _, h => h.elim
  | _ :: _, _ :: _, [], _, _, _, h => h.elim
theorem law_post {f : Func} {s : ChangeSpec} {W W' : World} {args : Array Value} {ds gs : List (DataW H)} {before : List MemPlace} {tb : TypeId} (hl : laidOutB P = true) (hr : ∀ t ∈ f.params.toList, P.readableRec t = true ∧ t < P.types.size)
    (htb : P.underlying tb = some .bool) (hrt : f.resultTypes = #[tb]) (hv : s.vars = []) (hs : s.fn H ds = { results := [.lit (.bool true)], args := ds })
    (hW : DataW.Whole enc P f.params.toList s.vars false W args.toList ds gs before) (hb : Below W.heap.size W W') : s.post enc P f false true false false W args (.bool true) W' := by
  have hlt : ∀ p ∈ before, p.block < W.heap.size := fun p hp => hW.lt p hp
  have hW0 := hW
  obtain ⟨p, q, hA, hV, hpq, _, _⟩ := hW
  rw [hv] at hV
  obtain ⟨rfl, rfl⟩ := trodVars_none hV
  refine ⟨ds, [], before, [], p, [], hW0, ?_, ?_, ?_, hb.frame _, fun h => by cases h⟩
  · rw [List.append_nil, hs, hrt]
    exact trodAll_cons_mk (shut_bool htb _) trodAll_mk0
  · rw [List.append_nil, hs]
    refine trodAll_below hl hb hr (fun x hx => hlt x ?_) hA
    rw [hpq]; simp [hx]
  · rw [List.append_nil, hv]
    have : (s.fn H ds).vars = [] := by rw [hs]
    rw [this]
    rfl
end
end Go.Proofs.Ytibncmnmjhimeaa

/- Arguments of a law, opened: terms, integers, truth values; rows in general. -/
namespace Go.Proofs.Ytibncmnmjhimeaa
open Go.ChangeShapes Go.WideShapes Go.ChangeAt Go.RowKit
theorem own : ownKnob Try.prog.godebug = none := by kernel_rfl
theorem readable_all {P : Program} {ts : List TypeId} (h : (ts.all fun t => P.readableRec t && Nat.blt t P.types.size) = true) : ∀ t ∈ ts, P.readableRec t = true ∧ t < P.types.size := by
  intro t ht
  have := List.all_eq_true.1 h t ht
  simp only [Bool.and_eq_true, Nat.blt_eq] at this
  exact this
theorem bulk_mem {H : Type} {l : List (DataW H)} (hk : Rows.uptoSmall H l = true) {d : DataW H} (h : d ∈ l) : Rows.uptoBulk d ≤ 1048576 :=
  Nat.le_trans (bulkAll_le h) (of_decide_eq_true hk)
section
variable {H : Type} {enc : TypeId × Value → H} {w : World} {base : Nat} {spare : Nat → Bool} {held : Bool}
set_option maxRecDepth 100000 in
theorem arg_T {r : Reach} {b : Nat} {v : Value} {d : DataW H} {p : List MemPlace} (h : Value.okWide Try.prog w r b 24 v) (ht : DataW.Trod enc Try.prog w base spare held 24 v d p) :
    ∃ t : T, IsT w t v ∧ t.size ≤ Rows.uptoBulk d := by
  obtain ⟨cs, rfl, _⟩ := okWide_struct Try.underlying24 h
  obtain ⟨fuel, hf⟩ := ht
  obtain ⟨t, u, v, e, h1, h2⟩ := open_T _ _ _ hf
  have e' : cs = #[u, v] := by
    apply Array.toList_inj.1
    exact e
  subst e'
  exact ⟨t, h1, h2⟩
end
end Go.Proofs.Ytibncmnmjhimeaa

namespace Go.Proofs.Ytibncmnmjhimeaa
open Go.ChangeShapes Go.WideShapes Go.ChangeAt Go.RowKit
set_option linter.unnecessarySimpa false
local instance inhT_ArgsI : Inhabited T := ⟨.mk 0 []⟩
section
variable {H : Type} {enc : TypeId × Value → H} {w : World} {base : Nat} {spare : Nat → Bool} {held : Bool}
set_option maxRecDepth 100000 in
theorem open_Ts (fuel : Nat) (cs : List Value) (x : DataW H × List MemPlace) (h : DataW.trod enc Try.prog w base spare held fuel 22 cs = some x) :
    ∃ (l : List T) (a : Option Addr) (c : Nat), cs = [.slice a l.length c] ∧ l.length ≤ c ∧ c ≤ maxLen ∧ IsTs w l a 0 ∧ T.sizeL l ≤ Rows.uptoBulk x.1 := by
  obtain ⟨l, a, c, ds, sp, rfl, h1, h2, h3, h4, h5, h6⟩ := open_row Try.underlying22 (k := 2) (by kernel_rfl) (by omega) h (R := fun w t cs => ∃ u v, cs = [u, v] ∧ IsT w t (.agg #[u, v])) (S := fun t d => t.size ≤ Rows.uptoBulk d) (fun n cs x hx => by
    obtain ⟨t, u, v, h1, h2, h3⟩ := open_T _ _ _ hx
    exact ⟨t, ⟨u, v, h1, h2⟩, h3⟩)
  refine ⟨l, a, c, rfl, h1, h2, IsTs.of_at fun k hk => ?_, ?_⟩
  · obtain ⟨b, o, cs, e1, _, e3, u, v, rfl, e4⟩ := h3 k hk
    have c0 := e3 0 (by omega)
    have c1 := e3 1 (by omega)
    simp only [List.getElem?_cons_zero, List.getElem?_cons_succ, Nat.add_zero] at c0 c1
    exact ⟨b, o, u, v, e1, (by first | exact c0 | simpa using c0), (by first | exact c1 | simpa using c1), e4⟩
  · have := sizeL_le_bulk h4.symm h6
    rcases h5 with ⟨_, rfl, _⟩ | e
    · simp [T.sizeL]
    · rw [e]
      simp only [Rows.uptoBulk]
      omega
set_option maxRecDepth 100000 in
theorem arg_Ts {r : Reach} {b : Nat} {v : Value} {d : DataW H} {p : List MemPlace} (h : Value.okWide Try.prog w r b 22 v) (ht : DataW.Trod enc Try.prog w base spare held 22 v d p) :
    ∃ (l : List T) (a : Option Addr) (c : Nat), v = .slice a l.length c ∧ l.length ≤ c ∧ c ≤ maxLen ∧ IsTs w l a 0 ∧ T.sizeL l ≤ Rows.uptoBulk d := by
  obtain ⟨a, n, c, rfl⟩ := okWide_slice Try.underlying22 h
  obtain ⟨fuel, hf⟩ := ht
  obtain ⟨l, a', c', e, h1, h2, h3, h4⟩ := open_Ts _ _ _ hf
  have e' : Value.slice a n c = .slice a' l.length c' := by simpa [Value.cells] using e
  exact ⟨l, a', c', e', h1, h2, h3, h4⟩
end
end Go.Proofs.Ytibncmnmjhimeaa
