/- Loops over functions, and functions that hand out one thing after the other. -/
import Derived.Test.YtcmfjnadjddboaaMAa
import Derived.Test.YtcmfjnadjddboaaMAb

/- Copies of terms: the program and the document. -/
namespace Go.Proofs.Ytcmfjnadjddboaa
open Go.RowKit Go
set_option linter.unusedVariables false
set_option linter.unusedSimpArgs false

theorem len_le_sizeL (l : List T) : l.length ≤ T.sizeL l := by
  induction l with
  | nil => simp [T.sizeL]
  | cons t r ih => simp only [List.length_cons, T.sizeL]; have : 1 ≤ t.size := by rw [T.size_eq]; omega
                   omega
theorem take_snocT {l : List T} {k : Nat} (h : k < l.length) : l.take k ++ [tget l k] = l.take (k + 1) := by
  rw [List.take_succ_eq_append_getElem h, tget_lt h]
theorem size_at {l : List T} {k N : Nat} {f : Int} (h : k < l.length) (hz : (T.mk f l).size ≤ N) : (tget l k).size ≤ N := by
  have h1 := T.size_le_sizeL (tget_mem h)
  simp only [T.size] at hz
  omega
set_option maxRecDepth 100000 in
theorem rcopy_any : ∀ (t : T) (w : World) (v : Value), t.size ≤ 4294967296 → IsT w t v → Calls Try.prog 43 #[v] w (Ret fun v' w' => NewT w w' t v' ∧ Below w.heap.size w w') := by
  refine T.ind (fun f l ih => ?_)
  intro w v hz hv
  have hlen := len_le_sizeL l
  have hz' := hz
  simp only [T.size] at hz'
  obtain ⟨hf, a, c, rfl, hc, hm, hl⟩ := hv
  refine Calls.walk (l := [.agg #[.int .i64 f, .slice a l.length c]]) Try.func43 rfl (by kernel_rfl) ?_
  refine WC.sub (K' := [(0, .agg #[.int .i64 f, .slice a l.length c])]) ⟨rfl, trivial⟩ ?_
  refine WC.seq ?_
  refine WC.region ?_
  refine WL.step (post := NewBlk w 24 #[.int .i64 f, .slice a l.length c]) rfl rfl rfl (fun za zC zh zk => box_24 rfl (zh.ev rfl) (zk _ _ (newBlk _ _ _))) ?_
  rintro _ w1 ⟨g2, rfl, hg3, hB4, hb5, hz6⟩
  have hl7 : w.heap.size ≤ g2 := by omega
  refine WL.step (post := NewBlk w1 24 #[.int .i64 0, .slice none 0 0]) rfl rfl rfl (fun za zC zh zk => alloc_24 rfl (zk _ _ (newBlk _ _ _))) ?_
  rintro _ w8 ⟨g9, rfl, hg10, hB11, hb12, hz13⟩
  have hl14 : g2 < g9 := by have z1 := hB4.lt; omega
  have hl15 : w.heap.size ≤ g9 := by have z2 := (hb5).size; omega
  refine WL.nil (WE.sub (K' := [(0, .agg #[.int .i64 f, .slice a l.length c]), (1, .pointer (some ⟨g2, 0, none⟩)), (2, .pointer (some ⟨g9, 0, none⟩))]) ⟨rfl, rfl, rfl, trivial⟩ ?_)
  refine WE.next ?_
  refine WC.seq ?_
  refine WC.region ?_
  refine WL.val (.pointer (some ⟨g2, 0, none⟩)) rfl rfl rfl (fun za zC zh zk => fld_24_0 rfl (zh.ev rfl) zk) ?_
  have hB16 := hB4.below hb12
  refine WL.val (.int .i64 f) rfl rfl rfl (fun za zC zh zk => ld_3 rfl (zh.ev rfl) ((hB16.cell 0).trans rfl) zk) ?_
  refine WL.val (.agg #[.int .i64 f, .slice none 0 0]) rfl rfl rfl (fun za zC zh zk => build_24_0 rfl (zh.ev rfl) zk) ?_
  refine WL.step (post := NewBlk w8 24 #[.int .i64 0, .slice none 0 0]) rfl rfl rfl (fun za zC zh zk => alloc_24 rfl (zk _ _ (newBlk _ _ _))) ?_
  rintro _ w17 ⟨g18, rfl, hg19, hB20, hb21, hz22⟩
  have hl23 : g2 < g18 := by have z1 := hB16.lt; omega
  have hl24 : g9 < g18 := by have z1 := hB11.lt; omega
  have hb25 : Below w.heap.size w w8 := (bstep hb5 hb12)
  have hl26 : w.heap.size ≤ g18 := by have z2 := (hb25).size; omega
  refine WL.step (post := fun _ w' => Upd g18 w17 w' ∧ Blk w' g18 24 #[.int .i64 f, .slice none 0 0]) rfl rfl rfl (fun za zC zh zk => st_24 rfl (zh.ev rfl) (zh.ev rfl) rfl rfl hB20 (by first | decide | simp) (fun v => zk v _ ⟨(Upd.at_ _ _ _ _).trans (Upd.at_ _ _ _ _), (hB20.set_ 0 _).set_ 1 _⟩)) ?_
  rintro v30 w27 ⟨hu28, hB29⟩
  have hb31 : Below w.heap.size w w17 := (bstep hb25 hb21)
  have hb32 := upd_below hb31 hu28 (by omega)
  have hB33 := hB16.below hb21
  have hB34 := upd_blk hB33 hu28 (by omega)
  have hB35 := hB11.below hb21
  have hB36 := upd_blk hB35 hu28 (by omega)
  refine WL.nil (WE.sub (K' := [(0, .agg #[.int .i64 f, .slice a l.length c]), (1, .pointer (some ⟨g2, 0, none⟩)), (2, .pointer (some ⟨g9, 0, none⟩)), (3, .pointer (some ⟨g18, 0, none⟩))]) ⟨rfl, rfl, rfl, rfl, trivial⟩ ?_)
  refine WE.next ?_
  refine WC.seq ?_
  refine WC.seq ?_
  refine WC.region ?_
  refine WL.val (.int .i64 0) rfl rfl rfl (fun za zC zh zk => wp_assign rfl (zh.ev rfl) zk) ?_
  refine WL.nil (WE.sub (K' := [(0, .agg #[.int .i64 f, .slice a l.length c]), (1, .pointer (some ⟨g2, 0, none⟩)), (2, .pointer (some ⟨g9, 0, none⟩)), (3, .pointer (some ⟨g18, 0, none⟩)), (4, .int .i64 0)]) ⟨rfl, rfl, rfl, rfl, rfl, trivial⟩ ?_)
  refine WE.next ?_
  refine WC.block ?_
  have hl37 : g2 < w27.heap.size := by have z1 := hB34.lt; omega
  have hl38 : g9 < w27.heap.size := by have z1 := hB36.lt; omega
  have hl39 : g18 < w27.heap.size := by have z1 := hB29.lt; omega
  have hl40 : w.heap.size ≤ w27.heap.size := (hb32).size
  have hR41 : RowE eltT w27 w27.heap.size 24 none 0 0 [] := RowE.nil
  refine WC.loop (X := Option Addr × Nat × Nat) (fun x => l.length - x.2.2) (fun x => [(0, .agg #[.int .i64 f, .slice a l.length c]), (1, .pointer (some ⟨g2, 0, none⟩)), (2, .pointer (some ⟨g9, 0, none⟩)), (3, .pointer (some ⟨g18, 0, none⟩)), (4, .int .i64 (((x.2.2 : Nat) : Int)))]) (fun x w42 => x.2.2 ≤ l.length ∧ w27.heap.size ≤ (w42).heap.size ∧ Below w.heap.size w w42 ∧ Blk w42 g2 24 #[.int .i64 f, .slice a l.length c] ∧ Blk w42 g9 24 #[.int .i64 0, .slice none 0 0] ∧ Blk w42 g18 24 #[.int .i64 f, .slice x.1 x.2.2 x.2.1] ∧ RowE eltT (w42) w27.heap.size 24 x.1 x.2.1 x.2.2 (l.take x.2.2)) ((none, 0, 0)) ⟨rfl, rfl, rfl, rfl, rfl, trivial⟩ ?_ ?_
  · exact ⟨Nat.zero_le _, Nat.le_refl _, hb32, hB34, hB36, hB29, (by simpa using hR41)⟩
  · rintro x w42 ⟨hk, hBw, hb43, hB44, hB45, hB46, ho47⟩
    skip
    refine WC.seq ?_
    refine WC.seq ?_
    refine WC.region ?_
    refine WL.val (.int .i64 (((x.2.2 : Nat) : Int))) rfl rfl rfl (fun za zC zh zk => wp_move rfl (zh.ev rfl) zk) ?_
    refine WL.val (.pointer (some ⟨g2, 1, none⟩)) rfl rfl rfl (fun za zC zh zk => fld_24_1 rfl (zh.ev rfl) zk) ?_
    refine WL.val (.slice a l.length c) rfl rfl rfl (fun za zC zh zk => ld_22 rfl (zh.ev rfl) ((hB44.cell 1).trans rfl) zk) ?_
    refine WL.val (.int .i64 (((l.length : Nat) : Int))) rfl rfl rfl (fun za zC zh zk => len_22 rfl (zh.ev rfl) zk) ?_
    refine WL.val (.bool ((decide ((((x.2.2 : Nat) : Int) : Int) < (((l.length : Nat) : Int) : Int))))) rfl rfl rfl (fun za zC zh zk => lss_3 rfl (zh.ev rfl) (zh.ev rfl) zk) ?_
    refine WL.nil (WE.sub (K' := [(0, .agg #[.int .i64 f, .slice a l.length c]), (1, .pointer (some ⟨g2, 0, none⟩)), (2, .pointer (some ⟨g9, 0, none⟩)), (3, .pointer (some ⟨g18, 0, none⟩)), (4, .int .i64 (((x.2.2 : Nat) : Int))), (12, .bool ((decide ((((x.2.2 : Nat) : Int) : Int) < (((l.length : Nat) : Int) : Int)))))]) ⟨rfl, rfl, rfl, rfl, rfl, rfl, trivial⟩ ?_)
    refine WE.next ?_
    refine WC.cond rfl (fun h48 => ?_) (fun h48 => ?_)
    · have h48 : (((x.2.2 : Nat) : Int) : Int) < (((l.length : Nat) : Int) : Int) := by simpa using h48
      refine WC.skip ?_
      refine WE.next ?_
      refine WC.seq ?_
      refine WC.block ?_
      obtain ⟨b49, o50, A51, C52, ha53, hc54⟩ := IsTs.open hl
      have hSlt : ∀ b, (fun b => b = g18 ∨ (Value.slice x.1 x.2.2 x.2.1).ownBlock = some b) b → b < w42.heap.size := fun b h => h.elim (fun e => e ▸ hB46.lt) (fun h => (ho47.lt b h).2)
      have hSlo : ∀ b, (fun b => b = g18 ∨ (Value.slice x.1 x.2.2 x.2.1).ownBlock = some b) b → b = g18 ∨ (w27.heap.size ≤ b ∧ b < w42.heap.size) := fun b h => h.imp id (fun h => ho47.lt b h)
      have hBW : w27.heap.size ≤ w42.heap.size := by have z1 := hBw; omega
      have hlL : x.2.2 = ((l.take x.2.2)).length := ho47.len
      refine WC.tail2 (S := ((fun b => b = g18 ∨ (Value.slice x.1 x.2.2 x.2.1).ownBlock = some b))) [(true, .val (.pointer (some ⟨g18, 1, none⟩))), (true, .val (.slice x.1 x.2.2 x.2.1)), (true, .val (.pointer (some ⟨g2, 1, none⟩))), (true, .val (.slice a l.length c)), (true, .val (.int .i64 (((x.2.2 : Nat) : Int)))), (true, .val (.pointer (some ⟨b49, o50 + x.2.2 * 2, none⟩))), (true, .val (.agg #[.int .i64 ((tget l x.2.2).f), .slice ((A51 x.2.2)) ((tget l x.2.2).args.length) ((C52 x.2.2))])), (true, .mem (fun v w' => NewT w42 w' ((tget l x.2.2)) v) (fun v w w' hc h => InT.chg h hc (fun b hb hs => by have z := hSlt b hs; omega))), (true, .mem (fun v w' => OneRow eltT w42 24 ((tget l x.2.2)) v w') (fun v w w' hc h => h.chg hc hSlt)), (true, .val undef), (true, .val (.pointer (some ⟨g18, 1, none⟩))), (true, .val undef)] [(0, .agg #[.int .i64 f, .slice a l.length c]), (1, .pointer (some ⟨g2, 0, none⟩)), (2, .pointer (some ⟨g9, 0, none⟩)), (3, .pointer (some ⟨g18, 0, none⟩)), (4, .int .i64 (((x.2.2 : Nat) : Int))), (12, .bool ((decide ((((x.2.2 : Nat) : Int) : Int) < (((l.length : Nat) : Int) : Int)))))] 9 11 ((x.2.2 + 1)) 24 (fun ra rc wz => RowE eltT wz w27.heap.size 24 ra rc (x.2.2 + 1) ((l.take x.2.2 ++ [tget l x.2.2])) ∧ Blk wz g18 24 #[.int .i64 f, .slice x.1 x.2.2 x.2.1]) (fun ra rc wz => RowE eltT wz w27.heap.size 24 ra rc (x.2.2 + 1) ((l.take x.2.2 ++ [tget l x.2.2])) ∧ Blk wz g18 24 #[.int .i64 f, .slice ra ((x.2.2 + 1)) rc]) (by decide) (fun ra rc w w' hb h => ⟨h.1.below hb, h.2.below hb⟩) (fun ra rc w w' hb h => ⟨h.1.below hb, h.2.below hb⟩) ⟨rfl, rfl, rfl, rfl, rfl, rfl, trivial⟩ (by kernel_rfl) (by kernel_rfl) (by kernel_rfl) (by kernel_rfl) (by kernel_rfl) ?_ ?_
      · refine ⟨.inl ⟨rfl, true, .none rfl, (fun gg b h => by cases h), fun h w => optUndef h, fun zβ za zw zc => ?_⟩, ?_⟩
        · exact fld_24_1 rfl (zc.kn.ev rfl) ⟨_, rfl, Below.refl _ _, optDef zβ rfl⟩
        refine ⟨.inl ⟨rfl, true, .none rfl, (fun gg b h => by cases h), fun h w => optUndef h, fun zβ za zw zc => ?_⟩, ?_⟩
        · exact ld_22 rfl ((show za.eval (.tmp 15) = za.tmps.getD 15 undef from rfl).trans (optSVal (zc.dep 0 15 (by kernel_rfl) (by decide)) rfl rfl)) (bkeeps (zc.early (by kernel_rfl)) _ _ ((hB46.cell 1).trans rfl)) ⟨_, rfl, Below.refl _ _, optDef zβ rfl⟩
        refine ⟨.inl ⟨rfl, true, .none rfl, (fun gg b h => by cases h), fun h w => optUndef h, fun zβ za zw zc => ?_⟩, ?_⟩
        · exact fld_24_1 rfl (zc.kn.ev rfl) ⟨_, rfl, Below.refl _ _, optDef zβ rfl⟩
        refine ⟨.inl ⟨rfl, true, .none rfl, (fun gg b h => by cases h), fun h w => optUndef h, fun zβ za zw zc => ?_⟩, ?_⟩
        · exact ld_22 rfl ((show za.eval (.tmp 17) = za.tmps.getD 17 undef from rfl).trans (optSVal (zc.dep 2 17 (by kernel_rfl) (by decide)) rfl rfl)) (bkeeps (zc.early (by kernel_rfl)) _ _ ((hB44.cell 1).trans rfl)) ⟨_, rfl, Below.refl _ _, optDef zβ rfl⟩
        refine ⟨.inl ⟨rfl, true, .none rfl, (fun gg b h => by cases h), fun h w => optUndef h, fun zβ za zw zc => ?_⟩, ?_⟩
        · exact wp_move rfl (zc.kn.ev rfl) ⟨_, rfl, Below.refl _ _, optDef zβ rfl⟩
        refine ⟨.inl ⟨rfl, true, .none rfl, (fun gg b h => by cases h), fun h w => optUndef h, fun zβ za zw zc => ?_⟩, ?_⟩
        · exact ix_22 (k := x.2.2) rfl ((show za.eval (.tmp 18) = za.tmps.getD 18 undef from rfl).trans (optSVal (zc.dep 3 18 (by kernel_rfl) (by decide)) rfl rfl)) (ha53 x.2.2 (by first | omega | (simp; omega))) ((show za.eval (.tmp 19) = za.tmps.getD 19 undef from rfl).trans (optSVal (zc.dep 4 19 (by kernel_rfl) (by decide)) rfl rfl)) (by first | omega | (simp; omega)) ⟨_, rfl, Below.refl _ _, optDef zβ rfl⟩
        refine ⟨.inl ⟨rfl, true, .none rfl, (fun gg b h => by cases h), fun h w => optUndef h, fun zβ za zw zc => ?_⟩, ?_⟩
        · exact ld_24 rfl ((show za.eval (.tmp 20) = za.tmps.getD 20 undef from rfl).trans (optSVal (zc.dep 5 20 (by kernel_rfl) (by decide)) rfl rfl)) (bkeeps (bstep hb43 (zc.early (by kernel_rfl))) _ _ (hc54 x.2.2 (by first | omega | (simp; omega))).1) (bkeeps (bstep hb43 (zc.early (by kernel_rfl))) _ _ (hc54 x.2.2 (by first | omega | (simp; omega))).2.1) ⟨_, rfl, Below.refl _ _, optDef zβ rfl⟩
        refine ⟨.inl ⟨rfl, true, .none rfl, (fun gg b h => by cases h), fun h w => optUndef h, fun zβ za zw zc => ?_⟩, ?_⟩
        · exact wp_call (by kernel_rfl) rfl (hv1 ((show za.eval (.tmp 21) = za.tmps.getD 21 undef from rfl).trans (optSVal (zc.dep 6 21 (by kernel_rfl) (by decide)) rfl rfl))) (ih _ (tget_mem (by omega)) _ _ (size_at (by omega) hz) (IsT.below (bstep hb43 (zc.early (by kernel_rfl))) (hc54 x.2.2 (by first | omega | (simp; omega))).2.2)) (fun v w' h => ⟨v, rfl, h.2, optDef zβ (InT.mono (fun b hb _ => Nat.le_trans (zc.early (by kernel_rfl)).size hb) h.1)⟩)
        refine ⟨.inl ⟨rfl, true, .none rfl, (fun gg b h => by cases h), fun h w => optUndef h, fun zβ za zw zc => ?_⟩, ?_⟩
        · have zv := (optSMem (zc.dep 7 22 (by kernel_rfl) (by decide)) rfl rfl)
          obtain ⟨_, a1, c1, e1, _⟩ := zv.form
          rw [e1] at zv
          exact row_22_1 rfl ((show za.eval (.tmp 22) = za.tmps.getD 22 undef from rfl).trans e1) ⟨_, rfl, balloc _ _, optDef zβ ⟨_, _, rfl, zc.chg.size, Blk.new' rfl, _, _, rfl, zv.below (balloc _ _)⟩⟩
        refine ⟨.inr (.inl ⟨rfl, rfl, fun za zw zc => ?_⟩), ?_⟩
        · obtain ⟨g1, cs, e1, hg1, hB1, hin⟩ := (optSMem (zc.dep 8 23 (by kernel_rfl) (by decide)) rfl rfl)
          exact wp_appE (E := eltT) (size := 2) (bytes := 32) (z := .agg #[.int .i64 0, .slice none 0 0]) rfl Try.underlying22 (by kernel_rfl) rfl (by decide) rfl ((show za.eval (.tmp 16) = za.tmps.getD 16 undef from rfl).trans (optSVal (zc.dep 1 16 (by kernel_rfl) (by decide)) rfl rfl)) ((show za.eval (.tmp 23) = za.tmps.getD 23 undef from rfl).trans e1) (ho47.below zc.below) hB1 (eltT.mono (fun b hb _ => ⟨by omega, fun e => by have z := (ho47.lt b e).2; omega⟩) hin) (by omega) (by omega) (by have z := zc.below.size; omega) (fun ra rc w' h1 h2 _ => ⟨ra, rc, rfl, ⟨h1, chg_blk (hB46.below zc.below) h2 (fun e => by have z := (ho47.lt _ e).1; omega)⟩, h2.mono (fun b hb => .inr hb)⟩)
        refine ⟨.inl ⟨rfl, true, .none rfl, (fun gg b h => by cases h), fun h w => optUndef h, fun zβ za zw zc => ?_⟩, ?_⟩
        · exact fld_24_1 rfl (zc.kn.ev rfl) ⟨_, rfl, Below.refl _ _, optDef zβ rfl⟩
        refine ⟨.inr (.inr ⟨rfl, rfl, 24, by kernel_rfl, fun za zw ra rc zk zd zv zg => ?_⟩), ?_⟩
        · exact st_22 rfl ((show za.eval (.tmp 25) = za.tmps.getD 25 undef from rfl).trans (optSVal (zd 10 25 (by kernel_rfl) (by decide)) rfl rfl)) ((show za.eval (.tmp 24) = za.tmps.getD 24 undef from rfl).trans zv) zg.2 (by first | decide | simp) (fun v => ⟨v, rfl, ⟨zg.1.upd (Upd.at_ _ _ _ _) (by omega), zg.2.set_ 1 _⟩, .ofUpd (Upd.at_ _ _ _ _) (.inl rfl)⟩)
        exact trivial
      · intro za w55 ra58 rc59 zh zv hG56 hc57 zu
        have hb60 := chg_below hb43 hc57 (fun b hb => (fun h => by rcases hSlo _ h with h | h <;> omega))
        have hB61 := chg_blk hB44 hc57 (fun h => by rcases hSlo _ h with h | h <;> omega)
        have hB62 := chg_blk hB45 hc57 (fun h => by rcases hSlo _ h with h | h <;> omega)
        clear zu
        refine (show WE _ [(0, .agg #[.int .i64 f, .slice a l.length c]), (1, .pointer (some ⟨g2, 0, none⟩)), (2, .pointer (some ⟨g9, 0, none⟩)), (3, .pointer (some ⟨g18, 0, none⟩)), (4, .int .i64 (((x.2.2 : Nat) : Int))), (12, .bool ((decide ((((x.2.2 : Nat) : Int) : Int) < (((l.length : Nat) : Int) : Int)))))] w55 _ .normal from ?_) za (zh.sub ⟨rfl, rfl, rfl, rfl, rfl, rfl, trivial⟩)
        refine WE.blockNormal ?_
        refine WE.next ?_
        refine WC.region ?_
        refine WL.val (.int .i64 (((x.2.2 : Nat) : Int))) rfl rfl rfl (fun za zC zh zk => wp_move rfl (zh.ev rfl) zk) ?_
        refine WL.val (.int .i64 ((((x.2.2 + 1) : Nat) : Int))) rfl rfl rfl (fun za zC zh zk => addb_3 rfl (zh.ev rfl) (zh.ev rfl) (wrap_eq (by omega) (by omega) (by omega)) zk) ?_
        refine WL.val (.int .i64 ((((x.2.2 + 1) : Nat) : Int))) rfl rfl rfl (fun za zC zh zk => wp_assign rfl (zh.ev rfl) zk) ?_
        refine WL.nil (WE.sub (K' := [(0, .agg #[.int .i64 f, .slice a l.length c]), (1, .pointer (some ⟨g2, 0, none⟩)), (2, .pointer (some ⟨g9, 0, none⟩)), (3, .pointer (some ⟨g18, 0, none⟩)), (4, .int .i64 ((((x.2.2 + 1) : Nat) : Int))), (12, .bool ((decide ((((x.2.2 : Nat) : Int) : Int) < (((l.length : Nat) : Int) : Int)))))]) ⟨rfl, rfl, rfl, rfl, rfl, rfl, trivial⟩ ?_)
        refine WE.round ((ra58, rc59, x.2.2 + 1)) ⟨rfl, rfl, rfl, rfl, rfl, trivial⟩ ?_ ?_
        · exact ⟨by (try dsimp only at *); omega, (Nat.le_trans hBw hc57.size), hb60, hB61, hB62, hG56.2, (by rw [← take_snocT (by omega)]; exact hG56.1)⟩
        · dsimp only; omega
    · have h48 : ¬ ((((x.2.2 : Nat) : Int) : Int) < (((l.length : Nat) : Int) : Int)) := by simpa using h48
      refine WC.exit ?_
      refine WE.thenExit ?_
      refine WE.thenExit ?_
      refine WE.blockIs rfl ?_
      refine WE.next ?_
      refine WC.seq ?_
      refine WC.region ?_
      refine WL.val (.agg #[.int .i64 f, .slice x.1 x.2.2 x.2.1]) rfl rfl rfl (fun za zC zh zk => ld_24 rfl (zh.ev rfl) ((hB46.cell 0).trans rfl) ((hB46.cell 1).trans rfl) zk) ?_
      refine WL.step (post := fun _ w' => Upd g9 w42 w' ∧ Blk w' g9 24 #[.int .i64 f, .slice x.1 x.2.2 x.2.1]) rfl rfl rfl (fun za zC zh zk => st_24 rfl (zh.ev rfl) (zh.ev rfl) rfl rfl hB45 (by first | decide | simp) (fun v => zk v _ ⟨(Upd.at_ _ _ _ _).trans (Upd.at_ _ _ _ _), (hB45.set_ 0 _).set_ 1 _⟩)) ?_
      rintro v66 w63 ⟨hu64, hB65⟩
      have hb67 := upd_below hb43 hu64 (by omega)
      have hB68 := upd_blk hB44 hu64 (by omega)
      have hB69 := upd_blk hB46 hu64 (by omega)
      have ho70 := ho47.upd hu64 (by omega)
      refine WL.nil (WE.sub (K' := [(0, .agg #[.int .i64 f, .slice a l.length c]), (1, .pointer (some ⟨g2, 0, none⟩)), (2, .pointer (some ⟨g9, 0, none⟩)), (3, .pointer (some ⟨g18, 0, none⟩)), (4, .int .i64 (((x.2.2 : Nat) : Int))), (12, .bool ((decide ((((x.2.2 : Nat) : Int) : Int) < (((l.length : Nat) : Int) : Int)))))]) ⟨rfl, rfl, rfl, rfl, rfl, rfl, trivial⟩ ?_)
      refine WE.next ?_
      refine WC.ret ?_
      refine WE.retAny (v := .agg #[.int .i64 f, .slice x.1 x.2.2 x.2.1]) (fun za zh => ?_) ?_
      · have z0 : za.tmps[2]?.getD undef = .pointer (some ⟨g9, 0, none⟩) := by rw [← Array.getD_eq_getD_getElem?]; exact zh.knows 2 _ rfl
        have y0 : w63.cell? ⟨g9, 0, none⟩ = some (.int .i64 f) := ((hB65.cell 0).trans rfl)
        have y1 : w63.cell? ⟨g9, 1, none⟩ = some (.slice x.1 x.2.2 x.2.1) := ((hB65.cell 1).trans rfl)
        simp [results, Try.results43, z0, y0, y1, go_sem]
      · refine ⟨_, rfl, ?_, hb67⟩
        have z := ho70
        rw [List.take_of_length_le (by omega)] at z
        exact newT_row hf z (by omega)

set_option maxRecDepth 100000 in
theorem copy_any : ∀ (t : T) (w : World) (v : Value), t.size ≤ 4294967296 → IsT w t v → Calls Try.prog 34 #[v] w (Ret fun v' w' => NewT w w' t v' ∧ Below w.heap.size w w') := by
  refine T.ind (fun f l ih => ?_)
  intro w v hz hv
  have hlen := len_le_sizeL l
  have hz' := hz
  simp only [T.size] at hz'
  obtain ⟨hf, a, c, rfl, hc, hm, hl⟩ := hv
  refine Calls.walk (l := [.agg #[.int .i64 f, .slice a l.length c]]) Try.func34 rfl (by kernel_rfl) ?_
  refine WC.sub (K' := [(0, .agg #[.int .i64 f, .slice a l.length c])]) ⟨rfl, trivial⟩ ?_
  refine WC.seq ?_
  refine WC.region ?_
  refine WL.step (post := NewBlk w 24 #[.int .i64 f, .slice a l.length c]) rfl rfl rfl (fun za zC zh zk => box_24 rfl (zh.ev rfl) (zk _ _ (newBlk _ _ _))) ?_
  rintro _ w1 ⟨g2, rfl, hg3, hB4, hb5, hz6⟩
  have hl7 : w.heap.size ≤ g2 := by omega
  refine WL.step (post := NewBlk w1 24 #[.int .i64 0, .slice none 0 0]) rfl rfl rfl (fun za zC zh zk => alloc_24 rfl (zk _ _ (newBlk _ _ _))) ?_
  rintro _ w8 ⟨g9, rfl, hg10, hB11, hb12, hz13⟩
  have hl14 : g2 < g9 := by have z1 := hB4.lt; omega
  have hl15 : w.heap.size ≤ g9 := by have z2 := (hb5).size; omega
  refine WL.nil (WE.sub (K' := [(0, .agg #[.int .i64 f, .slice a l.length c]), (1, .pointer (some ⟨g2, 0, none⟩)), (2, .pointer (some ⟨g9, 0, none⟩))]) ⟨rfl, rfl, rfl, trivial⟩ ?_)
  refine WE.next ?_
  refine WC.seq ?_
  refine WC.region ?_
  refine WL.val (.pointer (some ⟨g2, 0, none⟩)) rfl rfl rfl (fun za zC zh zk => fld_24_0 rfl (zh.ev rfl) zk) ?_
  have hB16 := hB4.below hb12
  refine WL.val (.int .i64 f) rfl rfl rfl (fun za zC zh zk => ld_3 rfl (zh.ev rfl) ((hB16.cell 0).trans rfl) zk) ?_
  refine WL.val (.agg #[.int .i64 f, .slice none 0 0]) rfl rfl rfl (fun za zC zh zk => build_24_0 rfl (zh.ev rfl) zk) ?_
  refine WL.step (post := NewBlk w8 24 #[.int .i64 0, .slice none 0 0]) rfl rfl rfl (fun za zC zh zk => alloc_24 rfl (zk _ _ (newBlk _ _ _))) ?_
  rintro _ w17 ⟨g18, rfl, hg19, hB20, hb21, hz22⟩
  have hl23 : g2 < g18 := by have z1 := hB16.lt; omega
  have hl24 : g9 < g18 := by have z1 := hB11.lt; omega
  have hb25 : Below w.heap.size w w8 := (bstep hb5 hb12)
  have hl26 : w.heap.size ≤ g18 := by have z2 := (hb25).size; omega
  refine WL.step (post := fun _ w' => Upd g18 w17 w' ∧ Blk w' g18 24 #[.int .i64 f, .slice none 0 0]) rfl rfl rfl (fun za zC zh zk => st_24 rfl (zh.ev rfl) (zh.ev rfl) rfl rfl hB20 (by first | decide | simp) (fun v => zk v _ ⟨(Upd.at_ _ _ _ _).trans (Upd.at_ _ _ _ _), (hB20.set_ 0 _).set_ 1 _⟩)) ?_
  rintro v30 w27 ⟨hu28, hB29⟩
  have hb31 : Below w.heap.size w w17 := (bstep hb25 hb21)
  have hb32 := upd_below hb31 hu28 (by omega)
  have hB33 := hB16.below hb21
  have hB34 := upd_blk hB33 hu28 (by omega)
  have hB35 := hB11.below hb21
  have hB36 := upd_blk hB35 hu28 (by omega)
  refine WL.nil (WE.sub (K' := [(0, .agg #[.int .i64 f, .slice a l.length c]), (1, .pointer (some ⟨g2, 0, none⟩)), (2, .pointer (some ⟨g9, 0, none⟩)), (3, .pointer (some ⟨g18, 0, none⟩))]) ⟨rfl, rfl, rfl, rfl, trivial⟩ ?_)
  refine WE.next ?_
  refine WC.seq ?_
  refine WC.seq ?_
  refine WC.region ?_
  refine WL.val (.pointer (some ⟨g2, 1, none⟩)) rfl rfl rfl (fun za zC zh zk => fld_24_1 rfl (zh.ev rfl) zk) ?_
  refine WL.val (.slice a l.length c) rfl rfl rfl (fun za zC zh zk => ld_22 rfl (zh.ev rfl) ((hB34.cell 1).trans rfl) zk) ?_
  refine WL.val (.int .i64 (((l.length : Nat) : Int))) rfl rfl rfl (fun za zC zh zk => len_22 rfl (zh.ev rfl) zk) ?_
  refine WL.val (.bool ((decide ((0 : Int) < (((l.length : Nat) : Int) : Int))))) rfl rfl rfl (fun za zC zh zk => gtr_3 rfl (zh.ev rfl) (zh.ev rfl) zk) ?_
  refine WL.nil (WE.sub (K' := [(0, .agg #[.int .i64 f, .slice a l.length c]), (1, .pointer (some ⟨g2, 0, none⟩)), (2, .pointer (some ⟨g9, 0, none⟩)), (3, .pointer (some ⟨g18, 0, none⟩)), (12, .bool ((decide ((0 : Int) < (((l.length : Nat) : Int) : Int)))))]) ⟨rfl, rfl, rfl, rfl, rfl, trivial⟩ ?_)
  refine WE.next ?_
  refine WC.cond rfl (fun h37 => ?_) (fun h37 => ?_)
  · have h37 : (0 : Int) < (((l.length : Nat) : Int) : Int) := by simpa using h37
    refine WC.region ?_
    refine WL.val (.pointer (some ⟨g2, 1, none⟩)) rfl rfl rfl (fun za zC zh zk => fld_24_1 rfl (zh.ev rfl) zk) ?_
    refine WL.val (.slice a l.length c) rfl rfl rfl (fun za zC zh zk => ld_22 rfl (zh.ev rfl) ((hB34.cell 1).trans rfl) zk) ?_
    refine WL.val (.int .i64 (((l.length : Nat) : Int))) rfl rfl rfl (fun za zC zh zk => len_22 rfl (zh.ev rfl) zk) ?_
    refine WL.step (post := fun v w' => ∃ g, v = .slice (some ⟨g, 0, none⟩) l.length l.length ∧ w27.heap.size = g ∧ Blk w' g 24 (madeCells (Value.cells (.agg #[.int .i64 0, .slice none 0 0])) (l.length * 2)) ∧ Below w27.heap.size w27 w') rfl rfl rfl (fun za zC zh zk => wp_mkE (z := .agg #[.int .i64 0, .slice none 0 0]) (size := 2) (bytes := 32) Try.underlying22 (by kernel_rfl) (by decide) rfl (zh.ev rfl) (zh.ev rfl) (by omega) (zk _ _ ⟨_, rfl, rfl, Blk.new' rfl, balloc _ _⟩)) ?_
    rintro _ w38 ⟨g39, rfl, hg40, hB41, hb42⟩
    have hl44 : g2 < g39 := by have z1 := hB34.lt; omega
    have hl45 : g9 < g39 := by have z1 := hB36.lt; omega
    have hl46 : g18 < g39 := by have z1 := hB29.lt; omega
    have hl47 : w.heap.size ≤ g39 := by have z2 := (hb32).size; omega
    have hM43 : MRow eltT w38 g39 g39 24 l.length (madeCells (Value.cells (.agg #[.int .i64 0, .slice none 0 0])) (l.length * 2)).toList [] := MRow.startT hB41 (Nat.le_refl _)
    refine WL.val (.pointer (some ⟨g18, 1, none⟩)) rfl rfl rfl (fun za zC zh zk => fld_24_1 rfl (zh.ev rfl) zk) ?_
    have hB48 := hB29.below hb42
    refine WL.step (post := fun _ w' => Upd g18 w38 w' ∧ Blk w' g18 24 #[.int .i64 f, .slice ((some ⟨g39, 0, none⟩)) l.length l.length]) rfl rfl rfl (fun za zC zh zk => st_22 rfl (zh.ev rfl) (zh.ev rfl) hB48 (by first | decide | simp) (fun v => zk v _ ⟨Upd.at_ _ _ _ _, hB48.set_ 1 _⟩)) ?_
    rintro v52 w49 ⟨hu50, hB51⟩
    have hb53 : Below w.heap.size w w38 := (bstep hb32 hb42)
    have hb54 := upd_below hb53 hu50 (by omega)
    have hB55 := hB34.below hb42
    have hB56 := upd_blk hB55 hu50 (by omega)
    have hB57 := hB36.below hb42
    have hB58 := upd_blk hB57 hu50 (by omega)
    have ho59 := hM43.upd hu50 (by omega)
    refine WL.nil (WE.sub (K' := [(0, .agg #[.int .i64 f, .slice a l.length c]), (1, .pointer (some ⟨g2, 0, none⟩)), (2, .pointer (some ⟨g9, 0, none⟩)), (3, .pointer (some ⟨g18, 0, none⟩)), (12, .bool ((decide ((0 : Int) < (((l.length : Nat) : Int) : Int)))))]) ⟨rfl, rfl, rfl, rfl, rfl, trivial⟩ ?_)
    refine WE.next ?_
    refine WC.seq ?_
    refine WC.seq ?_
    refine WC.region ?_
    refine WL.val (.pointer (some ⟨g2, 1, none⟩)) rfl rfl rfl (fun za zC zh zk => fld_24_1 rfl (zh.ev rfl) zk) ?_
    refine WL.val (.slice a l.length c) rfl rfl rfl (fun za zC zh zk => ld_22 rfl (zh.ev rfl) ((hB56.cell 1).trans rfl) zk) ?_
    refine WL.val (.int .i64 (((l.length : Nat) : Int))) rfl rfl rfl (fun za zC zh zk => len_22 rfl (zh.ev rfl) zk) ?_
    refine WL.val (.int .i64 0) rfl rfl rfl (fun za zC zh zk => wp_move rfl (zh.ev rfl) zk) ?_
    refine WL.nil (WE.sub (K' := [(0, .agg #[.int .i64 f, .slice a l.length c]), (1, .pointer (some ⟨g2, 0, none⟩)), (2, .pointer (some ⟨g9, 0, none⟩)), (3, .pointer (some ⟨g18, 0, none⟩)), (12, .bool ((decide ((0 : Int) < (((l.length : Nat) : Int) : Int))))), (19, .slice a l.length c), (20, .int .i64 (((l.length : Nat) : Int))), (21, .int .i64 0)]) ⟨rfl, rfl, rfl, rfl, rfl, rfl, rfl, rfl, trivial⟩ ?_)
    refine WE.next ?_
    refine WC.block ?_
    refine WC.loop (X := Nat) (fun k => l.length - k) (fun k => [(0, .agg #[.int .i64 f, .slice a l.length c]), (1, .pointer (some ⟨g2, 0, none⟩)), (2, .pointer (some ⟨g9, 0, none⟩)), (3, .pointer (some ⟨g18, 0, none⟩)), (12, .bool ((decide ((0 : Int) < (((l.length : Nat) : Int) : Int))))), (19, .slice a l.length c), (20, .int .i64 (((l.length : Nat) : Int))), (21, .int .i64 (((k : Nat) : Int)))]) (fun k w60 => k ≤ l.length ∧ Below w.heap.size w w60 ∧ Blk w60 g2 24 #[.int .i64 f, .slice a l.length c] ∧ Blk w60 g9 24 #[.int .i64 0, .slice none 0 0] ∧ Blk w60 g18 24 #[.int .i64 f, .slice ((some ⟨g39, 0, none⟩)) l.length l.length] ∧ MRow eltT (w60) g39 g39 24 l.length (madeCells (Value.cells (.agg #[.int .i64 0, .slice none 0 0])) (l.length * 2)).toList (l.take k)) 0 ⟨rfl, rfl, rfl, rfl, rfl, rfl, rfl, rfl, trivial⟩ ?_ ?_
    · exact ⟨Nat.zero_le _, hb54, hB56, hB58, hB51, ho59⟩
    · rintro k w60 ⟨hk, hb61, hB62, hB63, hB64, ho65⟩
      have hgl := ho65.lt
      refine WC.seq ?_
      refine WC.region ?_
      refine WL.val (.bool ((decide ((((k : Nat) : Int) : Int) < (((l.length : Nat) : Int) : Int))))) rfl rfl rfl (fun za zC zh zk => lss_3 rfl (zh.ev rfl) (zh.ev rfl) zk) ?_
      refine WL.nil (WE.sub (K' := [(0, .agg #[.int .i64 f, .slice a l.length c]), (1, .pointer (some ⟨g2, 0, none⟩)), (2, .pointer (some ⟨g9, 0, none⟩)), (3, .pointer (some ⟨g18, 0, none⟩)), (12, .bool ((decide ((0 : Int) < (((l.length : Nat) : Int) : Int))))), (19, .slice a l.length c), (20, .int .i64 (((l.length : Nat) : Int))), (21, .int .i64 (((k : Nat) : Int))), (22, .bool ((decide ((((k : Nat) : Int) : Int) < (((l.length : Nat) : Int) : Int)))))]) ⟨rfl, rfl, rfl, rfl, rfl, rfl, rfl, rfl, rfl, trivial⟩ ?_)
      refine WE.next ?_
      refine WC.seq ?_
      refine WC.cond rfl (fun h66 => ?_) (fun h66 => ?_)
      · have h66 : (((k : Nat) : Int) : Int) < (((l.length : Nat) : Int) : Int) := by simpa using h66
        refine WC.skip ?_
        refine WE.next ?_
        refine WC.seq ?_
        refine WC.block ?_
        refine WC.seq ?_
        refine WC.region ?_
        refine WL.val (.int .i64 (((k : Nat) : Int))) rfl rfl rfl (fun za zC zh zk => wp_move rfl (zh.ev rfl) zk) ?_
        obtain ⟨b67, o68, A69, C70, ha71, hc72⟩ := IsTs.open hl
        refine WL.val (.pointer (some ⟨b67, o68 + k * 2, none⟩)) rfl rfl rfl (fun za zC zh zk => ix_22 (k := k) rfl (zh.ev rfl) (ha71 k (by first | omega | (simp; omega))) (zh.ev rfl) (by first | omega | (simp; omega)) zk) ?_
        refine WL.val (.agg #[.int .i64 ((tget l k).f), .slice ((A69 k)) ((tget l k).args.length) ((C70 k))]) rfl rfl rfl (fun za zC zh zk => ld_24 rfl (zh.ev rfl) (bkeeps hb61 _ _ (hc72 k (by first | omega | (simp; omega))).1) (bkeeps hb61 _ _ (hc72 k (by first | omega | (simp; omega))).2.1) zk) ?_
        refine WL.step (post := NewBlk w60 24 #[.int .i64 0, .slice none 0 0]) rfl rfl rfl (fun za zC zh zk => alloc_24 rfl (zk _ _ (newBlk _ _ _))) ?_
        rintro _ w73 ⟨g74, rfl, hg75, hB76, hb77, hz78⟩
        have hl79 : g2 < g74 := by have z1 := hB62.lt; omega
        have hl80 : g9 < g74 := by have z1 := hB63.lt; omega
        have hl81 : g18 < g74 := by have z1 := hB64.lt; omega
        have hl82 : w.heap.size ≤ g74 := by have z2 := (hb61).size; omega
        have hl83 : w60.heap.size ≤ g74 := by omega
        refine WL.val (.int .i64 (((k : Nat) : Int))) rfl rfl rfl (fun za zC zh zk => wp_assign rfl (zh.ev rfl) zk) ?_
        refine WL.step (post := fun _ w' => Upd g74 w73 w' ∧ Blk w' g74 24 #[.int .i64 ((tget l k).f), .slice ((A69 k)) ((tget l k).args.length) ((C70 k))]) rfl rfl rfl (fun za zC zh zk => st_24 rfl (zh.ev rfl) (zh.ev rfl) rfl rfl hB76 (by first | decide | simp) (fun v => zk v _ ⟨(Upd.at_ _ _ _ _).trans (Upd.at_ _ _ _ _), (hB76.set_ 0 _).set_ 1 _⟩)) ?_
        rintro v87 w84 ⟨hu85, hB86⟩
        have hb88 : Below w.heap.size w w73 := (bstep hb61 hb77)
        have hb89 := upd_below hb88 hu85 (by omega)
        have hb90 := upd_below hb77 hu85 (by omega)
        have hB91 := hB62.below hb77
        have hB92 := upd_blk hB91 hu85 (by omega)
        have hB93 := hB63.below hb77
        have hB94 := upd_blk hB93 hu85 (by omega)
        have hB95 := hB64.below hb77
        have hB96 := upd_blk hB95 hu85 (by omega)
        refine WL.nil (WE.sub (K' := [(0, .agg #[.int .i64 f, .slice a l.length c]), (1, .pointer (some ⟨g2, 0, none⟩)), (2, .pointer (some ⟨g9, 0, none⟩)), (3, .pointer (some ⟨g18, 0, none⟩)), (4, .int .i64 (((k : Nat) : Int))), (5, .pointer (some ⟨g74, 0, none⟩)), (12, .bool ((decide ((0 : Int) < (((l.length : Nat) : Int) : Int))))), (19, .slice a l.length c), (20, .int .i64 (((l.length : Nat) : Int))), (21, .int .i64 (((k : Nat) : Int))), (22, .bool ((decide ((((k : Nat) : Int) : Int) < (((l.length : Nat) : Int) : Int)))))]) ⟨rfl, rfl, rfl, rfl, rfl, rfl, rfl, rfl, rfl, rfl, rfl, trivial⟩ ?_)
        refine WE.next ?_
        have ho97 := ho65.below hb90
        have hSlt : ∀ b, (fun b => b = g39) b → b < w84.heap.size := fun b e => e ▸ ho97.lt
        have hgl : g39 < w84.heap.size := ho97.lt
        refine WC.tail1 (S := ((fun b => b = g39))) [(true, .val (.pointer (some ⟨g18, 1, none⟩))), (true, .val (.slice ((some ⟨g39, 0, none⟩)) l.length l.length)), (true, .val (.int .i64 (((k : Nat) : Int)))), (true, .val (.agg #[.int .i64 ((tget l k).f), .slice ((A69 k)) ((tget l k).args.length) ((C70 k))])), (true, .mem (fun v w' => NewT w84 w' ((tget l k)) v) (fun v w w' hc h => InT.chg h hc (fun b hb hs => by have z := hSlt b hs; omega))), (true, .val (.pointer (some ⟨g39, 0 + k * 2, none⟩))), (true, .val undef)] [(0, .agg #[.int .i64 f, .slice a l.length c]), (1, .pointer (some ⟨g2, 0, none⟩)), (2, .pointer (some ⟨g9, 0, none⟩)), (3, .pointer (some ⟨g18, 0, none⟩)), (4, .int .i64 (((k : Nat) : Int))), (5, .pointer (some ⟨g74, 0, none⟩)), (12, .bool ((decide ((0 : Int) < (((l.length : Nat) : Int) : Int))))), (19, .slice a l.length c), (20, .int .i64 (((l.length : Nat) : Int))), (21, .int .i64 (((k : Nat) : Int))), (22, .bool ((decide ((((k : Nat) : Int) : Int) < (((l.length : Nat) : Int) : Int)))))] 6 (fun wz => MRow eltT wz g39 g39 24 l.length (madeCells (Value.cells (.agg #[.int .i64 0, .slice none 0 0])) (l.length * 2)).toList ((l.take k ++ [tget l k]))) (fun w w' hb h => h.below hb) ⟨rfl, rfl, rfl, rfl, rfl, rfl, rfl, rfl, rfl, rfl, rfl, trivial⟩ (by kernel_rfl) (by kernel_rfl) (by kernel_rfl) (by kernel_rfl) ?_ ?_
        · refine ⟨.inl ⟨rfl, true, .none rfl, (fun gg b h => by cases h), fun h w => optUndef h, fun zβ za zw zc => ?_⟩, ?_⟩
          · exact fld_24_1 rfl (zc.kn.ev rfl) ⟨_, rfl, Below.refl _ _, optDef zβ rfl⟩
          refine ⟨.inl ⟨rfl, true, .none rfl, (fun gg b h => by cases h), fun h w => optUndef h, fun zβ za zw zc => ?_⟩, ?_⟩
          · exact ld_22 rfl ((show za.eval (.tmp 26) = za.tmps.getD 26 undef from rfl).trans (optSVal (zc.dep 0 26 (by kernel_rfl) (by decide)) rfl rfl)) (bkeeps (zc.early (by kernel_rfl)) _ _ ((hB96.cell 1).trans rfl)) ⟨_, rfl, Below.refl _ _, optDef zβ rfl⟩
          refine ⟨.inl ⟨rfl, true, .none rfl, (fun gg b h => by cases h), fun h w => optUndef h, fun zβ za zw zc => ?_⟩, ?_⟩
          · exact wp_move rfl (zc.kn.ev rfl) ⟨_, rfl, Below.refl _ _, optDef zβ rfl⟩
          refine ⟨.inl ⟨rfl, true, .none rfl, (fun gg b h => by cases h), fun h w => optUndef h, fun zβ za zw zc => ?_⟩, ?_⟩
          · exact ld_24 rfl (zc.kn.ev rfl) (bkeeps (zc.early (by kernel_rfl)) _ _ ((hB86.cell 0).trans rfl)) (bkeeps (zc.early (by kernel_rfl)) _ _ ((hB86.cell 1).trans rfl)) ⟨_, rfl, Below.refl _ _, optDef zβ rfl⟩
          refine ⟨.inl ⟨rfl, true, .none rfl, (fun gg b h => by cases h), fun h w => optUndef h, fun zβ za zw zc => ?_⟩, ?_⟩
          · exact wp_call (by kernel_rfl) rfl (hv1 ((show za.eval (.tmp 29) = za.tmps.getD 29 undef from rfl).trans (optSVal (zc.dep 3 29 (by kernel_rfl) (by decide)) rfl rfl))) (ih _ (tget_mem (by omega)) _ _ (size_at (by omega) hz) (IsT.below (bstep hb89 (zc.early (by kernel_rfl))) (hc72 k (by first | omega | (simp; omega))).2.2)) (fun v w' h => ⟨v, rfl, h.2, optDef zβ (InT.mono (fun b hb _ => Nat.le_trans (zc.early (by kernel_rfl)).size hb) h.1)⟩)
          refine ⟨.inl ⟨rfl, true, .none rfl, (fun gg b h => by cases h), fun h w => optUndef h, fun zβ za zw zc => ?_⟩, ?_⟩
          · exact ix_22 (k := k) rfl ((show za.eval (.tmp 27) = za.tmps.getD 27 undef from rfl).trans (optSVal (zc.dep 1 27 (by kernel_rfl) (by decide)) rfl rfl)) rfl ((show za.eval (.tmp 28) = za.tmps.getD 28 undef from rfl).trans (optSVal (zc.dep 2 28 (by kernel_rfl) (by decide)) rfl rfl)) (by first | omega | (simp; omega)) ⟨_, rfl, Below.refl _ _, optDef zβ rfl⟩
          refine ⟨.inr ⟨rfl, rfl, fun za zw zc => ?_⟩, ?_⟩
          · have zv := (optSMem (zc.dep 4 30 (by kernel_rfl) (by decide)) rfl rfl)
            obtain ⟨_, a1, c1, e1, _⟩ := zv.form
            rw [e1] at zv
            have zm := ho97.below zc.below
            obtain ⟨cs, hB, hsz⟩ := zm.blkT (k := k) (by simp; omega) (by omega)
            exact st_24 rfl ((show za.eval (.tmp 31) = za.tmps.getD 31 undef from rfl).trans (optSVal (zc.dep 5 31 (by kernel_rfl) (by decide)) rfl rfl)) ((show za.eval (.tmp 30) = za.tmps.getD 30 undef from rfl).trans e1) rfl rfl hB hsz (fun v => ⟨v, rfl, zm.storeT (k := k) (by simp; omega) (by omega) (zv.mono (fun b hb _ => by (try dsimp only at *); omega)), .ofUpd ((Upd.at_ _ _ _ _).trans (Upd.at_ _ _ _ _)) rfl⟩)
          exact trivial
        · intro za w98 zh hG99 hc100 zu
          have hb101 := chg_below hb89 hc100 (fun b hb => (by (try dsimp only at *); omega))
          have hB102 := chg_blk hB92 hc100 (by (try dsimp only at *); omega)
          have hB103 := chg_blk hB94 hc100 (by (try dsimp only at *); omega)
          have hB104 := chg_blk hB96 hc100 (by (try dsimp only at *); omega)
          have hB105 := chg_blk hB86 hc100 (by (try dsimp only at *); omega)
          clear zu
          refine (show WE _ [(0, .agg #[.int .i64 f, .slice a l.length c]), (1, .pointer (some ⟨g2, 0, none⟩)), (2, .pointer (some ⟨g9, 0, none⟩)), (3, .pointer (some ⟨g18, 0, none⟩)), (4, .int .i64 (((k : Nat) : Int))), (5, .pointer (some ⟨g74, 0, none⟩)), (12, .bool ((decide ((0 : Int) < (((l.length : Nat) : Int) : Int))))), (19, .slice a l.length c), (20, .int .i64 (((l.length : Nat) : Int))), (21, .int .i64 (((k : Nat) : Int))), (22, .bool ((decide ((((k : Nat) : Int) : Int) < (((l.length : Nat) : Int) : Int)))))] w98 _ .normal from ?_) za (zh.sub ⟨rfl, rfl, rfl, rfl, rfl, rfl, rfl, rfl, rfl, rfl, rfl, trivial⟩)
          refine WE.blockNormal ?_
          refine WE.next ?_
          refine WC.region ?_
          refine WL.val (.int .i64 ((((k + 1) : Nat) : Int))) rfl rfl rfl (fun za zC zh zk => addb_3 rfl (zh.ev rfl) (zh.ev rfl) (wrap_eq (by omega) (by omega) (by omega)) zk) ?_
          refine WL.val (.int .i64 ((((k + 1) : Nat) : Int))) rfl rfl rfl (fun za zC zh zk => wp_move rfl (zh.ev rfl) zk) ?_
          refine WL.nil (WE.sub (K' := [(0, .agg #[.int .i64 f, .slice a l.length c]), (1, .pointer (some ⟨g2, 0, none⟩)), (2, .pointer (some ⟨g9, 0, none⟩)), (3, .pointer (some ⟨g18, 0, none⟩)), (4, .int .i64 (((k : Nat) : Int))), (5, .pointer (some ⟨g74, 0, none⟩)), (12, .bool ((decide ((0 : Int) < (((l.length : Nat) : Int) : Int))))), (19, .slice a l.length c), (20, .int .i64 (((l.length : Nat) : Int))), (21, .int .i64 ((((k + 1) : Nat) : Int))), (22, .bool ((decide ((((k : Nat) : Int) : Int) < (((l.length : Nat) : Int) : Int)))))]) ⟨rfl, rfl, rfl, rfl, rfl, rfl, rfl, rfl, rfl, rfl, rfl, trivial⟩ ?_)
          refine WE.round (k + 1) ⟨rfl, rfl, rfl, rfl, rfl, rfl, rfl, rfl, trivial⟩ ?_ ?_
          · exact ⟨by omega, hb101, hB102, hB103, hB104, (by rw [← take_snocT (by omega)]; exact hG99)⟩
          · omega
      · have h66 : ¬ ((((k : Nat) : Int) : Int) < (((l.length : Nat) : Int) : Int)) := by simpa using h66
        refine WC.exit ?_
        refine WE.thenExit ?_
        refine WE.thenExit ?_
        refine WE.blockIs rfl ?_
        refine WE.next ?_
        refine WC.seq ?_
        refine WC.region ?_
        refine WL.val (.agg #[.int .i64 f, .slice ((some ⟨g39, 0, none⟩)) l.length l.length]) rfl rfl rfl (fun za zC zh zk => ld_24 rfl (zh.ev rfl) ((hB64.cell 0).trans rfl) ((hB64.cell 1).trans rfl) zk) ?_
        refine WL.step (post := fun _ w' => Upd g9 w60 w' ∧ Blk w' g9 24 #[.int .i64 f, .slice ((some ⟨g39, 0, none⟩)) l.length l.length]) rfl rfl rfl (fun za zC zh zk => st_24 rfl (zh.ev rfl) (zh.ev rfl) rfl rfl hB63 (by first | decide | simp) (fun v => zk v _ ⟨(Upd.at_ _ _ _ _).trans (Upd.at_ _ _ _ _), (hB63.set_ 0 _).set_ 1 _⟩)) ?_
        rintro v109 w106 ⟨hu107, hB108⟩
        have hb110 := upd_below hb61 hu107 (by omega)
        have hB111 := upd_blk hB62 hu107 (by omega)
        have hB112 := upd_blk hB64 hu107 (by omega)
        have ho113 := ho65.upd hu107 (by omega)
        refine WL.nil (WE.sub (K' := [(0, .agg #[.int .i64 f, .slice a l.length c]), (1, .pointer (some ⟨g2, 0, none⟩)), (2, .pointer (some ⟨g9, 0, none⟩)), (3, .pointer (some ⟨g18, 0, none⟩)), (12, .bool ((decide ((0 : Int) < (((l.length : Nat) : Int) : Int))))), (19, .slice a l.length c), (20, .int .i64 (((l.length : Nat) : Int))), (21, .int .i64 (((k : Nat) : Int))), (22, .bool ((decide ((((k : Nat) : Int) : Int) < (((l.length : Nat) : Int) : Int)))))]) ⟨rfl, rfl, rfl, rfl, rfl, rfl, rfl, rfl, rfl, trivial⟩ ?_)
        refine WE.next ?_
        refine WC.ret ?_
        refine WE.retAny (v := .agg #[.int .i64 f, .slice ((some ⟨g39, 0, none⟩)) l.length l.length]) (fun za zh => ?_) ?_
        · have z0 : za.tmps[2]?.getD undef = .pointer (some ⟨g9, 0, none⟩) := by rw [← Array.getD_eq_getD_getElem?]; exact zh.knows 2 _ rfl
          have y0 : w106.cell? ⟨g9, 0, none⟩ = some (.int .i64 f) := ((hB108.cell 0).trans rfl)
          have y1 : w106.cell? ⟨g9, 1, none⟩ = some (.slice ((some ⟨g39, 0, none⟩)) l.length l.length) := ((hB108.cell 1).trans rfl)
          simp [results, Try.results34, z0, y0, y1, go_sem]
        · have z := ho113
          rw [List.take_of_length_le (by omega)] at z
          have hgz := (hb110).size
          exact ⟨_, rfl, newT_mk hf rfl (Nat.le_refl _) (by unfold maxLen; omega) (z.inRow.mono (by decide) (fun b hb _ => by omega)), hb110⟩
  · have h37 : ¬ ((0 : Int) < (((l.length : Nat) : Int) : Int)) := by simpa using h37
    refine WC.skip ?_
    refine WE.next ?_
    refine WC.seq ?_
    refine WC.seq ?_
    refine WC.region ?_
    refine WL.val (.pointer (some ⟨g2, 1, none⟩)) rfl rfl rfl (fun za zC zh zk => fld_24_1 rfl (zh.ev rfl) zk) ?_
    refine WL.val (.slice a l.length c) rfl rfl rfl (fun za zC zh zk => ld_22 rfl (zh.ev rfl) ((hB34.cell 1).trans rfl) zk) ?_
    refine WL.val (.int .i64 (((l.length : Nat) : Int))) rfl rfl rfl (fun za zC zh zk => len_22 rfl (zh.ev rfl) zk) ?_
    refine WL.val (.int .i64 0) rfl rfl rfl (fun za zC zh zk => wp_move rfl (zh.ev rfl) zk) ?_
    refine WL.nil (WE.sub (K' := [(0, .agg #[.int .i64 f, .slice a l.length c]), (1, .pointer (some ⟨g2, 0, none⟩)), (2, .pointer (some ⟨g9, 0, none⟩)), (3, .pointer (some ⟨g18, 0, none⟩)), (12, .bool ((decide ((0 : Int) < (((l.length : Nat) : Int) : Int))))), (19, .slice a l.length c), (20, .int .i64 (((l.length : Nat) : Int))), (21, .int .i64 0)]) ⟨rfl, rfl, rfl, rfl, rfl, rfl, rfl, rfl, trivial⟩ ?_)
    refine WE.next ?_
    refine WC.block ?_
    refine WC.loop (X := Unit) (fun _ => 0) (fun _ => [(0, .agg #[.int .i64 f, .slice a l.length c]), (1, .pointer (some ⟨g2, 0, none⟩)), (2, .pointer (some ⟨g9, 0, none⟩)), (3, .pointer (some ⟨g18, 0, none⟩)), (12, .bool ((decide ((0 : Int) < (((l.length : Nat) : Int) : Int))))), (19, .slice a l.length c), (20, .int .i64 (((l.length : Nat) : Int))), (21, .int .i64 0)]) (fun _ w114 => True ∧ Below w.heap.size w w114 ∧ Blk w114 g2 24 #[.int .i64 f, .slice a l.length c] ∧ Blk w114 g9 24 #[.int .i64 0, .slice none 0 0] ∧ Blk w114 g18 24 #[.int .i64 f, .slice none 0 0]) (()) ⟨rfl, rfl, rfl, rfl, rfl, rfl, rfl, rfl, trivial⟩ ?_ ?_
    · exact ⟨trivial, hb32, hB34, hB36, hB29⟩
    · rintro _ w114 ⟨_, hb115, hB116, hB117, hB118⟩
      refine WC.seq ?_
      refine WC.region ?_
      refine WL.val (.bool ((decide ((0 : Int) < (((l.length : Nat) : Int) : Int))))) rfl rfl rfl (fun za zC zh zk => lss_3 rfl (zh.ev rfl) (zh.ev rfl) zk) ?_
      refine WL.nil (WE.sub (K' := [(0, .agg #[.int .i64 f, .slice a l.length c]), (1, .pointer (some ⟨g2, 0, none⟩)), (2, .pointer (some ⟨g9, 0, none⟩)), (3, .pointer (some ⟨g18, 0, none⟩)), (12, .bool ((decide ((0 : Int) < (((l.length : Nat) : Int) : Int))))), (19, .slice a l.length c), (20, .int .i64 (((l.length : Nat) : Int))), (21, .int .i64 0), (22, .bool ((decide ((0 : Int) < (((l.length : Nat) : Int) : Int)))))]) ⟨rfl, rfl, rfl, rfl, rfl, rfl, rfl, rfl, rfl, trivial⟩ ?_)
      refine WE.next ?_
      refine WC.seq ?_
      refine WC.condF rfl (decide_eq_false (by omega)) ?_
      refine WC.exit ?_
      refine WE.thenExit ?_
      refine WE.thenExit ?_
      refine WE.blockIs rfl ?_
      refine WE.next ?_
      refine WC.seq ?_
      refine WC.region ?_
      refine WL.val (.agg #[.int .i64 f, .slice none 0 0]) rfl rfl rfl (fun za zC zh zk => ld_24 rfl (zh.ev rfl) ((hB118.cell 0).trans rfl) ((hB118.cell 1).trans rfl) zk) ?_
      refine WL.step (post := fun _ w' => Upd g9 w114 w' ∧ Blk w' g9 24 #[.int .i64 f, .slice none 0 0]) rfl rfl rfl (fun za zC zh zk => st_24 rfl (zh.ev rfl) (zh.ev rfl) rfl rfl hB117 (by first | decide | simp) (fun v => zk v _ ⟨(Upd.at_ _ _ _ _).trans (Upd.at_ _ _ _ _), (hB117.set_ 0 _).set_ 1 _⟩)) ?_
      rintro v122 w119 ⟨hu120, hB121⟩
      have hb123 := upd_below hb115 hu120 (by omega)
      have hB124 := upd_blk hB116 hu120 (by omega)
      have hB125 := upd_blk hB118 hu120 (by omega)
      refine WL.nil (WE.sub (K' := [(0, .agg #[.int .i64 f, .slice a l.length c]), (1, .pointer (some ⟨g2, 0, none⟩)), (2, .pointer (some ⟨g9, 0, none⟩)), (3, .pointer (some ⟨g18, 0, none⟩)), (12, .bool ((decide ((0 : Int) < (((l.length : Nat) : Int) : Int))))), (19, .slice a l.length c), (20, .int .i64 (((l.length : Nat) : Int))), (21, .int .i64 0), (22, .bool ((decide ((0 : Int) < (((l.length : Nat) : Int) : Int)))))]) ⟨rfl, rfl, rfl, rfl, rfl, rfl, rfl, rfl, rfl, trivial⟩ ?_)
      refine WE.next ?_
      refine WC.ret ?_
      refine WE.retAny (v := .agg #[.int .i64 f, .slice none 0 0]) (fun za zh => ?_) ?_
      · have z0 : za.tmps[2]?.getD undef = .pointer (some ⟨g9, 0, none⟩) := by rw [← Array.getD_eq_getD_getElem?]; exact zh.knows 2 _ rfl
        have y0 : w119.cell? ⟨g9, 0, none⟩ = some (.int .i64 f) := ((hB121.cell 0).trans rfl)
        have y1 : w119.cell? ⟨g9, 1, none⟩ = some (.slice none 0 0) := ((hB121.cell 1).trans rfl)
        simp [results, Try.results34, z0, y0, y1, go_sem]
      · have e : l = [] := List.length_eq_zero_iff.1 (by omega)
        subst e
        exact ⟨_, rfl, newT_leaf hf, hb123⟩

end Go.Proofs.Ytcmfjnadjddboaa

/- Literals, clauses: how they lie in memory. -/
namespace Go.Proofs.Ytcmfjnadjddboaa
open Go.RowKit Go
set_option linter.unusedVariables false
set_option linter.unusedSimpArgs false

/-- A literal. -/
structure Li where
  neg : Bool
  l : T
  r : T
instance : Inhabited Li := ⟨⟨false, .mk 0 [], .mk 0 []⟩⟩
def Li.size (x : Li) : Nat := x.l.size + x.r.size

theorem InT.parts {S : Nat → Prop} {w : World} {t : T} {u v : Value} (h : InT S w t (.agg #[u, v])) : ∃ (a : Option Addr) (c : Nat), u = .int .i64 t.f ∧ v = .slice a t.args.length c := by
  obtain ⟨_, a, c, e, _⟩ := h.form
  simp only [Value.agg.injEq, Array.mk.injEq, List.cons.injEq, and_true] at e
  exact ⟨a, c, e.1, e.2⟩
def eltL : Elt Li where
  k := 5
  In := fun S w x cs => ∃ u1 u2 u3 u4, cs = [.bool x.neg, u1, u2, u3, u4] ∧ InT S w x.l (.agg #[u1, u2]) ∧ InT S w x.r (.agg #[u3, u4])
  keep := fun hb ⟨u1, u2, u3, u4, e, h0, h⟩ => ⟨u1, u2, u3, u4, e, h0.keep hb, h.keep hb⟩
  mono := fun hb ⟨u1, u2, u3, u4, e, h0, h⟩ => ⟨u1, u2, u3, u4, e, h0.mono hb, h.mono hb⟩
  len := fun ⟨_, _, _, _, e, _⟩ => by rw [e]; rfl
  one := fun ⟨u1, u2, u3, u4, e, h0, h⟩ x hx => by
    obtain ⟨a1, c1, rfl, rfl⟩ := h0.parts
    obtain ⟨a2, c2, rfl, rfl⟩ := h.parts
    rw [e] at hx
    simp only [List.mem_cons, List.not_mem_nil, or_false] at hx
    rcases hx with rfl | rfl | rfl | rfl | rfl <;> rfl

def lget (l : List Li) (k : Nat) : Li := l.getD k default
theorem lget_lt {l : List Li} {k : Nat} (h : k < l.length) : lget l k = l[k] := by simp [lget, h]
theorem lget_mem {l : List Li} {k : Nat} (h : k < l.length) : lget l k ∈ l := by rw [lget_lt h]; exact List.getElem_mem h
theorem take_snocL {l : List Li} {k : Nat} (h : k < l.length) : l.take k ++ [lget l k] = l.take (k + 1) := by
  rw [List.take_succ_eq_append_getElem h, lget_lt h]
theorem take_mapL {β : Type} {f : Li → β} {l : List Li} {k : Nat} (h : k < l.length) : (l.take k).map f ++ [f (lget l k)] = (l.take (k + 1)).map f := by
  rw [List.take_succ_eq_append_getElem h, List.map_append, lget_lt h]; rfl

theorem InRow.openL {S : Nat → Prop} {w : World} {l : List Li} {a : Option Addr} (h : InRow eltL S w l a) : ∃ (b o : Nat) (A : Nat → Option Addr) (C : Nat → Nat) (A2 : Nat → Option Addr) (C2 : Nat → Nat), (∀ k, k < l.length → a = some ⟨b, o, none⟩) ∧
    ∀ k, k < l.length → w.cell? ⟨b, o + k * 5, none⟩ = some (.bool (lget l k).neg) ∧ w.cell? ⟨b, o + k * 5 + 1, none⟩ = some (.int .i64 (lget l k).l.f) ∧ w.cell? ⟨b, o + k * 5 + 2, none⟩ = some (.slice (A k) (lget l k).l.args.length (C k)) ∧
      w.cell? ⟨b, o + k * 5 + 3, none⟩ = some (.int .i64 (lget l k).r.f) ∧ w.cell? ⟨b, o + k * 5 + 4, none⟩ = some (.slice (A2 k) (lget l k).r.args.length (C2 k)) ∧
      InT S w (lget l k).l (.agg #[.int .i64 (lget l k).l.f, .slice (A k) (lget l k).l.args.length (C k)]) ∧ InT S w (lget l k).r (.agg #[.int .i64 (lget l k).r.f, .slice (A2 k) (lget l k).r.args.length (C2 k)]) := by
  rcases Nat.eq_zero_or_pos l.length with h0 | h0
  · exact ⟨0, 0, fun _ => none, fun _ => 0, fun _ => none, fun _ => 0, fun k hk => by omega, fun k hk => by omega⟩
  · obtain ⟨b, o, _, ha, _⟩ := h 0 h0
    have key : ∀ k, k < l.length → ∃ p : (Option Addr × Nat) × (Option Addr × Nat), w.cell? ⟨b, o + k * 5, none⟩ = some (.bool (lget l k).neg) ∧ w.cell? ⟨b, o + k * 5 + 1, none⟩ = some (.int .i64 (lget l k).l.f) ∧ w.cell? ⟨b, o + k * 5 + 2, none⟩ = some (.slice p.1.1 (lget l k).l.args.length p.1.2) ∧
      w.cell? ⟨b, o + k * 5 + 3, none⟩ = some (.int .i64 (lget l k).r.f) ∧ w.cell? ⟨b, o + k * 5 + 4, none⟩ = some (.slice p.2.1 (lget l k).r.args.length p.2.2) ∧
      InT S w (lget l k).l (.agg #[.int .i64 (lget l k).l.f, .slice p.1.1 (lget l k).l.args.length p.1.2]) ∧ InT S w (lget l k).r (.agg #[.int .i64 (lget l k).r.f, .slice p.2.1 (lget l k).r.args.length p.2.2]) := by
      intro k hk
      obtain ⟨b', o', cs, ha', _, ⟨u1, u2, u3, u4, rfl, h1, h2⟩, h3⟩ := h k hk
      rw [ha] at ha'
      simp only [Option.some.injEq, Addr.mk.injEq, and_true] at ha'
      obtain ⟨rfl, rfl⟩ := ha'
      obtain ⟨p1, q1, rfl, rfl⟩ := h1.parts
      obtain ⟨p2, q2, rfl, rfl⟩ := h2.parts
      rw [lget_lt hk]
      exact ⟨((p1, q1), (p2, q2)), h3 0 (by decide), h3 1 (by decide), h3 2 (by decide), h3 3 (by decide), h3 4 (by decide), h1, h2⟩
    have : Inhabited ((Option Addr × Nat) × (Option Addr × Nat)) := ⟨((none, 0), (none, 0))⟩
    obtain ⟨F, hF⟩ := Go.Deep.choose_lt key
    exact ⟨b, o, fun k => (F k).1.1, fun k => (F k).1.2, fun k => (F k).2.1, fun k => (F k).2.2, fun _ _ => ha, hF⟩

/-- A clause that came in. -/
abbrev IsLs (w : World) (l : List Li) (a : Option Addr) : Prop := InRow eltL (fun _ => True) w l a
/-- A clause that came in: it lies in memory, is no longer than that, its terms are no larger. -/
structure IsCl (w : World) (s : List Li) (a : Option Addr) (c : Nat) : Prop where
  rows : IsLs w s a
  len : s.length ≤ c
  cap : c ≤ maxLen
  small : s.length ≤ 4294967296
  partsL : ∀ b ∈ s, b.l.size ≤ 4294967296
  partsR : ∀ b ∈ s, b.r.size ≤ 4294967296
theorem IsCl.below {w w' : World} {s : List Li} {a : Option Addr} {c : Nat} (h : IsCl w s a c) (hb : Below w.heap.size w w') : IsCl w' s a c := ⟨h.rows.below hb, h.len, h.cap, h.small, h.partsL, h.partsR⟩
theorem IsCl.pl {w : World} {s : List Li} {a : Option Addr} {c k : Nat} (h : IsCl w s a c) (hk : k < s.length) : (lget s k).l.size ≤ 4294967296 := h.partsL _ (lget_mem hk)
theorem IsCl.pr {w : World} {s : List Li} {a : Option Addr} {c k : Nat} (h : IsCl w s a c) (hk : k < s.length) : (lget s k).r.size ≤ 4294967296 := h.partsR _ (lget_mem hk)

/-- A literal in memory. -/
def IsLi (w : World) (x : Li) (v : Value) : Prop := ∃ u1 u2 u3 u4, v = .agg #[.bool x.neg, u1, u2, u3, u4] ∧ IsT w x.l (.agg #[u1, u2]) ∧ IsT w x.r (.agg #[u3, u4])
theorem IsLi.below {w w' : World} {x : Li} {v : Value} (hb : Below w.heap.size w w') (h : IsLi w x v) : IsLi w' x v := by
  obtain ⟨u1, u2, u3, u4, e, h1, h2⟩ := h
  exact ⟨u1, u2, u3, u4, e, h1.below hb, h2.below hb⟩
theorem isLi_mk {w : World} {x : Li} {a1 a2 : Option Addr} {c1 c2 : Nat} (h1 : IsT w x.l (.agg #[.int .i64 x.l.f, .slice a1 x.l.args.length c1])) (h2 : IsT w x.r (.agg #[.int .i64 x.r.f, .slice a2 x.r.args.length c2])) : IsLi w x (.agg #[.bool x.neg, .int .i64 x.l.f, .slice a1 x.l.args.length c1, .int .i64 x.r.f, .slice a2 x.r.args.length c2]) := ⟨_, _, _, _, rfl, h1, h2⟩
theorem IsLi.form {w : World} {x : Li} {v : Value} (h : IsLi w x v) : ∃ (a1 a2 : Option Addr) (c1 c2 : Nat), v = .agg #[.bool x.neg, .int .i64 x.l.f, .slice a1 x.l.args.length c1, .int .i64 x.r.f, .slice a2 x.r.args.length c2] ∧
    IsT w x.l (.agg #[.int .i64 x.l.f, .slice a1 x.l.args.length c1]) ∧ IsT w x.r (.agg #[.int .i64 x.r.f, .slice a2 x.r.args.length c2]) := by
  obtain ⟨u1, u2, u3, u4, e, h1, h2⟩ := h
  obtain ⟨p1, q1, rfl, rfl⟩ := h1.cells
  obtain ⟨p2, q2, rfl, rfl⟩ := h2.cells
  exact ⟨p1, p2, q1, q2, e, h1, h2⟩
/-- A literal in memory, made since. -/
def NewL (w0 w : World) (x : Li) (v : Value) : Prop := ∃ u1 u2 u3 u4, v = .agg #[.bool x.neg, u1, u2, u3, u4] ∧ InT (fun b => w0.heap.size ≤ b) w x.l (.agg #[u1, u2]) ∧ InT (fun b => w0.heap.size ≤ b) w x.r (.agg #[u3, u4])
/-- A literal in memory, in blocks of 'S'. -/
def LiIn (S : Nat → Prop) (w : World) (x : Li) (v : Value) : Prop := ∃ u1 u2 u3 u4, v = .agg #[.bool x.neg, u1, u2, u3, u4] ∧ InT S w x.l (.agg #[u1, u2]) ∧ InT S w x.r (.agg #[u3, u4])
theorem LiIn.keep {S : Nat → Prop} {w w' : World} {x : Li} {v : Value} (hb : ∀ (p : Addr) (y : Value), S p.block → w.cell? p = some y → w'.cell? p = some y) (h : LiIn S w x v) : LiIn S w' x v := by
  obtain ⟨u1, u2, u3, u4, e, h1, h2⟩ := h
  exact ⟨u1, u2, u3, u4, e, h1.keep hb, h2.keep hb⟩
theorem LiIn.mono {S S' : Nat → Prop} {w : World} {x : Li} {v : Value} (hb : ∀ b, S b → b < w.heap.size → S' b) (h : LiIn S w x v) : LiIn S' w x v := by
  obtain ⟨u1, u2, u3, u4, e, h1, h2⟩ := h
  exact ⟨u1, u2, u3, u4, e, h1.mono hb, h2.mono hb⟩
theorem LiIn.parts {S : Nat → Prop} {w : World} {x : Li} {v : Value} (h : LiIn S w x v) : ∃ (a1 a2 : Option Addr) (c1 c2 : Nat), v = .agg #[.bool x.neg, .int .i64 x.l.f, .slice a1 x.l.args.length c1, .int .i64 x.r.f, .slice a2 x.r.args.length c2] := by
  obtain ⟨u1, u2, u3, u4, e, h1, h2⟩ := h
  obtain ⟨p1, q1, rfl, rfl⟩ := h1.parts
  obtain ⟨p2, q2, rfl, rfl⟩ := h2.parts
  exact ⟨p1, p2, q1, q2, e⟩
theorem LiIn.two {S : Nat → Prop} {w : World} {x : Li} {v0 v1 v2 v3 v4 : Value} (h : LiIn S w x (.agg #[v0, v1, v2, v3, v4])) : InT S w x.l (.agg #[v1, v2]) ∧ InT S w x.r (.agg #[v3, v4]) := by
  obtain ⟨u1, u2, u3, u4, e, h1, h2⟩ := h
  simp only [Value.agg.injEq, Array.mk.injEq, List.cons.injEq, and_true] at e
  obtain ⟨rfl, rfl, rfl, rfl, rfl⟩ := e
  exact ⟨h1, h2⟩
theorem NewL.isLi {w0 w : World} {x : Li} {v : Value} (h : NewL w0 w x v) : IsLi w x v := by
  obtain ⟨u1, u2, u3, u4, e, h1, h2⟩ := h
  exact ⟨u1, u2, u3, u4, e, h1.isT, h2.isT⟩
theorem NewL.below {w0 w w' : World} {x : Li} {v : Value} (h : NewL w0 w x v) (hb : Below w.heap.size w w') : NewL w0 w' x v := by
  obtain ⟨u1, u2, u3, u4, e, h1, h2⟩ := h
  exact ⟨u1, u2, u3, u4, e, h1.below hb, h2.below hb⟩
theorem NewL.chg {S : Nat → Prop} {w0 w w' : World} {x : Li} {v : Value} (h : NewL w0 w x v) (hc : Chg S w w') (hS : ∀ b, w0.heap.size ≤ b → ¬ S b) : NewL w0 w' x v := by
  obtain ⟨u1, u2, u3, u4, e, h1, h2⟩ := h
  exact ⟨u1, u2, u3, u4, e, h1.chg hc hS, h2.chg hc hS⟩
theorem NewL.older {w0 w1 w : World} {x : Li} {v : Value} (h : NewL w1 w x v) (hl : w0.heap.size ≤ w1.heap.size) : NewL w0 w x v := by
  obtain ⟨u1, u2, u3, u4, e, h1, h2⟩ := h
  exact ⟨u1, u2, u3, u4, e, h1.mono (fun b hb _ => Nat.le_trans hl hb), h2.mono (fun b hb _ => Nat.le_trans hl hb)⟩
theorem NewL.parts {w0 w : World} {x : Li} {v : Value} (h : NewL w0 w x v) : ∃ (a1 a2 : Option Addr) (c1 c2 : Nat), v = .agg #[.bool x.neg, .int .i64 x.l.f, .slice a1 x.l.args.length c1, .int .i64 x.r.f, .slice a2 x.r.args.length c2] := by
  obtain ⟨u1, u2, u3, u4, e, h1, h2⟩ := h
  obtain ⟨p1, q1, rfl, rfl⟩ := h1.parts
  obtain ⟨p2, q2, rfl, rfl⟩ := h2.parts
  exact ⟨p1, p2, q1, q2, e⟩
theorem NewL.elt {w0 w : World} {x : Li} {v0 v1 v2 v3 v4 : Value} (h : NewL w0 w x (.agg #[v0, v1, v2, v3, v4])) : eltL.In (fun b => w0.heap.size ≤ b) w x [v0, v1, v2, v3, v4] := by
  obtain ⟨u1, u2, u3, u4, e, h1, h2⟩ := h
  simp only [Value.agg.injEq, Array.mk.injEq, List.cons.injEq, and_true] at e
  obtain ⟨rfl, rfl, rfl, rfl, rfl⟩ := e
  exact ⟨_, _, _, _, rfl, h1, h2⟩
theorem newL_mk {w0 w : World} {x : Li} {u1 u2 u3 u4 : Value} (h1 : NewT w0 w x.l (.agg #[u1, u2])) (h2 : NewT w0 w x.r (.agg #[u3, u4])) : NewL w0 w x (.agg #[.bool x.neg, u1, u2, u3, u4]) := ⟨_, _, _, _, rfl, h1, h2⟩
/-- A box in which a new literal lies. -/
def LiBox (w0 w : World) (g ty : Nat) (x : Li) : Prop := ∃ (a1 a2 : Option Addr) (c1 c2 : Nat), Blk w g ty #[.bool x.neg, .int .i64 x.l.f, .slice a1 x.l.args.length c1, .int .i64 x.r.f, .slice a2 x.r.args.length c2] ∧ NewL w0 w x (.agg #[.bool x.neg, .int .i64 x.l.f, .slice a1 x.l.args.length c1, .int .i64 x.r.f, .slice a2 x.r.args.length c2])
theorem LiBox.below {w0 w w' : World} {g ty : Nat} {x : Li} (h : LiBox w0 w g ty x) (hb : Below w.heap.size w w') : LiBox w0 w' g ty x := by
  obtain ⟨a1, a2, c1, c2, h1, h2⟩ := h
  exact ⟨a1, a2, c1, c2, h1.below hb, h2.below hb⟩
/-- A clause in memory, made since. -/
def NewC (w0 w : World) (l : List Li) (a : Option Addr) (c : Nat) : Prop := InRow eltL (fun b => w0.heap.size ≤ b) w l a ∧ l.length ≤ c ∧ c ≤ maxLen
theorem NewC.below {w0 w w' : World} {l : List Li} {a : Option Addr} {c : Nat} (h : NewC w0 w l a c) (hb : Below w.heap.size w w') : NewC w0 w' l a c := ⟨h.1.below hb, h.2⟩
theorem NewC.isLs {w0 w : World} {l : List Li} {a : Option Addr} {c : Nat} (h : NewC w0 w l a c) : IsLs w l a := h.1.mono (by decide) (fun _ _ _ => trivial)
theorem newC_row {w0 w : World} {B e : Nat} {ra : Option Addr} {rc n : Nat} {l : List Li} (h : RowE eltL w B e ra rc n l) (hB : w0.heap.size ≤ B) : n = l.length ∧ NewC w0 w l ra rc := by
  obtain ⟨h1, h2, h3, h4⟩ := h.inRow
  exact ⟨h2, h1.mono (by decide) (fun b hb _ => Nat.le_trans hB hb), by omega, h4⟩

end Go.Proofs.Ytcmfjnadjddboaa

/- Variables without arguments: the program and the document; literals that are atoms. -/
namespace Go.Proofs.Ytcmfjnadjddboaa
open Go.RowKit Go
set_option linter.unusedVariables false
set_option linter.unusedSimpArgs false

theorem IsTp.of {w : World} {b o : Nat} {a : Option Addr} {c : Nat} {t : T} (h1 : w.cell? ⟨b, o, none⟩ = some (.int .i64 t.f)) (h2 : w.cell? ⟨b, o + 1, none⟩ = some (.slice a t.args.length c)) (h3 : IsT w t (.agg #[.int .i64 t.f, .slice a t.args.length c])) : IsTp w t (.pointer (some ⟨b, o, none⟩)) := ⟨b, o, a, c, rfl, h1, h2, h3⟩
set_option maxRecDepth 100000 in
theorem plainp_any : ∀ (t : T) (w : World) (v : Value), t.size ≤ 4294967296 → IsTp w t v → Calls Try.prog 33 #[v] w (Ret fun v' w' => v' = .bool t.plain ∧ Below w.heap.size w w') := by
  refine T.ind (fun f l ih => ?_)
  intro w v hz hv
  have hlen := len_le_sizeL l
  have hz' := hz
  simp only [T.size] at hz'
  obtain ⟨b, o, a, c, rfl, hc1, hc2, hT⟩ := hv
  obtain ⟨hf, a', c', e', hc, hm, hl⟩ := hT
  obtain ⟨rfl, rfl⟩ : a = a' ∧ c = c' := by simpa using e'
  simp only [T.f_mk, T.args_mk] at hc1 hc2
  refine Calls.walk (l := [.pointer (some ⟨b, o, none⟩)]) Try.func33 rfl (by kernel_rfl) ?_
  refine WC.sub (K' := [(0, .pointer (some ⟨b, o, none⟩))]) ⟨rfl, trivial⟩ ?_
  refine WC.seq ?_
  refine WC.region ?_
  refine WL.val (.bool false) rfl rfl rfl (fun za zC zh zk => wp_assign rfl (zh.ev rfl) zk) ?_
  refine WL.nil (WE.sub (K' := [(0, .pointer (some ⟨b, o, none⟩)), (2, .bool false)]) ⟨rfl, rfl, trivial⟩ ?_)
  refine WE.next ?_
  refine WC.seq ?_
  refine WC.seq ?_
  refine WC.opt [(true, .val (.pointer (some ⟨b, o, none⟩))), (true, .val (.pointer (some ⟨b, o, none⟩))), (true, .val (.pointer (some ⟨b, o, none⟩))), (true, .val (.int .i64 f)), (true, .val (.bool ((decide ((f : Int) < (0 : Int)))))), (true, .val (.bool ((decide ((f : Int) < (0 : Int)))))), ((true && (decide ((f : Int) < (0 : Int)))), .val (.pointer (some ⟨b, o, none⟩))), ((true && (decide ((f : Int) < (0 : Int)))), .val (.pointer (some ⟨b, o, none⟩))), ((true && (decide ((f : Int) < (0 : Int)))), .val (.pointer (some ⟨b, o + 1, none⟩))), ((true && (decide ((f : Int) < (0 : Int)))), .val (.slice a l.length c)), ((true && (decide ((f : Int) < (0 : Int)))), .val (.int .i64 (((l.length : Nat) : Int)))), ((true && (decide ((f : Int) < (0 : Int)))), .val (.bool ((decide ((0 : Int) < (((l.length : Nat) : Int) : Int)))))), (true, .val (.bool (((decide ((f : Int) < (0 : Int))) && (decide ((0 : Int) < (((l.length : Nat) : Int) : Int)))))))] [(0, .pointer (some ⟨b, o, none⟩)), (2, .bool false)] ⟨rfl, rfl, trivial⟩ (by kernel_rfl) (by kernel_rfl) (by kernel_rfl) ?_ ?_
  · refine ⟨⟨true, .none rfl, fun h w => optUndef h, fun zβ za zw zc => ?_⟩, ?_⟩
    · exact wp_move rfl (zc.kn.ev rfl) ⟨_, rfl, Below.refl _ _, optDef zβ rfl⟩
    refine ⟨⟨true, .none rfl, fun h w => optUndef h, fun zβ za zw zc => ?_⟩, ?_⟩
    · exact nilCheck_ rfl ((show za.eval (.tmp 4) = za.tmps.getD 4 undef from rfl).trans (optVal (zc.dep 0 4 (by kernel_rfl)) rfl rfl)) ⟨_, rfl, Below.refl _ _, optDef zβ rfl⟩
    refine ⟨⟨true, .none rfl, fun h w => optUndef h, fun zβ za zw zc => ?_⟩, ?_⟩
    · exact fld_24_0 rfl ((show za.eval (.tmp 5) = za.tmps.getD 5 undef from rfl).trans (optVal (zc.dep 1 5 (by kernel_rfl)) rfl rfl)) ⟨_, rfl, Below.refl _ _, optDef zβ rfl⟩
    refine ⟨⟨true, .none rfl, fun h w => optUndef h, fun zβ za zw zc => ?_⟩, ?_⟩
    · exact ld_3 rfl ((show za.eval (.tmp 6) = za.tmps.getD 6 undef from rfl).trans (optVal (zc.dep 2 6 (by kernel_rfl)) rfl rfl)) (bkeeps zc.below _ _ hc1) ⟨_, rfl, Below.refl _ _, optDef zβ rfl⟩
    refine ⟨⟨true, .none rfl, fun h w => optUndef h, fun zβ za zw zc => ?_⟩, ?_⟩
    · exact lss_3 rfl ((show za.eval (.tmp 7) = za.tmps.getD 7 undef from rfl).trans (optVal (zc.dep 3 7 (by kernel_rfl)) rfl rfl)) (zc.kn.ev rfl) ⟨_, rfl, Below.refl _ _, optDef zβ rfl⟩
    refine ⟨⟨true, .none rfl, fun h w => optUndef h, fun zβ za zw zc => ?_⟩, ?_⟩
    · exact wp_move rfl ((show za.eval (.tmp 8) = za.tmps.getD 8 undef from rfl).trans (optVal (zc.dep 4 8 (by kernel_rfl)) rfl rfl)) ⟨_, rfl, Below.refl _ _, optDef zβ rfl⟩
    refine ⟨⟨(true && (decide ((f : Int) < (0 : Int)))), .yes (c := (decide ((f : Int) < (0 : Int)))) (d := true) rfl (fun v w h => h), fun h w => optUndef h, fun zβ za zw zc => ?_⟩, ?_⟩
    · exact wp_move rfl (zc.kn.ev rfl) ⟨_, rfl, Below.refl _ _, optDef zβ rfl⟩
    refine ⟨⟨(true && (decide ((f : Int) < (0 : Int)))), .yes (c := (decide ((f : Int) < (0 : Int)))) (d := true) rfl (fun v w h => h), fun h w => optUndef h, fun zβ za zw zc => ?_⟩, ?_⟩
    · exact nilCheck_ rfl ((show za.eval (.tmp 10) = za.tmps.getD 10 undef from rfl).trans (optVal (zc.dep 6 10 (by kernel_rfl)) rfl zβ)) ⟨_, rfl, Below.refl _ _, optDef zβ rfl⟩
    refine ⟨⟨(true && (decide ((f : Int) < (0 : Int)))), .yes (c := (decide ((f : Int) < (0 : Int)))) (d := true) rfl (fun v w h => h), fun h w => optUndef h, fun zβ za zw zc => ?_⟩, ?_⟩
    · exact fld_24_1 rfl ((show za.eval (.tmp 11) = za.tmps.getD 11 undef from rfl).trans (optVal (zc.dep 7 11 (by kernel_rfl)) rfl zβ)) ⟨_, rfl, Below.refl _ _, optDef zβ rfl⟩
    refine ⟨⟨(true && (decide ((f : Int) < (0 : Int)))), .yes (c := (decide ((f : Int) < (0 : Int)))) (d := true) rfl (fun v w h => h), fun h w => optUndef h, fun zβ za zw zc => ?_⟩, ?_⟩
    · exact ld_22 rfl ((show za.eval (.tmp 12) = za.tmps.getD 12 undef from rfl).trans (optVal (zc.dep 8 12 (by kernel_rfl)) rfl zβ)) (bkeeps zc.below _ _ hc2) ⟨_, rfl, Below.refl _ _, optDef zβ rfl⟩
    refine ⟨⟨(true && (decide ((f : Int) < (0 : Int)))), .yes (c := (decide ((f : Int) < (0 : Int)))) (d := true) rfl (fun v w h => h), fun h w => optUndef h, fun zβ za zw zc => ?_⟩, ?_⟩
    · exact len_22 rfl ((show za.eval (.tmp 13) = za.tmps.getD 13 undef from rfl).trans (optVal (zc.dep 9 13 (by kernel_rfl)) rfl zβ)) ⟨_, rfl, Below.refl _ _, optDef zβ rfl⟩
    refine ⟨⟨(true && (decide ((f : Int) < (0 : Int)))), .yes (c := (decide ((f : Int) < (0 : Int)))) (d := true) rfl (fun v w h => h), fun h w => optUndef h, fun zβ za zw zc => ?_⟩, ?_⟩
    · exact gtr_3 rfl ((show za.eval (.tmp 14) = za.tmps.getD 14 undef from rfl).trans (optVal (zc.dep 10 14 (by kernel_rfl)) rfl zβ)) (zc.kn.ev rfl) ⟨_, rfl, Below.refl _ _, optDef zβ rfl⟩
    refine ⟨⟨true, .none rfl, fun h w => optUndef h, fun zβ za zw zc => ?_⟩, ?_⟩
    · exact wp_and rfl ((show za.eval (.tmp 9) = za.tmps.getD 9 undef from rfl).trans (optVal (zc.dep 5 9 (by kernel_rfl)) rfl rfl)) (fun hp => ((show za.eval (.tmp 15) = za.tmps.getD 15 undef from rfl).trans (optVal (zc.dep 11 15 (by kernel_rfl)) rfl (bMk zβ hp)))) ⟨_, rfl, Below.refl _ _, optDef zβ rfl⟩
    exact trivial
  · intro za w1 zh hb2 zu
    have zh := zh.cons (d := 16) (v := .bool (((decide ((f : Int) < (0 : Int))) && (decide ((0 : Int) < (((l.length : Nat) : Int) : Int)))))) (optVal (zu 12 16 (by kernel_rfl)) rfl rfl)
    clear zu
    refine (show WE _ [(0, .pointer (some ⟨b, o, none⟩)), (2, .bool false), (16, .bool (((decide ((f : Int) < (0 : Int))) && (decide ((0 : Int) < (((l.length : Nat) : Int) : Int))))))] w1 _ .normal from ?_) za (zh.sub ⟨rfl, rfl, rfl, trivial⟩)
    refine WE.next ?_
    refine WC.cond rfl (fun h3 => ?_) (fun h3 => ?_)
    · have h3 : ((f : Int) < (0 : Int)) ∧ ((0 : Int) < (((l.length : Nat) : Int) : Int)) := by simpa using h3
      refine WC.seq ?_
      refine WC.region ?_
      refine WL.val (.bool false) rfl rfl rfl (fun za zC zh zk => wp_assign rfl (zh.ev rfl) zk) ?_
      refine WL.nil (WE.sub (K' := [(0, .pointer (some ⟨b, o, none⟩)), (2, .bool false), (16, .bool (((decide ((f : Int) < (0 : Int))) && (decide ((0 : Int) < (((l.length : Nat) : Int) : Int))))))]) ⟨rfl, rfl, rfl, trivial⟩ ?_)
      refine WE.next ?_
      refine WC.ret ?_
      refine WE.thenRet ?_
      refine WE.ret1 rfl rfl ?_
      have z := h3
      exact ⟨_, rfl, congrArg Value.bool (Eq.symm (plain_var (by omega) (by omega))), hb2⟩
    · have h3 : ¬ (((f : Int) < (0 : Int)) ∧ ((0 : Int) < (((l.length : Nat) : Int) : Int))) := by simpa using h3
      refine WC.skip ?_
      refine WE.next ?_
      refine WC.seq ?_
      refine WC.seq ?_
      refine WC.region ?_
      refine WL.val (.pointer (some ⟨b, o, none⟩)) rfl rfl rfl (fun za zC zh zk => wp_move rfl (zh.ev rfl) zk) ?_
      refine WL.val (.pointer (some ⟨b, o, none⟩)) rfl rfl rfl (fun za zC zh zk => nilCheck_ rfl (zh.ev rfl) zk) ?_
      refine WL.val (.pointer (some ⟨b, o + 1, none⟩)) rfl rfl rfl (fun za zC zh zk => fld_24_1 rfl (zh.ev rfl) zk) ?_
      refine WL.val (.slice a l.length c) rfl rfl rfl (fun za zC zh zk => ld_22 rfl (zh.ev rfl) (bkeeps hb2 _ _ hc2) zk) ?_
      refine WL.val (.int .i64 (((l.length : Nat) : Int))) rfl rfl rfl (fun za zC zh zk => len_22 rfl (zh.ev rfl) zk) ?_
      refine WL.val (.int .i64 0) rfl rfl rfl (fun za zC zh zk => wp_move rfl (zh.ev rfl) zk) ?_
      refine WL.nil (WE.sub (K' := [(0, .pointer (some ⟨b, o, none⟩)), (2, .bool false), (16, .bool (((decide ((f : Int) < (0 : Int))) && (decide ((0 : Int) < (((l.length : Nat) : Int) : Int)))))), (21, .int .i64 (((l.length : Nat) : Int))), (22, .int .i64 0)]) ⟨rfl, rfl, rfl, rfl, rfl, trivial⟩ ?_)
      refine WE.next ?_
      refine WC.block ?_
      refine WC.loop (X := Nat) (fun k => l.length - k) (fun k => [(0, .pointer (some ⟨b, o, none⟩)), (16, .bool (((decide ((f : Int) < (0 : Int))) && (decide ((0 : Int) < (((l.length : Nat) : Int) : Int)))))), (21, .int .i64 (((l.length : Nat) : Int))), (22, .int .i64 (((k : Nat) : Int)))]) (fun k w4 => k ≤ l.length ∧ (∀ i, i < k → (tget l i).plain = true) ∧ Below w.heap.size w w4) 0 ⟨rfl, rfl, rfl, rfl, trivial⟩ ?_ ?_
      · exact ⟨Nat.zero_le _, fun i h => absurd h (Nat.not_lt_zero i), hb2⟩
      · rintro k w4 ⟨hk, hE, hb5⟩
        refine WC.seq ?_
        refine WC.region ?_
        refine WL.val (.bool ((decide ((((k : Nat) : Int) : Int) < (((l.length : Nat) : Int) : Int))))) rfl rfl rfl (fun za zC zh zk => lss_3 rfl (zh.ev rfl) (zh.ev rfl) zk) ?_
        refine WL.nil (WE.sub (K' := [(0, .pointer (some ⟨b, o, none⟩)), (16, .bool (((decide ((f : Int) < (0 : Int))) && (decide ((0 : Int) < (((l.length : Nat) : Int) : Int)))))), (21, .int .i64 (((l.length : Nat) : Int))), (22, .int .i64 (((k : Nat) : Int))), (23, .bool ((decide ((((k : Nat) : Int) : Int) < (((l.length : Nat) : Int) : Int)))))]) ⟨rfl, rfl, rfl, rfl, rfl, trivial⟩ ?_)
        refine WE.next ?_
        refine WC.seq ?_
        refine WC.cond rfl (fun h6 => ?_) (fun h6 => ?_)
        · have h6 : (((k : Nat) : Int) : Int) < (((l.length : Nat) : Int) : Int) := by simpa using h6
          refine WC.skip ?_
          refine WE.next ?_
          refine WC.seq ?_
          refine WC.block ?_
          refine WC.seq ?_
          refine WC.region ?_
          refine WL.val (.int .i64 (((k : Nat) : Int))) rfl rfl rfl (fun za zC zh zk => wp_move rfl (zh.ev rfl) zk) ?_
          refine WL.val (.int .i64 (((k : Nat) : Int))) rfl rfl rfl (fun za zC zh zk => wp_assign rfl (zh.ev rfl) zk) ?_
          refine WL.nil (WE.sub (K' := [(0, .pointer (some ⟨b, o, none⟩)), (3, .int .i64 (((k : Nat) : Int))), (16, .bool (((decide ((f : Int) < (0 : Int))) && (decide ((0 : Int) < (((l.length : Nat) : Int) : Int)))))), (21, .int .i64 (((l.length : Nat) : Int))), (22, .int .i64 (((k : Nat) : Int))), (23, .bool ((decide ((((k : Nat) : Int) : Int) < (((l.length : Nat) : Int) : Int)))))]) ⟨rfl, rfl, rfl, rfl, rfl, rfl, trivial⟩ ?_)
          refine WE.next ?_
          refine WC.seq ?_
          refine WC.region ?_
          refine WL.val (.pointer (some ⟨b, o, none⟩)) rfl rfl rfl (fun za zC zh zk => wp_move rfl (zh.ev rfl) zk) ?_
          refine WL.val (.pointer (some ⟨b, o, none⟩)) rfl rfl rfl (fun za zC zh zk => nilCheck_ rfl (zh.ev rfl) zk) ?_
          refine WL.val (.pointer (some ⟨b, o + 1, none⟩)) rfl rfl rfl (fun za zC zh zk => fld_24_1 rfl (zh.ev rfl) zk) ?_
          refine WL.val (.slice a l.length c) rfl rfl rfl (fun za zC zh zk => ld_22 rfl (zh.ev rfl) (bkeeps hb5 _ _ hc2) zk) ?_
          refine WL.val (.int .i64 (((k : Nat) : Int))) rfl rfl rfl (fun za zC zh zk => wp_move rfl (zh.ev rfl) zk) ?_
          obtain ⟨b7, o8, A9, C10, ha11, hc12⟩ := IsTs.open hl
          refine WL.val (.pointer (some ⟨b7, o8 + k * 2, none⟩)) rfl rfl rfl (fun za zC zh zk => ix_22 (k := k) rfl (zh.ev rfl) (ha11 k (by first | omega | (simp; omega))) (zh.ev rfl) (by first | omega | (simp; omega)) zk) ?_
          refine WL.call rfl rfl rfl (fun za zh zC => wp_call (by kernel_rfl) rfl (hv1 (zh.ev rfl))) (ih _ (tget_mem (by omega)) _ _ (size_at (by omega) hz) (IsTp.of (bkeeps hb5 _ _ (hc12 k (by first | omega | (simp; omega))).1) (bkeeps hb5 _ _ (hc12 k (by first | omega | (simp; omega))).2.1) (IsT.below hb5 (hc12 k (by first | omega | (simp; omega))).2.2))) ?_
          rintro _ w14 ⟨rfl, hq13⟩
          refine WL.val (.bool ((!(tget l k).plain))) rfl rfl rfl (fun za zC zh zk => wp_not rfl (zh.ev rfl) zk) ?_
          refine WL.nil (WE.sub (K' := [(0, .pointer (some ⟨b, o, none⟩)), (3, .int .i64 (((k : Nat) : Int))), (16, .bool (((decide ((f : Int) < (0 : Int))) && (decide ((0 : Int) < (((l.length : Nat) : Int) : Int)))))), (21, .int .i64 (((l.length : Nat) : Int))), (22, .int .i64 (((k : Nat) : Int))), (23, .bool ((decide ((((k : Nat) : Int) : Int) < (((l.length : Nat) : Int) : Int))))), (32, .bool ((!(tget l k).plain)))]) ⟨rfl, rfl, rfl, rfl, rfl, rfl, rfl, trivial⟩ ?_)
          refine WE.next ?_
          refine WC.cond rfl (fun h15 => ?_) (fun h15 => ?_)
          · have h15 : ¬ ((tget l k).plain = true) := by simpa using h15
            refine WC.seq ?_
            refine WC.region ?_
            refine WL.val (.bool false) rfl rfl rfl (fun za zC zh zk => wp_assign rfl (zh.ev rfl) zk) ?_
            refine WL.nil (WE.sub (K' := [(0, .pointer (some ⟨b, o, none⟩)), (2, .bool false), (3, .int .i64 (((k : Nat) : Int))), (16, .bool (((decide ((f : Int) < (0 : Int))) && (decide ((0 : Int) < (((l.length : Nat) : Int) : Int)))))), (21, .int .i64 (((l.length : Nat) : Int))), (22, .int .i64 (((k : Nat) : Int))), (23, .bool ((decide ((((k : Nat) : Int) : Int) < (((l.length : Nat) : Int) : Int))))), (32, .bool ((!(tget l k).plain)))]) ⟨rfl, rfl, rfl, rfl, rfl, rfl, rfl, rfl, trivial⟩ ?_)
            refine WE.next ?_
            refine WC.ret ?_
            refine WE.blockRet ?_
            refine WE.thenRet ?_
            refine WE.thenRet ?_
            refine WE.blockRet ?_
            refine WE.thenRet ?_
            refine WE.ret1 rfl rfl ?_
            have hb16 : Below w.heap.size w w14 := (bstep hb5 hq13)
            exact ⟨_, rfl, congrArg Value.bool (Eq.symm (plain_no (k := k) (by omega) (by simpa using h15))), hb16⟩
          · have h15 : ¬ (¬ ((tget l k).plain = true)) := by simpa using h15
            refine WC.skip ?_
            refine WE.blockNormal ?_
            refine WE.next ?_
            refine WC.region ?_
            refine WL.val (.int .i64 ((((k + 1) : Nat) : Int))) rfl rfl rfl (fun za zC zh zk => addb_3 rfl (zh.ev rfl) (zh.ev rfl) (wrap_eq (by omega) (by omega) (by omega)) zk) ?_
            refine WL.val (.int .i64 ((((k + 1) : Nat) : Int))) rfl rfl rfl (fun za zC zh zk => wp_move rfl (zh.ev rfl) zk) ?_
            refine WL.nil (WE.sub (K' := [(0, .pointer (some ⟨b, o, none⟩)), (3, .int .i64 (((k : Nat) : Int))), (16, .bool (((decide ((f : Int) < (0 : Int))) && (decide ((0 : Int) < (((l.length : Nat) : Int) : Int)))))), (21, .int .i64 (((l.length : Nat) : Int))), (22, .int .i64 ((((k + 1) : Nat) : Int))), (23, .bool ((decide ((((k : Nat) : Int) : Int) < (((l.length : Nat) : Int) : Int))))), (32, .bool ((!(tget l k).plain)))]) ⟨rfl, rfl, rfl, rfl, rfl, rfl, rfl, trivial⟩ ?_)
            refine WE.round (k + 1) ⟨rfl, rfl, rfl, rfl, trivial⟩ ?_ ?_
            · have hb17 : Below w.heap.size w w14 := (bstep hb5 hq13)
              exact ⟨by omega, fun i hi => by rcases Nat.lt_or_ge i k with q | q; exact hE i q; (obtain rfl : i = k := by omega); simpa using h15, hb17⟩
            · omega
        · have h6 : ¬ ((((k : Nat) : Int) : Int) < (((l.length : Nat) : Int) : Int)) := by simpa using h6
          refine WC.exit ?_
          refine WE.thenExit ?_
          refine WE.thenExit ?_
          refine WE.blockIs rfl ?_
          refine WE.next ?_
          refine WC.seq ?_
          refine WC.region ?_
          refine WL.val (.bool true) rfl rfl rfl (fun za zC zh zk => wp_assign rfl (zh.ev rfl) zk) ?_
          refine WL.nil (WE.sub (K' := [(0, .pointer (some ⟨b, o, none⟩)), (2, .bool true), (16, .bool (((decide ((f : Int) < (0 : Int))) && (decide ((0 : Int) < (((l.length : Nat) : Int) : Int)))))), (21, .int .i64 (((l.length : Nat) : Int))), (22, .int .i64 (((k : Nat) : Int))), (23, .bool ((decide ((((k : Nat) : Int) : Int) < (((l.length : Nat) : Int) : Int)))))]) ⟨rfl, rfl, rfl, rfl, rfl, rfl, trivial⟩ ?_)
          refine WE.next ?_
          refine WC.ret ?_
          refine WE.ret1 rfl rfl ?_
          exact ⟨_, rfl, congrArg Value.bool (Eq.symm (plain_yes (by omega) (fun i hi => hE i (by omega)))), hb5⟩

set_option maxRecDepth 100000 in
theorem rplain_any : ∀ (t : T) (w : World) (v : Value), t.size ≤ 4294967296 → IsT w t v → Calls Try.prog 36 #[v] w (Ret fun v' w' => v' = .bool t.plain ∧ Below w.heap.size w w') := by
  refine T.ind (fun f l ih => ?_)
  intro w v hz hv
  have hlen := len_le_sizeL l
  have hz' := hz
  simp only [T.size] at hz'
  obtain ⟨hf, a, c, rfl, hc, hm, hl⟩ := hv
  refine Calls.walk (l := [.agg #[.int .i64 f, .slice a l.length c]]) Try.func36 rfl (by kernel_rfl) ?_
  refine WC.sub (K' := [(0, .agg #[.int .i64 f, .slice a l.length c])]) ⟨rfl, trivial⟩ ?_
  refine WC.seq ?_
  refine WC.region ?_
  refine WL.step (post := NewBlk w 24 #[.int .i64 f, .slice a l.length c]) rfl rfl rfl (fun za zC zh zk => box_24 rfl (zh.ev rfl) (zk _ _ (newBlk _ _ _))) ?_
  rintro _ w1 ⟨g2, rfl, hg3, hB4, hb5, hz6⟩
  have hl7 : w.heap.size ≤ g2 := by omega
  refine WL.val (.bool false) rfl rfl rfl (fun za zC zh zk => wp_assign rfl (zh.ev rfl) zk) ?_
  refine WL.nil (WE.sub (K' := [(0, .agg #[.int .i64 f, .slice a l.length c]), (1, .pointer (some ⟨g2, 0, none⟩)), (2, .bool false)]) ⟨rfl, rfl, rfl, trivial⟩ ?_)
  refine WE.next ?_
  refine WC.seq ?_
  refine WC.seq ?_
  refine WC.opt [(true, .val (.pointer (some ⟨g2, 0, none⟩))), (true, .val (.int .i64 f)), (true, .val (.bool ((decide ((f : Int) < (0 : Int)))))), (true, .val (.bool ((decide ((f : Int) < (0 : Int)))))), ((true && (decide ((f : Int) < (0 : Int)))), .val (.pointer (some ⟨g2, 1, none⟩))), ((true && (decide ((f : Int) < (0 : Int)))), .val (.slice a l.length c)), ((true && (decide ((f : Int) < (0 : Int)))), .val (.int .i64 (((l.length : Nat) : Int)))), ((true && (decide ((f : Int) < (0 : Int)))), .val (.bool ((decide ((0 : Int) < (((l.length : Nat) : Int) : Int)))))), (true, .val (.bool (((decide ((f : Int) < (0 : Int))) && (decide ((0 : Int) < (((l.length : Nat) : Int) : Int)))))))] [(0, .agg #[.int .i64 f, .slice a l.length c]), (1, .pointer (some ⟨g2, 0, none⟩)), (2, .bool false)] ⟨rfl, rfl, rfl, trivial⟩ (by kernel_rfl) (by kernel_rfl) (by kernel_rfl) ?_ ?_
  · refine ⟨⟨true, .none rfl, fun h w => optUndef h, fun zβ za zw zc => ?_⟩, ?_⟩
    · exact fld_24_0 rfl (zc.kn.ev rfl) ⟨_, rfl, Below.refl _ _, optDef zβ rfl⟩
    refine ⟨⟨true, .none rfl, fun h w => optUndef h, fun zβ za zw zc => ?_⟩, ?_⟩
    · exact ld_3 rfl ((show za.eval (.tmp 4) = za.tmps.getD 4 undef from rfl).trans (optVal (zc.dep 0 4 (by kernel_rfl)) rfl rfl)) (bkeeps zc.below _ _ ((hB4.cell 0).trans rfl)) ⟨_, rfl, Below.refl _ _, optDef zβ rfl⟩
    refine ⟨⟨true, .none rfl, fun h w => optUndef h, fun zβ za zw zc => ?_⟩, ?_⟩
    · exact lss_3 rfl ((show za.eval (.tmp 5) = za.tmps.getD 5 undef from rfl).trans (optVal (zc.dep 1 5 (by kernel_rfl)) rfl rfl)) (zc.kn.ev rfl) ⟨_, rfl, Below.refl _ _, optDef zβ rfl⟩
    refine ⟨⟨true, .none rfl, fun h w => optUndef h, fun zβ za zw zc => ?_⟩, ?_⟩
    · exact wp_move rfl ((show za.eval (.tmp 6) = za.tmps.getD 6 undef from rfl).trans (optVal (zc.dep 2 6 (by kernel_rfl)) rfl rfl)) ⟨_, rfl, Below.refl _ _, optDef zβ rfl⟩
    refine ⟨⟨(true && (decide ((f : Int) < (0 : Int)))), .yes (c := (decide ((f : Int) < (0 : Int)))) (d := true) rfl (fun v w h => h), fun h w => optUndef h, fun zβ za zw zc => ?_⟩, ?_⟩
    · exact fld_24_1 rfl (zc.kn.ev rfl) ⟨_, rfl, Below.refl _ _, optDef zβ rfl⟩
    refine ⟨⟨(true && (decide ((f : Int) < (0 : Int)))), .yes (c := (decide ((f : Int) < (0 : Int)))) (d := true) rfl (fun v w h => h), fun h w => optUndef h, fun zβ za zw zc => ?_⟩, ?_⟩
    · exact ld_22 rfl ((show za.eval (.tmp 8) = za.tmps.getD 8 undef from rfl).trans (optVal (zc.dep 4 8 (by kernel_rfl)) rfl zβ)) (bkeeps zc.below _ _ ((hB4.cell 1).trans rfl)) ⟨_, rfl, Below.refl _ _, optDef zβ rfl⟩
    refine ⟨⟨(true && (decide ((f : Int) < (0 : Int)))), .yes (c := (decide ((f : Int) < (0 : Int)))) (d := true) rfl (fun v w h => h), fun h w => optUndef h, fun zβ za zw zc => ?_⟩, ?_⟩
    · exact len_22 rfl ((show za.eval (.tmp 9) = za.tmps.getD 9 undef from rfl).trans (optVal (zc.dep 5 9 (by kernel_rfl)) rfl zβ)) ⟨_, rfl, Below.refl _ _, optDef zβ rfl⟩
    refine ⟨⟨(true && (decide ((f : Int) < (0 : Int)))), .yes (c := (decide ((f : Int) < (0 : Int)))) (d := true) rfl (fun v w h => h), fun h w => optUndef h, fun zβ za zw zc => ?_⟩, ?_⟩
    · exact gtr_3 rfl ((show za.eval (.tmp 10) = za.tmps.getD 10 undef from rfl).trans (optVal (zc.dep 6 10 (by kernel_rfl)) rfl zβ)) (zc.kn.ev rfl) ⟨_, rfl, Below.refl _ _, optDef zβ rfl⟩
    refine ⟨⟨true, .none rfl, fun h w => optUndef h, fun zβ za zw zc => ?_⟩, ?_⟩
    · exact wp_and rfl ((show za.eval (.tmp 7) = za.tmps.getD 7 undef from rfl).trans (optVal (zc.dep 3 7 (by kernel_rfl)) rfl rfl)) (fun hp => ((show za.eval (.tmp 11) = za.tmps.getD 11 undef from rfl).trans (optVal (zc.dep 7 11 (by kernel_rfl)) rfl (bMk zβ hp)))) ⟨_, rfl, Below.refl _ _, optDef zβ rfl⟩
    exact trivial
  · intro za w8 zh hb9 zu
    have zh := zh.cons (d := 12) (v := .bool (((decide ((f : Int) < (0 : Int))) && (decide ((0 : Int) < (((l.length : Nat) : Int) : Int)))))) (optVal (zu 8 12 (by kernel_rfl)) rfl rfl)
    clear zu
    refine (show WE _ [(0, .agg #[.int .i64 f, .slice a l.length c]), (1, .pointer (some ⟨g2, 0, none⟩)), (2, .bool false), (12, .bool (((decide ((f : Int) < (0 : Int))) && (decide ((0 : Int) < (((l.length : Nat) : Int) : Int))))))] w8 _ .normal from ?_) za (zh.sub ⟨rfl, rfl, rfl, rfl, trivial⟩)
    refine WE.next ?_
    refine WC.cond rfl (fun h10 => ?_) (fun h10 => ?_)
    · have h10 : ((f : Int) < (0 : Int)) ∧ ((0 : Int) < (((l.length : Nat) : Int) : Int)) := by simpa using h10
      refine WC.seq ?_
      refine WC.region ?_
      refine WL.val (.bool false) rfl rfl rfl (fun za zC zh zk => wp_assign rfl (zh.ev rfl) zk) ?_
      refine WL.nil (WE.sub (K' := [(0, .agg #[.int .i64 f, .slice a l.length c]), (1, .pointer (some ⟨g2, 0, none⟩)), (2, .bool false), (12, .bool (((decide ((f : Int) < (0 : Int))) && (decide ((0 : Int) < (((l.length : Nat) : Int) : Int))))))]) ⟨rfl, rfl, rfl, rfl, trivial⟩ ?_)
      refine WE.next ?_
      refine WC.ret ?_
      refine WE.thenRet ?_
      refine WE.ret1 rfl rfl ?_
      have hb11 : Below w.heap.size w w8 := (bstep hb5 hb9)
      have z := h10
      exact ⟨_, rfl, congrArg Value.bool (Eq.symm (plain_var (by omega) (by omega))), hb11⟩
    · have h10 : ¬ (((f : Int) < (0 : Int)) ∧ ((0 : Int) < (((l.length : Nat) : Int) : Int))) := by simpa using h10
      refine WC.skip ?_
      refine WE.next ?_
      refine WC.seq ?_
      refine WC.seq ?_
      refine WC.region ?_
      refine WL.val (.int .i64 0) rfl rfl rfl (fun za zC zh zk => wp_assign rfl (zh.ev rfl) zk) ?_
      refine WL.nil (WE.sub (K' := [(0, .agg #[.int .i64 f, .slice a l.length c]), (1, .pointer (some ⟨g2, 0, none⟩)), (2, .bool false), (3, .int .i64 0), (12, .bool (((decide ((f : Int) < (0 : Int))) && (decide ((0 : Int) < (((l.length : Nat) : Int) : Int))))))]) ⟨rfl, rfl, rfl, rfl, rfl, trivial⟩ ?_)
      refine WE.next ?_
      refine WC.block ?_
      refine WC.loop (X := Nat) (fun k => l.length - k) (fun k => [(0, .agg #[.int .i64 f, .slice a l.length c]), (1, .pointer (some ⟨g2, 0, none⟩)), (3, .int .i64 (((k : Nat) : Int))), (12, .bool (((decide ((f : Int) < (0 : Int))) && (decide ((0 : Int) < (((l.length : Nat) : Int) : Int))))))]) (fun k w12 => k ≤ l.length ∧ (∀ i, i < k → (tget l i).plain = true) ∧ Below w.heap.size w w12 ∧ Blk w12 g2 24 #[.int .i64 f, .slice a l.length c]) 0 ⟨rfl, rfl, rfl, rfl, trivial⟩ ?_ ?_
      · have hb13 : Below w.heap.size w w8 := (bstep hb5 hb9)
        have hB14 := hB4.below hb9
        exact ⟨Nat.zero_le _, fun i h => absurd h (Nat.not_lt_zero i), hb13, hB14⟩
      · rintro k w12 ⟨hk, hE, hb15, hB16⟩
        refine WC.seq ?_
        refine WC.seq ?_
        refine WC.region ?_
        refine WL.val (.int .i64 (((k : Nat) : Int))) rfl rfl rfl (fun za zC zh zk => wp_move rfl (zh.ev rfl) zk) ?_
        refine WL.val (.pointer (some ⟨g2, 1, none⟩)) rfl rfl rfl (fun za zC zh zk => fld_24_1 rfl (zh.ev rfl) zk) ?_
        refine WL.val (.slice a l.length c) rfl rfl rfl (fun za zC zh zk => ld_22 rfl (zh.ev rfl) ((hB16.cell 1).trans rfl) zk) ?_
        refine WL.val (.int .i64 (((l.length : Nat) : Int))) rfl rfl rfl (fun za zC zh zk => len_22 rfl (zh.ev rfl) zk) ?_
        refine WL.val (.bool ((decide ((((k : Nat) : Int) : Int) < (((l.length : Nat) : Int) : Int))))) rfl rfl rfl (fun za zC zh zk => lss_3 rfl (zh.ev rfl) (zh.ev rfl) zk) ?_
        refine WL.nil (WE.sub (K' := [(0, .agg #[.int .i64 f, .slice a l.length c]), (1, .pointer (some ⟨g2, 0, none⟩)), (3, .int .i64 (((k : Nat) : Int))), (12, .bool (((decide ((f : Int) < (0 : Int))) && (decide ((0 : Int) < (((l.length : Nat) : Int) : Int)))))), (17, .bool ((decide ((((k : Nat) : Int) : Int) < (((l.length : Nat) : Int) : Int)))))]) ⟨rfl, rfl, rfl, rfl, rfl, trivial⟩ ?_)
        refine WE.next ?_
        refine WC.cond rfl (fun h17 => ?_) (fun h17 => ?_)
        · have h17 : (((k : Nat) : Int) : Int) < (((l.length : Nat) : Int) : Int) := by simpa using h17
          refine WC.skip ?_
          refine WE.next ?_
          refine WC.seq ?_
          refine WC.block ?_
          refine WC.seq ?_
          refine WC.region ?_
          refine WL.val (.pointer (some ⟨g2, 1, none⟩)) rfl rfl rfl (fun za zC zh zk => fld_24_1 rfl (zh.ev rfl) zk) ?_
          refine WL.val (.slice a l.length c) rfl rfl rfl (fun za zC zh zk => ld_22 rfl (zh.ev rfl) ((hB16.cell 1).trans rfl) zk) ?_
          refine WL.val (.int .i64 (((k : Nat) : Int))) rfl rfl rfl (fun za zC zh zk => wp_move rfl (zh.ev rfl) zk) ?_
          obtain ⟨b18, o19, A20, C21, ha22, hc23⟩ := IsTs.open hl
          refine WL.val (.pointer (some ⟨b18, o19 + k * 2, none⟩)) rfl rfl rfl (fun za zC zh zk => ix_22 (k := k) rfl (zh.ev rfl) (ha22 k (by first | omega | (simp; omega))) (zh.ev rfl) (by first | omega | (simp; omega)) zk) ?_
          refine WL.val (.agg #[.int .i64 ((tget l k).f), .slice ((A20 k)) ((tget l k).args.length) ((C21 k))]) rfl rfl rfl (fun za zC zh zk => ld_24 rfl (zh.ev rfl) (bkeeps hb15 _ _ (hc23 k (by first | omega | (simp; omega))).1) (bkeeps hb15 _ _ (hc23 k (by first | omega | (simp; omega))).2.1) zk) ?_
          refine WL.call rfl rfl rfl (fun za zh zC => wp_call (by kernel_rfl) rfl (hv1 (zh.ev rfl))) (ih _ (tget_mem (by omega)) _ _ (size_at (by omega) hz) (IsT.below hb15 (hc23 k (by first | omega | (simp; omega))).2.2)) ?_
          rintro _ w25 ⟨rfl, hq24⟩
          refine WL.val (.bool ((!(tget l k).plain))) rfl rfl rfl (fun za zC zh zk => wp_not rfl (zh.ev rfl) zk) ?_
          refine WL.nil (WE.sub (K' := [(0, .agg #[.int .i64 f, .slice a l.length c]), (1, .pointer (some ⟨g2, 0, none⟩)), (3, .int .i64 (((k : Nat) : Int))), (12, .bool (((decide ((f : Int) < (0 : Int))) && (decide ((0 : Int) < (((l.length : Nat) : Int) : Int)))))), (17, .bool ((decide ((((k : Nat) : Int) : Int) < (((l.length : Nat) : Int) : Int))))), (26, .bool ((!(tget l k).plain)))]) ⟨rfl, rfl, rfl, rfl, rfl, rfl, trivial⟩ ?_)
          refine WE.next ?_
          refine WC.cond rfl (fun h26 => ?_) (fun h26 => ?_)
          · have h26 : ¬ ((tget l k).plain = true) := by simpa using h26
            refine WC.seq ?_
            refine WC.region ?_
            refine WL.val (.bool false) rfl rfl rfl (fun za zC zh zk => wp_assign rfl (zh.ev rfl) zk) ?_
            refine WL.nil (WE.sub (K' := [(0, .agg #[.int .i64 f, .slice a l.length c]), (1, .pointer (some ⟨g2, 0, none⟩)), (2, .bool false), (3, .int .i64 (((k : Nat) : Int))), (12, .bool (((decide ((f : Int) < (0 : Int))) && (decide ((0 : Int) < (((l.length : Nat) : Int) : Int)))))), (17, .bool ((decide ((((k : Nat) : Int) : Int) < (((l.length : Nat) : Int) : Int))))), (26, .bool ((!(tget l k).plain)))]) ⟨rfl, rfl, rfl, rfl, rfl, rfl, rfl, trivial⟩ ?_)
            refine WE.next ?_
            refine WC.ret ?_
            refine WE.blockRet ?_
            refine WE.thenRet ?_
            refine WE.thenRet ?_
            refine WE.blockRet ?_
            refine WE.thenRet ?_
            refine WE.ret1 rfl rfl ?_
            have hb27 : Below w.heap.size w w25 := (bstep hb15 hq24)
            exact ⟨_, rfl, congrArg Value.bool (Eq.symm (plain_no (k := k) (by omega) (by simpa using h26))), hb27⟩
          · have h26 : ¬ (¬ ((tget l k).plain = true)) := by simpa using h26
            refine WC.skip ?_
            refine WE.blockNormal ?_
            refine WE.next ?_
            refine WC.region ?_
            refine WL.val (.int .i64 (((k : Nat) : Int))) rfl rfl rfl (fun za zC zh zk => wp_move rfl (zh.ev rfl) zk) ?_
            refine WL.val (.int .i64 ((((k + 1) : Nat) : Int))) rfl rfl rfl (fun za zC zh zk => addb_3 rfl (zh.ev rfl) (zh.ev rfl) (wrap_eq (by omega) (by omega) (by omega)) zk) ?_
            refine WL.val (.int .i64 ((((k + 1) : Nat) : Int))) rfl rfl rfl (fun za zC zh zk => wp_assign rfl (zh.ev rfl) zk) ?_
            refine WL.nil (WE.sub (K' := [(0, .agg #[.int .i64 f, .slice a l.length c]), (1, .pointer (some ⟨g2, 0, none⟩)), (3, .int .i64 ((((k + 1) : Nat) : Int))), (12, .bool (((decide ((f : Int) < (0 : Int))) && (decide ((0 : Int) < (((l.length : Nat) : Int) : Int)))))), (17, .bool ((decide ((((k : Nat) : Int) : Int) < (((l.length : Nat) : Int) : Int))))), (26, .bool ((!(tget l k).plain)))]) ⟨rfl, rfl, rfl, rfl, rfl, rfl, trivial⟩ ?_)
            refine WE.round (k + 1) ⟨rfl, rfl, rfl, rfl, trivial⟩ ?_ ?_
            · have hb28 : Below w.heap.size w w25 := (bstep hb15 hq24)
              have hB29 := hB16.below hq24
              exact ⟨by omega, fun i hi => by rcases Nat.lt_or_ge i k with q | q; exact hE i q; (obtain rfl : i = k := by omega); simpa using h26, hb28, hB29⟩
            · omega
        · have h17 : ¬ ((((k : Nat) : Int) : Int) < (((l.length : Nat) : Int) : Int)) := by simpa using h17
          refine WC.exit ?_
          refine WE.thenExit ?_
          refine WE.thenExit ?_
          refine WE.blockIs rfl ?_
          refine WE.next ?_
          refine WC.seq ?_
          refine WC.region ?_
          refine WL.val (.bool true) rfl rfl rfl (fun za zC zh zk => wp_assign rfl (zh.ev rfl) zk) ?_
          refine WL.nil (WE.sub (K' := [(0, .agg #[.int .i64 f, .slice a l.length c]), (1, .pointer (some ⟨g2, 0, none⟩)), (2, .bool true), (3, .int .i64 (((k : Nat) : Int))), (12, .bool (((decide ((f : Int) < (0 : Int))) && (decide ((0 : Int) < (((l.length : Nat) : Int) : Int)))))), (17, .bool ((decide ((((k : Nat) : Int) : Int) < (((l.length : Nat) : Int) : Int)))))]) ⟨rfl, rfl, rfl, rfl, rfl, rfl, trivial⟩ ?_)
          refine WE.next ?_
          refine WC.ret ?_
          refine WE.ret1 rfl rfl ?_
          exact ⟨_, rfl, congrArg Value.bool (Eq.symm (plain_yes (by omega) (fun i hi => hE i (by omega)))), hb15⟩

def T.top (t : T) : Bool := decide (t.f = 0) && decide (t.args.length = 0)
def Li.atom (x : Li) : Bool := x.l.top || x.r.top
set_option maxRecDepth 100000 in
theorem ratom_any (x : Li) (w : World) (v : Value) (hv : IsLi w x v) : Calls Try.prog 39 #[v] w (Ret fun v' w' => v' = .bool x.atom ∧ Below w.heap.size w w') := by
  obtain ⟨a1, a2, c1, c2, rfl, hl, hr⟩ := hv.form
  refine Calls.walk (l := [.agg #[.bool x.neg, .int .i64 x.l.f, .slice a1 x.l.args.length c1, .int .i64 x.r.f, .slice a2 x.r.args.length c2]]) Try.func39 rfl (by kernel_rfl) ?_
  refine WC.sub (K' := [(0, .agg #[.bool x.neg, .int .i64 x.l.f, .slice a1 x.l.args.length c1, .int .i64 x.r.f, .slice a2 x.r.args.length c2])]) ⟨rfl, trivial⟩ ?_
  refine WC.seq ?_
  refine WC.region ?_
  refine WL.step (post := NewBlk w 41 #[.bool x.neg, .int .i64 x.l.f, .slice a1 x.l.args.length c1, .int .i64 x.r.f, .slice a2 x.r.args.length c2]) rfl rfl rfl (fun za zC zh zk => box_41 rfl (zh.ev rfl) (zk _ _ (newBlk _ _ _))) ?_
  rintro _ w1 ⟨g2, rfl, hg3, hB4, hb5, hz6⟩
  have hl7 : w.heap.size ≤ g2 := by omega
  refine WL.val (.bool false) rfl rfl rfl (fun za zC zh zk => wp_assign rfl (zh.ev rfl) zk) ?_
  refine WL.nil (WE.sub (K' := [(0, .agg #[.bool x.neg, .int .i64 x.l.f, .slice a1 x.l.args.length c1, .int .i64 x.r.f, .slice a2 x.r.args.length c2]), (1, .pointer (some ⟨g2, 0, none⟩)), (2, .bool false)]) ⟨rfl, rfl, rfl, trivial⟩ ?_)
  refine WE.next ?_
  refine WC.seq ?_
  refine WC.opt [(true, .val (.pointer (some ⟨g2, 1, none⟩))), (true, .val (.pointer (some ⟨g2, 1, none⟩))), (true, .val (.int .i64 x.l.f)), (true, .val (.bool (((x.l.f : Int) == (0 : Int))))), (true, .val (.bool (((x.l.f : Int) == (0 : Int))))), ((true && ((x.l.f : Int) == (0 : Int))), .val (.pointer (some ⟨g2, 1, none⟩))), ((true && ((x.l.f : Int) == (0 : Int))), .val (.pointer (some ⟨g2, 2, none⟩))), ((true && ((x.l.f : Int) == (0 : Int))), .val (.slice a1 x.l.args.length c1)), ((true && ((x.l.f : Int) == (0 : Int))), .val (.int .i64 (((x.l.args.length : Nat) : Int)))), ((true && ((x.l.f : Int) == (0 : Int))), .val (.bool (((((x.l.args.length : Nat) : Int) : Int) == (0 : Int))))), (true, .val (.bool ((((x.l.f : Int) == (0 : Int)) && ((((x.l.args.length : Nat) : Int) : Int) == (0 : Int)))))), (true, .val (.bool ((((x.l.f : Int) == (0 : Int)) && ((((x.l.args.length : Nat) : Int) : Int) == (0 : Int)))))), ((true && !(((x.l.f : Int) == (0 : Int)) && ((((x.l.args.length : Nat) : Int) : Int) == (0 : Int)))), .val (.pointer (some ⟨g2, 3, none⟩))), ((true && !(((x.l.f : Int) == (0 : Int)) && ((((x.l.args.length : Nat) : Int) : Int) == (0 : Int)))), .val (.pointer (some ⟨g2, 3, none⟩))), ((true && !(((x.l.f : Int) == (0 : Int)) && ((((x.l.args.length : Nat) : Int) : Int) == (0 : Int)))), .val (.int .i64 x.r.f)), ((true && !(((x.l.f : Int) == (0 : Int)) && ((((x.l.args.length : Nat) : Int) : Int) == (0 : Int)))), .val (.bool (((x.r.f : Int) == (0 : Int))))), ((true && !(((x.l.f : Int) == (0 : Int)) && ((((x.l.args.length : Nat) : Int) : Int) == (0 : Int)))), .val (.bool (((x.r.f : Int) == (0 : Int))))), (((true && !(((x.l.f : Int) == (0 : Int)) && ((((x.l.args.length : Nat) : Int) : Int) == (0 : Int)))) && ((x.r.f : Int) == (0 : Int))), .val (.pointer (some ⟨g2, 3, none⟩))), (((true && !(((x.l.f : Int) == (0 : Int)) && ((((x.l.args.length : Nat) : Int) : Int) == (0 : Int)))) && ((x.r.f : Int) == (0 : Int))), .val (.pointer (some ⟨g2, 4, none⟩))), (((true && !(((x.l.f : Int) == (0 : Int)) && ((((x.l.args.length : Nat) : Int) : Int) == (0 : Int)))) && ((x.r.f : Int) == (0 : Int))), .val (.slice a2 x.r.args.length c2)), (((true && !(((x.l.f : Int) == (0 : Int)) && ((((x.l.args.length : Nat) : Int) : Int) == (0 : Int)))) && ((x.r.f : Int) == (0 : Int))), .val (.int .i64 (((x.r.args.length : Nat) : Int)))), (((true && !(((x.l.f : Int) == (0 : Int)) && ((((x.l.args.length : Nat) : Int) : Int) == (0 : Int)))) && ((x.r.f : Int) == (0 : Int))), .val (.bool (((((x.r.args.length : Nat) : Int) : Int) == (0 : Int))))), ((true && !(((x.l.f : Int) == (0 : Int)) && ((((x.l.args.length : Nat) : Int) : Int) == (0 : Int)))), .val (.bool ((((x.r.f : Int) == (0 : Int)) && ((((x.r.args.length : Nat) : Int) : Int) == (0 : Int)))))), (true, .val (.bool (((((x.l.f : Int) == (0 : Int)) && ((((x.l.args.length : Nat) : Int) : Int) == (0 : Int))) || (((x.r.f : Int) == (0 : Int)) && ((((x.r.args.length : Nat) : Int) : Int) == (0 : Int))))))), (true, .val (.bool (((((x.l.f : Int) == (0 : Int)) && ((((x.l.args.length : Nat) : Int) : Int) == (0 : Int))) || (((x.r.f : Int) == (0 : Int)) && ((((x.r.args.length : Nat) : Int) : Int) == (0 : Int)))))))] [(0, .agg #[.bool x.neg, .int .i64 x.l.f, .slice a1 x.l.args.length c1, .int .i64 x.r.f, .slice a2 x.r.args.length c2]), (1, .pointer (some ⟨g2, 0, none⟩))] ⟨rfl, rfl, trivial⟩ (by kernel_rfl) (by kernel_rfl) (by kernel_rfl) ?_ ?_
  · refine ⟨⟨true, .none rfl, fun h w => optUndef h, fun zβ za zw zc => ?_⟩, ?_⟩
    · exact fld_41_1 rfl (zc.kn.ev rfl) ⟨_, rfl, Below.refl _ _, optDef zβ rfl⟩
    refine ⟨⟨true, .none rfl, fun h w => optUndef h, fun zβ za zw zc => ?_⟩, ?_⟩
    · exact fld_24_0 rfl ((show za.eval (.tmp 3) = za.tmps.getD 3 undef from rfl).trans (optVal (zc.dep 0 3 (by kernel_rfl)) rfl rfl)) ⟨_, rfl, Below.refl _ _, optDef zβ rfl⟩
    refine ⟨⟨true, .none rfl, fun h w => optUndef h, fun zβ za zw zc => ?_⟩, ?_⟩
    · exact ld_3 rfl ((show za.eval (.tmp 4) = za.tmps.getD 4 undef from rfl).trans (optVal (zc.dep 1 4 (by kernel_rfl)) rfl rfl)) (bkeeps zc.below _ _ ((hB4.cell 1).trans rfl)) ⟨_, rfl, Below.refl _ _, optDef zβ rfl⟩
    refine ⟨⟨true, .none rfl, fun h w => optUndef h, fun zβ za zw zc => ?_⟩, ?_⟩
    · exact eql_3 rfl ((show za.eval (.tmp 5) = za.tmps.getD 5 undef from rfl).trans (optVal (zc.dep 2 5 (by kernel_rfl)) rfl rfl)) (zc.kn.ev rfl) ⟨_, rfl, Below.refl _ _, optDef zβ rfl⟩
    refine ⟨⟨true, .none rfl, fun h w => optUndef h, fun zβ za zw zc => ?_⟩, ?_⟩
    · exact wp_move rfl ((show za.eval (.tmp 6) = za.tmps.getD 6 undef from rfl).trans (optVal (zc.dep 3 6 (by kernel_rfl)) rfl rfl)) ⟨_, rfl, Below.refl _ _, optDef zβ rfl⟩
    refine ⟨⟨(true && ((x.l.f : Int) == (0 : Int))), .yes (c := ((x.l.f : Int) == (0 : Int))) (d := true) rfl (fun v w h => h), fun h w => optUndef h, fun zβ za zw zc => ?_⟩, ?_⟩
    · exact fld_41_1 rfl (zc.kn.ev rfl) ⟨_, rfl, Below.refl _ _, optDef zβ rfl⟩
    refine ⟨⟨(true && ((x.l.f : Int) == (0 : Int))), .yes (c := ((x.l.f : Int) == (0 : Int))) (d := true) rfl (fun v w h => h), fun h w => optUndef h, fun zβ za zw zc => ?_⟩, ?_⟩
    · exact fld_24_1 rfl ((show za.eval (.tmp 8) = za.tmps.getD 8 undef from rfl).trans (optVal (zc.dep 5 8 (by kernel_rfl)) rfl zβ)) ⟨_, rfl, Below.refl _ _, optDef zβ rfl⟩
    refine ⟨⟨(true && ((x.l.f : Int) == (0 : Int))), .yes (c := ((x.l.f : Int) == (0 : Int))) (d := true) rfl (fun v w h => h), fun h w => optUndef h, fun zβ za zw zc => ?_⟩, ?_⟩
    · exact ld_22 rfl ((show za.eval (.tmp 9) = za.tmps.getD 9 undef from rfl).trans (optVal (zc.dep 6 9 (by kernel_rfl)) rfl zβ)) (bkeeps zc.below _ _ ((hB4.cell 2).trans rfl)) ⟨_, rfl, Below.refl _ _, optDef zβ rfl⟩
    refine ⟨⟨(true && ((x.l.f : Int) == (0 : Int))), .yes (c := ((x.l.f : Int) == (0 : Int))) (d := true) rfl (fun v w h => h), fun h w => optUndef h, fun zβ za zw zc => ?_⟩, ?_⟩
    · exact len_22 rfl ((show za.eval (.tmp 10) = za.tmps.getD 10 undef from rfl).trans (optVal (zc.dep 7 10 (by kernel_rfl)) rfl zβ)) ⟨_, rfl, Below.refl _ _, optDef zβ rfl⟩
    refine ⟨⟨(true && ((x.l.f : Int) == (0 : Int))), .yes (c := ((x.l.f : Int) == (0 : Int))) (d := true) rfl (fun v w h => h), fun h w => optUndef h, fun zβ za zw zc => ?_⟩, ?_⟩
    · exact eql_3 rfl ((show za.eval (.tmp 11) = za.tmps.getD 11 undef from rfl).trans (optVal (zc.dep 8 11 (by kernel_rfl)) rfl zβ)) (zc.kn.ev rfl) ⟨_, rfl, Below.refl _ _, optDef zβ rfl⟩
    refine ⟨⟨true, .none rfl, fun h w => optUndef h, fun zβ za zw zc => ?_⟩, ?_⟩
    · exact wp_and rfl ((show za.eval (.tmp 7) = za.tmps.getD 7 undef from rfl).trans (optVal (zc.dep 4 7 (by kernel_rfl)) rfl rfl)) (fun hp => ((show za.eval (.tmp 12) = za.tmps.getD 12 undef from rfl).trans (optVal (zc.dep 9 12 (by kernel_rfl)) rfl (bMk zβ hp)))) ⟨_, rfl, Below.refl _ _, optDef zβ rfl⟩
    refine ⟨⟨true, .none rfl, fun h w => optUndef h, fun zβ za zw zc => ?_⟩, ?_⟩
    · exact wp_move rfl ((show za.eval (.tmp 13) = za.tmps.getD 13 undef from rfl).trans (optVal (zc.dep 10 13 (by kernel_rfl)) rfl rfl)) ⟨_, rfl, Below.refl _ _, optDef zβ rfl⟩
    refine ⟨⟨(true && !(((x.l.f : Int) == (0 : Int)) && ((((x.l.args.length : Nat) : Int) : Int) == (0 : Int)))), .no (c := (((x.l.f : Int) == (0 : Int)) && ((((x.l.args.length : Nat) : Int) : Int) == (0 : Int)))) (d := true) rfl (fun v w h => h), fun h w => optUndef h, fun zβ za zw zc => ?_⟩, ?_⟩
    · exact fld_41_2 rfl (zc.kn.ev rfl) ⟨_, rfl, Below.refl _ _, optDef zβ rfl⟩
    refine ⟨⟨(true && !(((x.l.f : Int) == (0 : Int)) && ((((x.l.args.length : Nat) : Int) : Int) == (0 : Int)))), .no (c := (((x.l.f : Int) == (0 : Int)) && ((((x.l.args.length : Nat) : Int) : Int) == (0 : Int)))) (d := true) rfl (fun v w h => h), fun h w => optUndef h, fun zβ za zw zc => ?_⟩, ?_⟩
    · exact fld_24_0 rfl ((show za.eval (.tmp 15) = za.tmps.getD 15 undef from rfl).trans (optVal (zc.dep 12 15 (by kernel_rfl)) rfl zβ)) ⟨_, rfl, Below.refl _ _, optDef zβ rfl⟩
    refine ⟨⟨(true && !(((x.l.f : Int) == (0 : Int)) && ((((x.l.args.length : Nat) : Int) : Int) == (0 : Int)))), .no (c := (((x.l.f : Int) == (0 : Int)) && ((((x.l.args.length : Nat) : Int) : Int) == (0 : Int)))) (d := true) rfl (fun v w h => h), fun h w => optUndef h, fun zβ za zw zc => ?_⟩, ?_⟩
    · exact ld_3 rfl ((show za.eval (.tmp 16) = za.tmps.getD 16 undef from rfl).trans (optVal (zc.dep 13 16 (by kernel_rfl)) rfl zβ)) (bkeeps zc.below _ _ ((hB4.cell 3).trans rfl)) ⟨_, rfl, Below.refl _ _, optDef zβ rfl⟩
    refine ⟨⟨(true && !(((x.l.f : Int) == (0 : Int)) && ((((x.l.args.length : Nat) : Int) : Int) == (0 : Int)))), .no (c := (((x.l.f : Int) == (0 : Int)) && ((((x.l.args.length : Nat) : Int) : Int) == (0 : Int)))) (d := true) rfl (fun v w h => h), fun h w => optUndef h, fun zβ za zw zc => ?_⟩, ?_⟩
    · exact eql_3 rfl ((show za.eval (.tmp 17) = za.tmps.getD 17 undef from rfl).trans (optVal (zc.dep 14 17 (by kernel_rfl)) rfl zβ)) (zc.kn.ev rfl) ⟨_, rfl, Below.refl _ _, optDef zβ rfl⟩
    refine ⟨⟨(true && !(((x.l.f : Int) == (0 : Int)) && ((((x.l.args.length : Nat) : Int) : Int) == (0 : Int)))), .no (c := (((x.l.f : Int) == (0 : Int)) && ((((x.l.args.length : Nat) : Int) : Int) == (0 : Int)))) (d := true) rfl (fun v w h => h), fun h w => optUndef h, fun zβ za zw zc => ?_⟩, ?_⟩
    · exact wp_move rfl ((show za.eval (.tmp 18) = za.tmps.getD 18 undef from rfl).trans (optVal (zc.dep 15 18 (by kernel_rfl)) rfl zβ)) ⟨_, rfl, Below.refl _ _, optDef zβ rfl⟩
    refine ⟨⟨((true && !(((x.l.f : Int) == (0 : Int)) && ((((x.l.args.length : Nat) : Int) : Int) == (0 : Int)))) && ((x.r.f : Int) == (0 : Int))), .yes (c := ((x.r.f : Int) == (0 : Int))) (d := (true && !(((x.l.f : Int) == (0 : Int)) && ((((x.l.args.length : Nat) : Int) : Int) == (0 : Int))))) rfl (fun v w h => h), fun h w => optUndef h, fun zβ za zw zc => ?_⟩, ?_⟩
    · exact fld_41_2 rfl (zc.kn.ev rfl) ⟨_, rfl, Below.refl _ _, optDef zβ rfl⟩
    refine ⟨⟨((true && !(((x.l.f : Int) == (0 : Int)) && ((((x.l.args.length : Nat) : Int) : Int) == (0 : Int)))) && ((x.r.f : Int) == (0 : Int))), .yes (c := ((x.r.f : Int) == (0 : Int))) (d := (true && !(((x.l.f : Int) == (0 : Int)) && ((((x.l.args.length : Nat) : Int) : Int) == (0 : Int))))) rfl (fun v w h => h), fun h w => optUndef h, fun zβ za zw zc => ?_⟩, ?_⟩
    · exact fld_24_1 rfl ((show za.eval (.tmp 20) = za.tmps.getD 20 undef from rfl).trans (optVal (zc.dep 17 20 (by kernel_rfl)) rfl zβ)) ⟨_, rfl, Below.refl _ _, optDef zβ rfl⟩
    refine ⟨⟨((true && !(((x.l.f : Int) == (0 : Int)) && ((((x.l.args.length : Nat) : Int) : Int) == (0 : Int)))) && ((x.r.f : Int) == (0 : Int))), .yes (c := ((x.r.f : Int) == (0 : Int))) (d := (true && !(((x.l.f : Int) == (0 : Int)) && ((((x.l.args.length : Nat) : Int) : Int) == (0 : Int))))) rfl (fun v w h => h), fun h w => optUndef h, fun zβ za zw zc => ?_⟩, ?_⟩
    · exact ld_22 rfl ((show za.eval (.tmp 21) = za.tmps.getD 21 undef from rfl).trans (optVal (zc.dep 18 21 (by kernel_rfl)) rfl zβ)) (bkeeps zc.below _ _ ((hB4.cell 4).trans rfl)) ⟨_, rfl, Below.refl _ _, optDef zβ rfl⟩
    refine ⟨⟨((true && !(((x.l.f : Int) == (0 : Int)) && ((((x.l.args.length : Nat) : Int) : Int) == (0 : Int)))) && ((x.r.f : Int) == (0 : Int))), .yes (c := ((x.r.f : Int) == (0 : Int))) (d := (true && !(((x.l.f : Int) == (0 : Int)) && ((((x.l.args.length : Nat) : Int) : Int) == (0 : Int))))) rfl (fun v w h => h), fun h w => optUndef h, fun zβ za zw zc => ?_⟩, ?_⟩
    · exact len_22 rfl ((show za.eval (.tmp 22) = za.tmps.getD 22 undef from rfl).trans (optVal (zc.dep 19 22 (by kernel_rfl)) rfl zβ)) ⟨_, rfl, Below.refl _ _, optDef zβ rfl⟩
    refine ⟨⟨((true && !(((x.l.f : Int) == (0 : Int)) && ((((x.l.args.length : Nat) : Int) : Int) == (0 : Int)))) && ((x.r.f : Int) == (0 : Int))), .yes (c := ((x.r.f : Int) == (0 : Int))) (d := (true && !(((x.l.f : Int) == (0 : Int)) && ((((x.l.args.length : Nat) : Int) : Int) == (0 : Int))))) rfl (fun v w h => h), fun h w => optUndef h, fun zβ za zw zc => ?_⟩, ?_⟩
    · exact eql_3 rfl ((show za.eval (.tmp 23) = za.tmps.getD 23 undef from rfl).trans (optVal (zc.dep 20 23 (by kernel_rfl)) rfl zβ)) (zc.kn.ev rfl) ⟨_, rfl, Below.refl _ _, optDef zβ rfl⟩
    refine ⟨⟨(true && !(((x.l.f : Int) == (0 : Int)) && ((((x.l.args.length : Nat) : Int) : Int) == (0 : Int)))), .no (c := (((x.l.f : Int) == (0 : Int)) && ((((x.l.args.length : Nat) : Int) : Int) == (0 : Int)))) (d := true) rfl (fun v w h => h), fun h w => optUndef h, fun zβ za zw zc => ?_⟩, ?_⟩
    · exact wp_and rfl ((show za.eval (.tmp 19) = za.tmps.getD 19 undef from rfl).trans (optVal (zc.dep 16 19 (by kernel_rfl)) rfl zβ)) (fun hp => ((show za.eval (.tmp 24) = za.tmps.getD 24 undef from rfl).trans (optVal (zc.dep 21 24 (by kernel_rfl)) rfl (bMk zβ hp)))) ⟨_, rfl, Below.refl _ _, optDef zβ rfl⟩
    refine ⟨⟨true, .none rfl, fun h w => optUndef h, fun zβ za zw zc => ?_⟩, ?_⟩
    · exact wp_or rfl ((show za.eval (.tmp 14) = za.tmps.getD 14 undef from rfl).trans (optVal (zc.dep 11 14 (by kernel_rfl)) rfl rfl)) (fun hp => ((show za.eval (.tmp 25) = za.tmps.getD 25 undef from rfl).trans (optVal (zc.dep 22 25 (by kernel_rfl)) rfl (bMkN zβ hp)))) ⟨_, rfl, Below.refl _ _, optDef zβ rfl⟩
    refine ⟨⟨true, .none rfl, fun h w => optUndef h, fun zβ za zw zc => ?_⟩, ?_⟩
    · exact wp_assign rfl ((show za.eval (.tmp 26) = za.tmps.getD 26 undef from rfl).trans (optVal (zc.dep 23 26 (by kernel_rfl)) rfl rfl)) ⟨_, rfl, Below.refl _ _, optDef zβ rfl⟩
    exact trivial
  · intro za w8 zh hb9 zu
    have zh := zh.cons (d := 2) (v := .bool (((((x.l.f : Int) == (0 : Int)) && ((((x.l.args.length : Nat) : Int) : Int) == (0 : Int))) || (((x.r.f : Int) == (0 : Int)) && ((((x.r.args.length : Nat) : Int) : Int) == (0 : Int)))))) (optVal (zu 24 2 (by kernel_rfl)) rfl rfl)
    clear zu
    refine (show WE _ [(0, .agg #[.bool x.neg, .int .i64 x.l.f, .slice a1 x.l.args.length c1, .int .i64 x.r.f, .slice a2 x.r.args.length c2]), (1, .pointer (some ⟨g2, 0, none⟩)), (2, .bool (((((x.l.f : Int) == (0 : Int)) && ((((x.l.args.length : Nat) : Int) : Int) == (0 : Int))) || (((x.r.f : Int) == (0 : Int)) && ((((x.r.args.length : Nat) : Int) : Int) == (0 : Int))))))] w8 _ .normal from ?_) za (zh.sub ⟨rfl, rfl, rfl, trivial⟩)
    refine WE.next ?_
    refine WC.ret ?_
    refine WE.ret1 rfl rfl ?_
    have hb10 : Below w.heap.size w w8 := (bstep hb5 hb9)
    exact ⟨_, rfl, congrArg Value.bool (by rw [Bool.eq_iff_iff]; simp [Li.atom, T.top]), hb10⟩

set_option maxRecDepth 100000 in
theorem atom_any (x : Li) (w : World) (g : Nat) (a1 a2 : Option Addr) (c1 c2 : Nat) (hB : Blk w g 41 #[.bool x.neg, .int .i64 x.l.f, .slice a1 x.l.args.length c1, .int .i64 x.r.f, .slice a2 x.r.args.length c2]) : Calls Try.prog 60 #[.pointer (some ⟨g, 0, none⟩)] w (Ret fun v' w' => v' = .bool x.atom ∧ Below w.heap.size w w') := by
  have hgl := hB.lt
  refine Calls.walk (l := [.pointer (some ⟨g, 0, none⟩)]) Try.func60 rfl (by kernel_rfl) ?_
  refine WC.sub (K' := [(0, .pointer (some ⟨g, 0, none⟩))]) ⟨rfl, trivial⟩ ?_
  refine WC.seq ?_
  refine WC.region ?_
  refine WL.val (.bool false) rfl rfl rfl (fun za zC zh zk => wp_assign rfl (zh.ev rfl) zk) ?_
  refine WL.nil (WE.sub (K' := [(0, .pointer (some ⟨g, 0, none⟩)), (2, .bool false)]) ⟨rfl, rfl, trivial⟩ ?_)
  refine WE.next ?_
  refine WC.seq ?_
  refine WC.opt [(true, .val (.pointer (some ⟨g, 0, none⟩))), (true, .val (.pointer (some ⟨g, 0, none⟩))), (true, .val (.pointer (some ⟨g, 1, none⟩))), (true, .val (.pointer (some ⟨g, 1, none⟩))), (true, .val (.int .i64 x.l.f)), (true, .val (.bool (((x.l.f : Int) == (0 : Int))))), (true, .val (.bool (((x.l.f : Int) == (0 : Int))))), ((true && ((x.l.f : Int) == (0 : Int))), .val (.pointer (some ⟨g, 0, none⟩))), ((true && ((x.l.f : Int) == (0 : Int))), .val (.pointer (some ⟨g, 0, none⟩))), ((true && ((x.l.f : Int) == (0 : Int))), .val (.pointer (some ⟨g, 1, none⟩))), ((true && ((x.l.f : Int) == (0 : Int))), .val (.pointer (some ⟨g, 2, none⟩))), ((true && ((x.l.f : Int) == (0 : Int))), .val (.slice a1 x.l.args.length c1)), ((true && ((x.l.f : Int) == (0 : Int))), .val (.int .i64 (((x.l.args.length : Nat) : Int)))), ((true && ((x.l.f : Int) == (0 : Int))), .val (.bool (((((x.l.args.length : Nat) : Int) : Int) == (0 : Int))))), (true, .val (.bool ((((x.l.f : Int) == (0 : Int)) && ((((x.l.args.length : Nat) : Int) : Int) == (0 : Int)))))), (true, .val (.bool ((((x.l.f : Int) == (0 : Int)) && ((((x.l.args.length : Nat) : Int) : Int) == (0 : Int)))))), ((true && !(((x.l.f : Int) == (0 : Int)) && ((((x.l.args.length : Nat) : Int) : Int) == (0 : Int)))), .val (.pointer (some ⟨g, 0, none⟩))), ((true && !(((x.l.f : Int) == (0 : Int)) && ((((x.l.args.length : Nat) : Int) : Int) == (0 : Int)))), .val (.pointer (some ⟨g, 0, none⟩))), ((true && !(((x.l.f : Int) == (0 : Int)) && ((((x.l.args.length : Nat) : Int) : Int) == (0 : Int)))), .val (.pointer (some ⟨g, 3, none⟩))), ((true && !(((x.l.f : Int) == (0 : Int)) && ((((x.l.args.length : Nat) : Int) : Int) == (0 : Int)))), .val (.pointer (some ⟨g, 3, none⟩))), ((true && !(((x.l.f : Int) == (0 : Int)) && ((((x.l.args.length : Nat) : Int) : Int) == (0 : Int)))), .val (.int .i64 x.r.f)), ((true && !(((x.l.f : Int) == (0 : Int)) && ((((x.l.args.length : Nat) : Int) : Int) == (0 : Int)))), .val (.bool (((x.r.f : Int) == (0 : Int))))), ((true && !(((x.l.f : Int) == (0 : Int)) && ((((x.l.args.length : Nat) : Int) : Int) == (0 : Int)))), .val (.bool (((x.r.f : Int) == (0 : Int))))), (((true && !(((x.l.f : Int) == (0 : Int)) && ((((x.l.args.length : Nat) : Int) : Int) == (0 : Int)))) && ((x.r.f : Int) == (0 : Int))), .val (.pointer (some ⟨g, 0, none⟩))), (((true && !(((x.l.f : Int) == (0 : Int)) && ((((x.l.args.length : Nat) : Int) : Int) == (0 : Int)))) && ((x.r.f : Int) == (0 : Int))), .val (.pointer (some ⟨g, 0, none⟩))), (((true && !(((x.l.f : Int) == (0 : Int)) && ((((x.l.args.length : Nat) : Int) : Int) == (0 : Int)))) && ((x.r.f : Int) == (0 : Int))), .val (.pointer (some ⟨g, 3, none⟩))), (((true && !(((x.l.f : Int) == (0 : Int)) && ((((x.l.args.length : Nat) : Int) : Int) == (0 : Int)))) && ((x.r.f : Int) == (0 : Int))), .val (.pointer (some ⟨g, 4, none⟩))), (((true && !(((x.l.f : Int) == (0 : Int)) && ((((x.l.args.length : Nat) : Int) : Int) == (0 : Int)))) && ((x.r.f : Int) == (0 : Int))), .val (.slice a2 x.r.args.length c2)), (((true && !(((x.l.f : Int) == (0 : Int)) && ((((x.l.args.length : Nat) : Int) : Int) == (0 : Int)))) && ((x.r.f : Int) == (0 : Int))), .val (.int .i64 (((x.r.args.length : Nat) : Int)))), (((true && !(((x.l.f : Int) == (0 : Int)) && ((((x.l.args.length : Nat) : Int) : Int) == (0 : Int)))) && ((x.r.f : Int) == (0 : Int))), .val (.bool (((((x.r.args.length : Nat) : Int) : Int) == (0 : Int))))), ((true && !(((x.l.f : Int) == (0 : Int)) && ((((x.l.args.length : Nat) : Int) : Int) == (0 : Int)))), .val (.bool ((((x.r.f : Int) == (0 : Int)) && ((((x.r.args.length : Nat) : Int) : Int) == (0 : Int)))))), (true, .val (.bool (((((x.l.f : Int) == (0 : Int)) && ((((x.l.args.length : Nat) : Int) : Int) == (0 : Int))) || (((x.r.f : Int) == (0 : Int)) && ((((x.r.args.length : Nat) : Int) : Int) == (0 : Int))))))), (true, .val (.bool (((((x.l.f : Int) == (0 : Int)) && ((((x.l.args.length : Nat) : Int) : Int) == (0 : Int))) || (((x.r.f : Int) == (0 : Int)) && ((((x.r.args.length : Nat) : Int) : Int) == (0 : Int)))))))] [(0, .pointer (some ⟨g, 0, none⟩))] ⟨rfl, trivial⟩ (by kernel_rfl) (by kernel_rfl) (by kernel_rfl) ?_ ?_
  · refine ⟨⟨true, .none rfl, fun h w => optUndef h, fun zβ za zw zc => ?_⟩, ?_⟩
    · exact wp_move rfl (zc.kn.ev rfl) ⟨_, rfl, Below.refl _ _, optDef zβ rfl⟩
    refine ⟨⟨true, .none rfl, fun h w => optUndef h, fun zβ za zw zc => ?_⟩, ?_⟩
    · exact nilCheck_ rfl ((show za.eval (.tmp 3) = za.tmps.getD 3 undef from rfl).trans (optVal (zc.dep 0 3 (by kernel_rfl)) rfl rfl)) ⟨_, rfl, Below.refl _ _, optDef zβ rfl⟩
    refine ⟨⟨true, .none rfl, fun h w => optUndef h, fun zβ za zw zc => ?_⟩, ?_⟩
    · exact fld_41_1 rfl ((show za.eval (.tmp 4) = za.tmps.getD 4 undef from rfl).trans (optVal (zc.dep 1 4 (by kernel_rfl)) rfl rfl)) ⟨_, rfl, Below.refl _ _, optDef zβ rfl⟩
    refine ⟨⟨true, .none rfl, fun h w => optUndef h, fun zβ za zw zc => ?_⟩, ?_⟩
    · exact fld_24_0 rfl ((show za.eval (.tmp 5) = za.tmps.getD 5 undef from rfl).trans (optVal (zc.dep 2 5 (by kernel_rfl)) rfl rfl)) ⟨_, rfl, Below.refl _ _, optDef zβ rfl⟩
    refine ⟨⟨true, .none rfl, fun h w => optUndef h, fun zβ za zw zc => ?_⟩, ?_⟩
    · exact ld_3 rfl ((show za.eval (.tmp 6) = za.tmps.getD 6 undef from rfl).trans (optVal (zc.dep 3 6 (by kernel_rfl)) rfl rfl)) (bkeeps zc.below _ _ ((hB.cell 1).trans rfl)) ⟨_, rfl, Below.refl _ _, optDef zβ rfl⟩
    refine ⟨⟨true, .none rfl, fun h w => optUndef h, fun zβ za zw zc => ?_⟩, ?_⟩
    · exact eql_3 rfl ((show za.eval (.tmp 7) = za.tmps.getD 7 undef from rfl).trans (optVal (zc.dep 4 7 (by kernel_rfl)) rfl rfl)) (zc.kn.ev rfl) ⟨_, rfl, Below.refl _ _, optDef zβ rfl⟩
    refine ⟨⟨true, .none rfl, fun h w => optUndef h, fun zβ za zw zc => ?_⟩, ?_⟩
    · exact wp_move rfl ((show za.eval (.tmp 8) = za.tmps.getD 8 undef from rfl).trans (optVal (zc.dep 5 8 (by kernel_rfl)) rfl rfl)) ⟨_, rfl, Below.refl _ _, optDef zβ rfl⟩
    refine ⟨⟨(true && ((x.l.f : Int) == (0 : Int))), .yes (c := ((x.l.f : Int) == (0 : Int))) (d := true) rfl (fun v w h => h), fun h w => optUndef h, fun zβ za zw zc => ?_⟩, ?_⟩
    · exact wp_move rfl (zc.kn.ev rfl) ⟨_, rfl, Below.refl _ _, optDef zβ rfl⟩
    refine ⟨⟨(true && ((x.l.f : Int) == (0 : Int))), .yes (c := ((x.l.f : Int) == (0 : Int))) (d := true) rfl (fun v w h => h), fun h w => optUndef h, fun zβ za zw zc => ?_⟩, ?_⟩
    · exact nilCheck_ rfl ((show za.eval (.tmp 10) = za.tmps.getD 10 undef from rfl).trans (optVal (zc.dep 7 10 (by kernel_rfl)) rfl zβ)) ⟨_, rfl, Below.refl _ _, optDef zβ rfl⟩
    refine ⟨⟨(true && ((x.l.f : Int) == (0 : Int))), .yes (c := ((x.l.f : Int) == (0 : Int))) (d := true) rfl (fun v w h => h), fun h w => optUndef h, fun zβ za zw zc => ?_⟩, ?_⟩
    · exact fld_41_1 rfl ((show za.eval (.tmp 11) = za.tmps.getD 11 undef from rfl).trans (optVal (zc.dep 8 11 (by kernel_rfl)) rfl zβ)) ⟨_, rfl, Below.refl _ _, optDef zβ rfl⟩
    refine ⟨⟨(true && ((x.l.f : Int) == (0 : Int))), .yes (c := ((x.l.f : Int) == (0 : Int))) (d := true) rfl (fun v w h => h), fun h w => optUndef h, fun zβ za zw zc => ?_⟩, ?_⟩
    · exact fld_24_1 rfl ((show za.eval (.tmp 12) = za.tmps.getD 12 undef from rfl).trans (optVal (zc.dep 9 12 (by kernel_rfl)) rfl zβ)) ⟨_, rfl, Below.refl _ _, optDef zβ rfl⟩
    refine ⟨⟨(true && ((x.l.f : Int) == (0 : Int))), .yes (c := ((x.l.f : Int) == (0 : Int))) (d := true) rfl (fun v w h => h), fun h w => optUndef h, fun zβ za zw zc => ?_⟩, ?_⟩
    · exact ld_22 rfl ((show za.eval (.tmp 13) = za.tmps.getD 13 undef from rfl).trans (optVal (zc.dep 10 13 (by kernel_rfl)) rfl zβ)) (bkeeps zc.below _ _ ((hB.cell 2).trans rfl)) ⟨_, rfl, Below.refl _ _, optDef zβ rfl⟩
    refine ⟨⟨(true && ((x.l.f : Int) == (0 : Int))), .yes (c := ((x.l.f : Int) == (0 : Int))) (d := true) rfl (fun v w h => h), fun h w => optUndef h, fun zβ za zw zc => ?_⟩, ?_⟩
    · exact len_22 rfl ((show za.eval (.tmp 14) = za.tmps.getD 14 undef from rfl).trans (optVal (zc.dep 11 14 (by kernel_rfl)) rfl zβ)) ⟨_, rfl, Below.refl _ _, optDef zβ rfl⟩
    refine ⟨⟨(true && ((x.l.f : Int) == (0 : Int))), .yes (c := ((x.l.f : Int) == (0 : Int))) (d := true) rfl (fun v w h => h), fun h w => optUndef h, fun zβ za zw zc => ?_⟩, ?_⟩
    · exact eql_3 rfl ((show za.eval (.tmp 15) = za.tmps.getD 15 undef from rfl).trans (optVal (zc.dep 12 15 (by kernel_rfl)) rfl zβ)) (zc.kn.ev rfl) ⟨_, rfl, Below.refl _ _, optDef zβ rfl⟩
    refine ⟨⟨true, .none rfl, fun h w => optUndef h, fun zβ za zw zc => ?_⟩, ?_⟩
    · exact wp_and rfl ((show za.eval (.tmp 9) = za.tmps.getD 9 undef from rfl).trans (optVal (zc.dep 6 9 (by kernel_rfl)) rfl rfl)) (fun hp => ((show za.eval (.tmp 16) = za.tmps.getD 16 undef from rfl).trans (optVal (zc.dep 13 16 (by kernel_rfl)) rfl (bMk zβ hp)))) ⟨_, rfl, Below.refl _ _, optDef zβ rfl⟩
    refine ⟨⟨true, .none rfl, fun h w => optUndef h, fun zβ za zw zc => ?_⟩, ?_⟩
    · exact wp_move rfl ((show za.eval (.tmp 17) = za.tmps.getD 17 undef from rfl).trans (optVal (zc.dep 14 17 (by kernel_rfl)) rfl rfl)) ⟨_, rfl, Below.refl _ _, optDef zβ rfl⟩
    refine ⟨⟨(true && !(((x.l.f : Int) == (0 : Int)) && ((((x.l.args.length : Nat) : Int) : Int) == (0 : Int)))), .no (c := (((x.l.f : Int) == (0 : Int)) && ((((x.l.args.length : Nat) : Int) : Int) == (0 : Int)))) (d := true) rfl (fun v w h => h), fun h w => optUndef h, fun zβ za zw zc => ?_⟩, ?_⟩
    · exact wp_move rfl (zc.kn.ev rfl) ⟨_, rfl, Below.refl _ _, optDef zβ rfl⟩
    refine ⟨⟨(true && !(((x.l.f : Int) == (0 : Int)) && ((((x.l.args.length : Nat) : Int) : Int) == (0 : Int)))), .no (c := (((x.l.f : Int) == (0 : Int)) && ((((x.l.args.length : Nat) : Int) : Int) == (0 : Int)))) (d := true) rfl (fun v w h => h), fun h w => optUndef h, fun zβ za zw zc => ?_⟩, ?_⟩
    · exact nilCheck_ rfl ((show za.eval (.tmp 19) = za.tmps.getD 19 undef from rfl).trans (optVal (zc.dep 16 19 (by kernel_rfl)) rfl zβ)) ⟨_, rfl, Below.refl _ _, optDef zβ rfl⟩
    refine ⟨⟨(true && !(((x.l.f : Int) == (0 : Int)) && ((((x.l.args.length : Nat) : Int) : Int) == (0 : Int)))), .no (c := (((x.l.f : Int) == (0 : Int)) && ((((x.l.args.length : Nat) : Int) : Int) == (0 : Int)))) (d := true) rfl (fun v w h => h), fun h w => optUndef h, fun zβ za zw zc => ?_⟩, ?_⟩
    · exact fld_41_2 rfl ((show za.eval (.tmp 20) = za.tmps.getD 20 undef from rfl).trans (optVal (zc.dep 17 20 (by kernel_rfl)) rfl zβ)) ⟨_, rfl, Below.refl _ _, optDef zβ rfl⟩
    refine ⟨⟨(true && !(((x.l.f : Int) == (0 : Int)) && ((((x.l.args.length : Nat) : Int) : Int) == (0 : Int)))), .no (c := (((x.l.f : Int) == (0 : Int)) && ((((x.l.args.length : Nat) : Int) : Int) == (0 : Int)))) (d := true) rfl (fun v w h => h), fun h w => optUndef h, fun zβ za zw zc => ?_⟩, ?_⟩
    · exact fld_24_0 rfl ((show za.eval (.tmp 21) = za.tmps.getD 21 undef from rfl).trans (optVal (zc.dep 18 21 (by kernel_rfl)) rfl zβ)) ⟨_, rfl, Below.refl _ _, optDef zβ rfl⟩
    refine ⟨⟨(true && !(((x.l.f : Int) == (0 : Int)) && ((((x.l.args.length : Nat) : Int) : Int) == (0 : Int)))), .no (c := (((x.l.f : Int) == (0 : Int)) && ((((x.l.args.length : Nat) : Int) : Int) == (0 : Int)))) (d := true) rfl (fun v w h => h), fun h w => optUndef h, fun zβ za zw zc => ?_⟩, ?_⟩
    · exact ld_3 rfl ((show za.eval (.tmp 22) = za.tmps.getD 22 undef from rfl).trans (optVal (zc.dep 19 22 (by kernel_rfl)) rfl zβ)) (bkeeps zc.below _ _ ((hB.cell 3).trans rfl)) ⟨_, rfl, Below.refl _ _, optDef zβ rfl⟩
    refine ⟨⟨(true && !(((x.l.f : Int) == (0 : Int)) && ((((x.l.args.length : Nat) : Int) : Int) == (0 : Int)))), .no (c := (((x.l.f : Int) == (0 : Int)) && ((((x.l.args.length : Nat) : Int) : Int) == (0 : Int)))) (d := true) rfl (fun v w h => h), fun h w => optUndef h, fun zβ za zw zc => ?_⟩, ?_⟩
    · exact eql_3 rfl ((show za.eval (.tmp 23) = za.tmps.getD 23 undef from rfl).trans (optVal (zc.dep 20 23 (by kernel_rfl)) rfl zβ)) (zc.kn.ev rfl) ⟨_, rfl, Below.refl _ _, optDef zβ rfl⟩
    refine ⟨⟨(true && !(((x.l.f : Int) == (0 : Int)) && ((((x.l.args.length : Nat) : Int) : Int) == (0 : Int)))), .no (c := (((x.l.f : Int) == (0 : Int)) && ((((x.l.args.length : Nat) : Int) : Int) == (0 : Int)))) (d := true) rfl (fun v w h => h), fun h w => optUndef h, fun zβ za zw zc => ?_⟩, ?_⟩
    · exact wp_move rfl ((show za.eval (.tmp 24) = za.tmps.getD 24 undef from rfl).trans (optVal (zc.dep 21 24 (by kernel_rfl)) rfl zβ)) ⟨_, rfl, Below.refl _ _, optDef zβ rfl⟩
    refine ⟨⟨((true && !(((x.l.f : Int) == (0 : Int)) && ((((x.l.args.length : Nat) : Int) : Int) == (0 : Int)))) && ((x.r.f : Int) == (0 : Int))), .yes (c := ((x.r.f : Int) == (0 : Int))) (d := (true && !(((x.l.f : Int) == (0 : Int)) && ((((x.l.args.length : Nat) : Int) : Int) == (0 : Int))))) rfl (fun v w h => h), fun h w => optUndef h, fun zβ za zw zc => ?_⟩, ?_⟩
    · exact wp_move rfl (zc.kn.ev rfl) ⟨_, rfl, Below.refl _ _, optDef zβ rfl⟩
    refine ⟨⟨((true && !(((x.l.f : Int) == (0 : Int)) && ((((x.l.args.length : Nat) : Int) : Int) == (0 : Int)))) && ((x.r.f : Int) == (0 : Int))), .yes (c := ((x.r.f : Int) == (0 : Int))) (d := (true && !(((x.l.f : Int) == (0 : Int)) && ((((x.l.args.length : Nat) : Int) : Int) == (0 : Int))))) rfl (fun v w h => h), fun h w => optUndef h, fun zβ za zw zc => ?_⟩, ?_⟩
    · exact nilCheck_ rfl ((show za.eval (.tmp 26) = za.tmps.getD 26 undef from rfl).trans (optVal (zc.dep 23 26 (by kernel_rfl)) rfl zβ)) ⟨_, rfl, Below.refl _ _, optDef zβ rfl⟩
    refine ⟨⟨((true && !(((x.l.f : Int) == (0 : Int)) && ((((x.l.args.length : Nat) : Int) : Int) == (0 : Int)))) && ((x.r.f : Int) == (0 : Int))), .yes (c := ((x.r.f : Int) == (0 : Int))) (d := (true && !(((x.l.f : Int) == (0 : Int)) && ((((x.l.args.length : Nat) : Int) : Int) == (0 : Int))))) rfl (fun v w h => h), fun h w => optUndef h, fun zβ za zw zc => ?_⟩, ?_⟩
    · exact fld_41_2 rfl ((show za.eval (.tmp 27) = za.tmps.getD 27 undef from rfl).trans (optVal (zc.dep 24 27 (by kernel_rfl)) rfl zβ)) ⟨_, rfl, Below.refl _ _, optDef zβ rfl⟩
    refine ⟨⟨((true && !(((x.l.f : Int) == (0 : Int)) && ((((x.l.args.length : Nat) : Int) : Int) == (0 : Int)))) && ((x.r.f : Int) == (0 : Int))), .yes (c := ((x.r.f : Int) == (0 : Int))) (d := (true && !(((x.l.f : Int) == (0 : Int)) && ((((x.l.args.length : Nat) : Int) : Int) == (0 : Int))))) rfl (fun v w h => h), fun h w => optUndef h, fun zβ za zw zc => ?_⟩, ?_⟩
    · exact fld_24_1 rfl ((show za.eval (.tmp 28) = za.tmps.getD 28 undef from rfl).trans (optVal (zc.dep 25 28 (by kernel_rfl)) rfl zβ)) ⟨_, rfl, Below.refl _ _, optDef zβ rfl⟩
    refine ⟨⟨((true && !(((x.l.f : Int) == (0 : Int)) && ((((x.l.args.length : Nat) : Int) : Int) == (0 : Int)))) && ((x.r.f : Int) == (0 : Int))), .yes (c := ((x.r.f : Int) == (0 : Int))) (d := (true && !(((x.l.f : Int) == (0 : Int)) && ((((x.l.args.length : Nat) : Int) : Int) == (0 : Int))))) rfl (fun v w h => h), fun h w => optUndef h, fun zβ za zw zc => ?_⟩, ?_⟩
    · exact ld_22 rfl ((show za.eval (.tmp 29) = za.tmps.getD 29 undef from rfl).trans (optVal (zc.dep 26 29 (by kernel_rfl)) rfl zβ)) (bkeeps zc.below _ _ ((hB.cell 4).trans rfl)) ⟨_, rfl, Below.refl _ _, optDef zβ rfl⟩
    refine ⟨⟨((true && !(((x.l.f : Int) == (0 : Int)) && ((((x.l.args.length : Nat) : Int) : Int) == (0 : Int)))) && ((x.r.f : Int) == (0 : Int))), .yes (c := ((x.r.f : Int) == (0 : Int))) (d := (true && !(((x.l.f : Int) == (0 : Int)) && ((((x.l.args.length : Nat) : Int) : Int) == (0 : Int))))) rfl (fun v w h => h), fun h w => optUndef h, fun zβ za zw zc => ?_⟩, ?_⟩
    · exact len_22 rfl ((show za.eval (.tmp 30) = za.tmps.getD 30 undef from rfl).trans (optVal (zc.dep 27 30 (by kernel_rfl)) rfl zβ)) ⟨_, rfl, Below.refl _ _, optDef zβ rfl⟩
    refine ⟨⟨((true && !(((x.l.f : Int) == (0 : Int)) && ((((x.l.args.length : Nat) : Int) : Int) == (0 : Int)))) && ((x.r.f : Int) == (0 : Int))), .yes (c := ((x.r.f : Int) == (0 : Int))) (d := (true && !(((x.l.f : Int) == (0 : Int)) && ((((x.l.args.length : Nat) : Int) : Int) == (0 : Int))))) rfl (fun v w h => h), fun h w => optUndef h, fun zβ za zw zc => ?_⟩, ?_⟩
    · exact eql_3 rfl ((show za.eval (.tmp 31) = za.tmps.getD 31 undef from rfl).trans (optVal (zc.dep 28 31 (by kernel_rfl)) rfl zβ)) (zc.kn.ev rfl) ⟨_, rfl, Below.refl _ _, optDef zβ rfl⟩
    refine ⟨⟨(true && !(((x.l.f : Int) == (0 : Int)) && ((((x.l.args.length : Nat) : Int) : Int) == (0 : Int)))), .no (c := (((x.l.f : Int) == (0 : Int)) && ((((x.l.args.length : Nat) : Int) : Int) == (0 : Int)))) (d := true) rfl (fun v w h => h), fun h w => optUndef h, fun zβ za zw zc => ?_⟩, ?_⟩
    · exact wp_and rfl ((show za.eval (.tmp 25) = za.tmps.getD 25 undef from rfl).trans (optVal (zc.dep 22 25 (by kernel_rfl)) rfl zβ)) (fun hp => ((show za.eval (.tmp 32) = za.tmps.getD 32 undef from rfl).trans (optVal (zc.dep 29 32 (by kernel_rfl)) rfl (bMk zβ hp)))) ⟨_, rfl, Below.refl _ _, optDef zβ rfl⟩
    refine ⟨⟨true, .none rfl, fun h w => optUndef h, fun zβ za zw zc => ?_⟩, ?_⟩
    · exact wp_or rfl ((show za.eval (.tmp 18) = za.tmps.getD 18 undef from rfl).trans (optVal (zc.dep 15 18 (by kernel_rfl)) rfl rfl)) (fun hp => ((show za.eval (.tmp 33) = za.tmps.getD 33 undef from rfl).trans (optVal (zc.dep 30 33 (by kernel_rfl)) rfl (bMkN zβ hp)))) ⟨_, rfl, Below.refl _ _, optDef zβ rfl⟩
    refine ⟨⟨true, .none rfl, fun h w => optUndef h, fun zβ za zw zc => ?_⟩, ?_⟩
    · exact wp_assign rfl ((show za.eval (.tmp 34) = za.tmps.getD 34 undef from rfl).trans (optVal (zc.dep 31 34 (by kernel_rfl)) rfl rfl)) ⟨_, rfl, Below.refl _ _, optDef zβ rfl⟩
    exact trivial
  · intro za w1 zh hb2 zu
    have zh := zh.cons (d := 2) (v := .bool (((((x.l.f : Int) == (0 : Int)) && ((((x.l.args.length : Nat) : Int) : Int) == (0 : Int))) || (((x.r.f : Int) == (0 : Int)) && ((((x.r.args.length : Nat) : Int) : Int) == (0 : Int)))))) (optVal (zu 32 2 (by kernel_rfl)) rfl rfl)
    clear zu
    refine (show WE _ [(0, .pointer (some ⟨g, 0, none⟩)), (2, .bool (((((x.l.f : Int) == (0 : Int)) && ((((x.l.args.length : Nat) : Int) : Int) == (0 : Int))) || (((x.r.f : Int) == (0 : Int)) && ((((x.r.args.length : Nat) : Int) : Int) == (0 : Int))))))] w1 _ .normal from ?_) za (zh.sub ⟨rfl, rfl, trivial⟩)
    refine WE.next ?_
    refine WC.ret ?_
    refine WE.ret1 rfl rfl ?_
    exact ⟨_, rfl, congrArg Value.bool (by rw [Bool.eq_iff_iff]; simp [Li.atom, T.top]), hb2⟩

end Go.Proofs.Ytcmfjnadjddboaa

namespace Go.Proofs.Ytcmfjnadjddboaa
open Go.RowKit Go
set_option linter.unusedVariables false
set_option linter.unusedSimpArgs false

section
variable {P : Program}
theorem wpIn_n {r : Option Nat} {n m : Nat} {c : Code} {Q : Exit → Act → World → Prop} {a : Act} {w : World} (h : c.wpIn (fen r) n P Q a w) : c.wpIn (fen r) m P Q a w := fun b k cs hro hb _ => h b k cs hro hb (fen_room _ _)
theorem callB_enters {F : FuncId} (hF : callB P F = true) (args : Array Value) (w : World) : (callFunc F args).run P w = .ok (.enter F args) w := by
  unfold callB at hF
  split at hF
  · rename_i fn hfn
    simp only [Bool.and_eq_true, Bool.not_eq_true'] at hF
    have hp : (Sem.run P program w) = .ok P w := rfl
    simp only [callFunc, Sem.run_bind, Sem.run_pure, Result.andThen_ok, hp, hfn, hF.1, hF.2, Bool.false_eq_true, if_false]
  · simp at hF
end

/-! ### Operations behind guards, one after the other -/
section
variable {P : Program} {n : Fr} {K K' : Known} {w : World} {ops : Array Oper} {o : Oper} {rest : List Oper} {Q : Exit → Act → World → Prop}
theorem bool_split {X : Prop} (b : Bool) (ht : b = true → X) (hf : b = false → X) : X := by
  cases b
  · exact hf rfl
  · exact ht rfl
theorem wp_pickT {a : Act} {C : Act → World → Prop} {x y z : Operand} {v : Value} (ho : o.op = .pick x y z) (hx : a.eval x = .bool true) (hy : a.eval y = v) (hK : C (a.put o.dst v) w) : o.wp P a w C Q := by
  unfold Oper.wp execOp
  simp only [ho, hx, hy]
  exact hK
theorem wp_pickF {a : Act} {C : Act → World → Prop} {x y z : Operand} {v : Value} (ho : o.op = .pick x y z) (hx : a.eval x = .bool false) (hz : a.eval z = v) (hK : C (a.put o.dst v) w) : o.wp P a w C Q := by
  unfold Oper.wp execOp
  simp only [ho, hx, hz]
  exact hK
theorem WL.sub (hs : subK K' K) (h : WL P ops n K' w rest Q) : WL P ops n K w rest Q := fun a ha => h a (ha.sub hs)
theorem yielded_known {a : Act} {g d : Nat} {c : Bool} (ha : Kn n K a) (hd : (ops[g]?).bind (·.dst) = some d) (hk : look K d = some (.bool c)) : yielded ops a.tmps g = some c := by
  have := ha.knows d _ hk
  unfold yielded
  rw [hd]
  rcases Nat.lt_or_ge d a.tmps.size with h | h
  · simp only [Array.getD_eq_getD_getElem?, Array.getElem?_eq_getElem h, Option.getD_some] at this
    simp [h, this]
  · simp [Array.getD, Nat.not_lt.2 h, undef] at this
theorem WL.want {g d : Nat} {b : Bool} (hg : o.guard = some (g, b)) (hd : (ops[g]?).bind (·.dst) = some d) (hk : look K d = some (.bool b)) (h : WL P ops n K w ({ o with guard := none } :: rest) Q) : WL P ops n K w (o :: rest) Q := fun a ha => by
  have := h a ha
  unfold wpListIn at this ⊢
  have e1 : Region.wanted o (yielded ops a.tmps) = true := by unfold Region.wanted; rw [hg]; simp only [yielded_known ha hd hk]; cases b <;> rfl
  rw [if_pos e1]
  have e2 : Region.wanted { o with guard := none } (yielded ops a.tmps) = true := rfl
  rw [if_pos e2] at this
  exact this
theorem WL.skip {g d : Nat} {b c : Bool} (hg : o.guard = some (g, b)) (hd : (ops[g]?).bind (·.dst) = some d) (hk : look K d = some (.bool c)) (hne : (c == b) = false) (hlt : dstB n.n o.dst = true) (h : WL P ops n (putK K o.dst undef) w rest Q) : WL P ops n K w (o :: rest) Q := fun a ha => by
  unfold wpListIn
  have e1 : Region.wanted o (yielded ops a.tmps) = false := by unfold Region.wanted; rw [hg]; simp only [yielded_known ha hd hk]; simpa using hne
  rw [if_neg (by rw [e1]; decide)]
  exact ⟨fun f _ => fen_fn _ f, h _ (ha.puts hlt undef)⟩
end

section
variable {P : Program} {n : Fr} {K : Known} {w : World} {ops : Array Oper} {o : Oper} {rest : List Oper} {Q : Exit → Act → World → Prop}
theorem WL.skipU {g d : Nat} {b : Bool} (hg : o.guard = some (g, b)) (hd : (ops[g]?).bind (·.dst) = some d) (hk : look K d = some undef) (hlt : dstB n.n o.dst = true) (h : WL P ops n (putK K o.dst undef) w rest Q) : WL P ops n K w (o :: rest) Q := fun a ha => by
  unfold wpListIn
  have hy : yielded ops a.tmps g = none := by
    have := ha.knows d _ hk
    unfold yielded
    rw [hd]
    rcases Nat.lt_or_ge d a.tmps.size with h | h
    · simp only [Array.getD_eq_getD_getElem?, Array.getElem?_eq_getElem h, Option.getD_some] at this
      simp [h, this, undef]
    · simp [Array.getElem?_eq_none h]
  have e1 : Region.wanted o (yielded ops a.tmps) = false := by unfold Region.wanted; rw [hg]; simp only [hy]; cases b <;> rfl
  rw [if_neg (by rw [e1]; decide)]
  exact ⟨fun f _ => fen_fn _ f, h _ (ha.puts hlt undef)⟩
end

/-- What is no cells may have been turned, from the block 'B' on. -/
structure Turn (B : Nat) (w w' : World) : Prop where
  os : w'.os = w.os
  tape : w'.tape = w.tape
  output : w'.output = w.output
  size : w.heap.size ≤ w'.heap.size
  block : ∀ (k : Nat) (o : Obj), w.heap[k]? = some o → (o.isCells = true ∨ k < B) → w'.heap[k]? = some o
theorem Turn.of {B : Nat} {w w' : World} {row : Option Nat} (h : w.grownBy w' row) (hr : ∀ r, row = some r → B ≤ r ∧ ∃ o : Obj, w.heap[r]? = some o ∧ o.isCells = false) : Turn B w w' :=
  ⟨h.os, h.tape, h.output, h.size, fun k o hk ho => (h.block k (Array.getElem?_eq_some_iff.1 hk).1 (fun e => by
    obtain ⟨h1, o', h2, h3⟩ := hr k e.symm
    rw [hk] at h2; obtain rfl := Option.some.inj h2
    rcases ho with ho | ho
    · rw [h3] at ho; cases ho
    · omega)).trans hk⟩
theorem below_turn {B : Nat} {w0 w w' : World} (h : Below w0.heap.size w0 w) (t : Turn B w w') (hB : w0.heap.size ≤ B) : Below w0.heap.size w0 w' :=
  ⟨t.os.trans h.os, t.tape.trans h.tape, t.output.trans h.output, Nat.le_trans h.size t.size, fun k hk => by
    have := h.block k hk
    rw [Array.getElem?_eq_getElem hk] at this ⊢
    exact t.block k _ this (.inr (by omega))⟩
theorem chg_turn {B : Nat} {S : Nat → Prop} {w0 w w' : World} (h : Chg S w0 w) (t : Turn B w w') (hB : w0.heap.size ≤ B) : Chg S w0 w' :=
  ⟨t.os.trans h.os, t.tape.trans h.tape, t.output.trans h.output, Nat.le_trans h.size t.size, fun k hk hS => by
    have := h.block k hk hS
    rw [Array.getElem?_eq_getElem hk] at this ⊢
    exact t.block k _ this (.inr (by omega))⟩
theorem blk_turn {B b : Nat} {ty : TypeId} {cs : Array Value} {w w' : World} (h : Blk w b ty cs) (t : Turn B w w') : Blk w' b ty cs := t.block b _ h (.inl rfl)
theorem own_turn {B : Nat} {w w' : World} {S : Nat → Prop} {e : TypeId} {size : Nat} {ra : Option Addr} {rc n : Nat} {xs : List Value} (h : Own w S e size ra rc n xs) (t : Turn B w w') : Own w' S e size ra rc n xs := by
  refine ⟨⟨h.1.1, h.1.2.imp id ?_⟩, h.2⟩
  rintro ⟨g, cap, cur, e1, e2, e3, r⟩
  exact ⟨g, cap, cur, e1, e2, t.block g _ e3 (.inl rfl), r⟩

/-- A walk through what a loop's round does keeps what is no cells. -/
theorem keepsFrom_below {B : Nat} {w w' : World} (h : Below w.heap.size w w') : KeepsFrom B w w' :=
  ⟨h.size, fun k o _ hk _ => (h.block k (Array.getElem?_eq_some_iff.1 hk).1).trans hk⟩
theorem keepsFrom_upd {B g : Nat} {t : TypeId} {cs : Array Value} {w w' : World} (h : Upd g w w') (hb : Blk w g t cs) : KeepsFrom B w w' :=
  ⟨Nat.le_of_eq h.size.symm, fun k o _ hk ho => (h.block k (fun e => by subst e; rw [show w.heap[k]? = _ from hb] at hk; obtain rfl := Option.some.inj hk; cases ho)).trans hk⟩
theorem keepsFrom_updLow {B g : Nat} {w w' : World} (h : Upd g w w') (hb : g < B) : KeepsFrom B w w' :=
  ⟨Nat.le_of_eq h.size.symm, fun k o hB hk _ => (h.block k (fun e => by omega)).trans hk⟩
theorem keepsFrom_chg {B : Nat} {S : Nat → Prop} {w w' : World} (h : Chg S w w') (hb : ∀ (k : Nat) (o : Obj), B ≤ k → w.heap[k]? = some o → o.isCells = false → ¬ S k) : KeepsFrom B w w' :=
  ⟨h.size, fun k o hB hk ho => (h.block k (Array.getElem?_eq_some_iff.1 hk).1 (hb k o hB hk ho)).trans hk⟩

abbrev markOf (D : Nat) : Deferred := { target := .collected D, args := #[] }

/-! ### Leaving behind such loops -/
/-- The mark of such a loop. -/
def Mk (w : World) (D : Nat) : Prop := w.heap[D]? = some (.deferred (some []))
theorem Mk.lt {w : World} {D : Nat} (h : Mk w D) : D < w.heap.size := (Array.getElem?_eq_some_iff.1 h).1
theorem Mk.below {w w' : World} {D : Nat} (h : Mk w D) (hb : Below w.heap.size w w') : Mk w' D := (hb.block D h.lt).trans h
theorem Mk.upd {w w' : World} {D g : Nat} (h : Mk w D) (hu : Upd g w w') (hg : D ≠ g) : Mk w' D := (hu.block D hg).trans h
theorem Mk.chg {w w' : World} {D : Nat} {S : Nat → Prop} (h : Mk w D) (hc : Chg S w w') (hg : ¬ S D) : Mk w' D := (hc.block D h.lt hg).trans h
theorem shut_all : ∀ (Ds : List Nat) (w : World), (∀ D ∈ Ds, Mk w D) → Ds.Nodup → ∃ w', Shut (Ds.map markOf) w w' ∧ Chg (fun b => b ∈ Ds) w w' ∧ (∀ (k : Nat) (o : Obj), w.heap[k]? = some o → o.isCells = true → w'.heap[k]? = some o)
  | [], w, _, _ => ⟨w, .nil w, ⟨rfl, rfl, rfl, Nat.le_refl _, fun _ _ _ => rfl⟩, fun _ _ h _ => h⟩
  | D :: r, w, h, hn => by
    have hD := h D (by simp)
    have hlt := (Array.getElem?_eq_some_iff.1 hD).1
    have hg := grownBy_putObj' w D (.deferred none)
    obtain ⟨w', h1, h2, h3⟩ := shut_all r (w.putObj D (.deferred none)) (fun D' hD' => by
      have hne : D ≠ D' := by rintro rfl; exact (List.nodup_cons.1 hn).1 hD'
      exact (World.putObj_heap_other (Ne.symm hne)).trans (h D' (by simp [hD']))) (List.nodup_cons.1 hn).2
    refine ⟨w', .cons D hD h1, ⟨h2.os.trans hg.os, h2.tape.trans hg.tape, h2.output.trans hg.output, Nat.le_trans hg.size h2.size, fun k hk hS => ?_⟩, fun k o hk ho => ?_⟩
    · have hne : some k ≠ some D := fun e => hS (by rw [Option.some.inj e]; simp)
      exact (h2.block k (Nat.lt_of_lt_of_le hk hg.size) (fun hm => hS (by simp [hm]))).trans (hg.block k hk hne)
    · have hne : some k ≠ some D := fun e => by rw [Option.some.inj e, show w.heap[D]? = _ from hD] at hk; obtain rfl := Option.some.inj hk; cases ho
      exact h3 k o ((hg.block k (Array.getElem?_eq_some_iff.1 hk).1 hne).trans hk) ho

section
variable {P : Program} {N : Nat} {r : Option Nat} {ds : List Deferred} {K : Known} {w w' : World} {fn : Func} {R : Ending → World → Prop}
theorem WE.retAnyS {v : Value} (hs : Shut ds w w') (hr : ∀ a, Kn ⟨N, ds, r⟩ K a → (results fn a.tmps).run P w' = .ok v w') (hR : R (.returned v) w') : WE ⟨N, ds, r⟩ K w (bodyPostW P fn R) .ret := fun a ha => by
  show LeavesInM _ _ _ _ _ _ a.defers _ _
  rw [ha.defers]; exact leaves_shut hs (hr a ha) hR
end

section
variable {P : Program} {N : Nat} {ds : List Deferred}
theorem Kn.sets {K : Known} {a : Act} (h : Kn ⟨N, ds, none⟩ K a) : ∀ {ps : List Nat} {vs : List Value}, (ps.all fun p => Nat.blt p N) = true → Kn ⟨N, ds, none⟩ ((ps.zip vs).foldl (fun K p => (p.1, p.2) :: K) K) ⟨(ps.zip vs).foldl (fun t p => t.setIfInBounds p.1 p.2) a.tmps, a.defers⟩ := by
  intro ps
  induction ps generalizing K a with
  | nil => intro vs _; exact h
  | cons p r ih =>
    intro vs hp
    cases vs with
    | nil => exact h
    | cons v vs =>
      simp only [List.all_cons, Bool.and_eq_true] at hp
      exact ih (a := a.put (some p) v) (h.put hp.1 v) hp.2
theorem kn_frame {n : Nat} {d1 d2 : List Deferred} {r1 r2 : Option Nat} {K : Known} {t : Array Value} (h : Kn ⟨n, d1, r1⟩ K ⟨t, d1⟩) : Kn ⟨n, d2, r2⟩ K ⟨t, d2⟩ := ⟨h.size, rfl, h.knows⟩

/-- The law of a loop over a function: of 'x' it hands out 'encs x' into the slots 'ps'; a round changes blocks of 'S' alone. -/
theorem WC.range {α γ : Type} {g : Operand} {ps : List Nat} {assign body : Code} {Q : Exit → Act → World → Prop} {K : Known} {w : World} (S : Nat → Prop) {gf : Nat} {lb : Array Value} (hg : ev K g = some (.func (.func gf) #[] lb)) (hF : callB P gf = true) (hp : (ps.all fun p => Nat.blt p N) = true)
    {encs : α → List Value} {Sx Sp : List α → Prop} {M : Nat} {w0 : World} (hseq : SeqStopsK Fence.wide 0 P gf lb (fun x => (encs x).toArray) (Chg S) Sx Sp M w0)
    (hS : ∀ l, w.heap.size ≤ l → S l) (hb0 : Below w0.heap.size w0 w) (hps : ∀ x, (encs x).length = ps.length)
    (KB : α → γ → Known) (AW : α → γ → World → Prop) (I : List α → World → Prop) (Ix : Code → List α → World → Prop) (hI : ∀ s W W', Turn w.heap.size W W' → I s W → I s W') (hIx : ∀ c s W W', Turn w.heap.size W W' → Ix c s W → Ix c s W')
    (hAW : ∀ x y W W', Turn w.heap.size W W' → AW x y W → AW x y W') (h0 : I [] w)
    (hassign : ∀ (l : Nat) (pre : List α) (x : α) (W : World), I pre W → WC P ⟨N, [], some l⟩ ((ps.zip (encs x)).foldl (fun K p => (p.1, p.2) :: K) K) W assign (Exit.then (fun a' W' => Below W.heap.size W W' ∧ ∃ y, Kn ⟨N, [], some l⟩ (KB x y) a' ∧ AW x y W') (fun _ _ _ => False)))
    (hbody : ∀ (l : Nat) (pre : List α) (x : α) (y : γ) (W : World), I pre W → AW x y W → pre.length < M → WC P ⟨N, [], some l⟩ (KB x y) W body (ownPostG w.heap.size (Chg S) I Ix (pre ++ [x]) W))
    (hdone : ∀ (D : Nat) (xs : List α) (W : World), w.heap.size ≤ D → Sx xs → I xs W → Mk W D → WE ⟨N, markOf D :: ds, none⟩ K W Q .normal)
    (hstop : ∀ (D : Nat) (c : Code) (pre : List α) (W : World), w.heap.size ≤ D → Sp pre → Ix c pre W → Mk W D → WC P ⟨N, markOf D :: ds, none⟩ K W c Q) :
    WC P ⟨N, ds, none⟩ K w (.rangeFunc g ps.toArray assign body) Q := by
  intro a ha
  have turn : ∀ {W W' : World} {row : Option Nat}, W.grownBy W' row → (∀ r, row = some r → w.heap.size ≤ r ∧ ∃ o : Obj, W.heap[r]? = some o ∧ o.isCells = false) → Turn w.heap.size W W' := fun h hr => Turn.of h hr
  refine wpIn_n (r := none) (n := 1) (wpIn_rangeFunc_ownH (F := Fence.wide) (n := 1) rfl (Nat.le_refl _) (ha.ev hg) trivial (callB_enters hF) (encs := fun x => (encs x).toArray) hseq (fun h k => h.trans k) (fun W l o o' hl h _ _ => ?_) hb0 (fun x => by simpa using hps x)
    I Ix (fun s W W' row h hg hr => hI s W W' (turn hg hr) h) (fun c s W W' row h hg hr => hIx c s W W' (turn hg hr) h) h0 (fun x a' W => ∃ y, Kn ⟨N, [], none⟩ (KB x y) a' ∧ AW x y W) (fun x a' s W W' row h hg hr => by
      obtain ⟨y, h1, h2⟩ := h
      exact ⟨y, h1, hAW x y W W' (turn hg hr) h2⟩) ?_ ?_ ?_ ?_)
  · have hg := grownBy_putObj' W l o'
    exact ⟨hg.os, hg.tape, hg.output, hg.size, fun k hk hn => hg.block k hk (fun e => hn (by rw [Option.some.inj e]; exact hS l hl))⟩
  · intro l pre x W C hi hC
    have ha' : Kn ⟨N, [], some l⟩ ((ps.zip (encs x)).foldl (fun K p => (p.1, p.2) :: K) K) ⟨(ps.zip (encs x)).foldl (fun t p => t.setIfInBounds p.1 p.2) a.tmps, []⟩ := by
      have h1 : Kn ⟨N, [], none⟩ K ⟨a.tmps, []⟩ := ⟨ha.size, rfl, ha.knows⟩
      have h2 := h1.sets (vs := encs x) hp
      exact ⟨h2.size, rfl, h2.knows⟩
    have e : ((ps.toArray.zip (encs x).toArray).foldl (fun t (p, v) => t.setIfInBounds p v) a.tmps) = (ps.zip (encs x)).foldl (fun t p => t.setIfInBounds p.1 p.2) a.tmps := by simp
    rw [e]
    refine wpIn_mono (hassign l pre x W hi _ ha') ?_
    intro e a1 W1 h
    cases e with
    | normal =>
      obtain ⟨hb, y, hk, hA⟩ := h
      exact hC a1 W1 (keepsFrom_below hb) (.ofBelow hb) (hI _ _ _ ⟨hb.os, hb.tape, hb.output, hb.size, fun k o hk _ => (hb.block k (Array.getElem?_eq_some_iff.1 hk).1).trans hk⟩ hi) ⟨y, ⟨hk.size, hk.defers, hk.knows⟩, hA⟩
    | _ => exact h
  · rintro l pre x a' W _ _ hi ⟨y, hk, hA⟩ hlen
    exact hbody l pre x y W hi hA hlen a' ⟨hk.size, hk.defers, hk.knows⟩
  · intro D xs W hD hs hi hw
    exact hdone D xs W hD hs hi hw _ ⟨ha.size, by rw [ha.defers], ha.knows⟩
  · intro D c pre W hD hs hi hw
    exact wpIn_n (r := none) (hstop D c pre W hD hs hi hw _ ⟨ha.size, by rw [ha.defers], ha.knows⟩)
end

/-! ### The other side: a function that hands out -/

/-- What has been handed out, as the loop knows it. -/
structure Had {β : Type} (B : Nat) (J : List β → World → Prop) (pre : List β) (w : World) : Prop where
  abide : AbidesFrom B J
  now : J pre w
theorem grown_of_below {w w' : World} (h : Below w.heap.size w w') : w.grownBy w' none := ⟨h.os, h.tape, h.output, h.size, fun k hk _ => h.block k hk⟩
theorem Had.below {β : Type} {B : Nat} {J : List β → World → Prop} {pre : List β} {w w' : World} (h : Had B J pre w) (hb : Below w.heap.size w w') : Had B J pre w' :=
  ⟨h.abide, h.abide pre w w' none h.now (grown_of_below hb) (fun r e => by cases e)⟩

/-- What a loop's round owes the function that hands out. -/
def Round {β : Type} (P : Program) (l : Nat) (encs : β → List Value) (Kp : World → World → Prop) (M : Nat) (J Jx : List β → World → Prop) : Prop :=
  ∀ pre x W1, J pre W1 → pre.length < M → YieldAt Fence.wide 0 P l (encs x).toArray W1 fun e W' =>
    (e = .returned (.bool true) ∧ J (pre ++ [x]) W' ∧ Kp W1 W') ∨ (e = .returned (.bool false) ∧ Jx (pre ++ [x]) W')

section
variable {P : Program} {w : World} {a : Act} {Q : Exit → Act → World → Prop} {o : Oper}
theorem roundIn_fen {r : Option Nat} {n m l : Nat} {f : FuncId} {tmps : Array Value} {assign body : Code} {R : Ending → World → Prop} (h : RoundIn Fence.wide n P l f tmps assign body w R) : RoundIn (fen r) m P l f tmps assign body w R := by
  refine ⟨fen_fn _ _, fun c cs _ => ?_⟩
  obtain ⟨e, w', q, s⟩ := h.2 c cs (room_wide _)
  refine ⟨e, w', q, ?_⟩
  cases r with
  | none => exact s
  | some k => exact s
/-- The call of what a loop hands in. -/
theorem wp_yield {r : Option Nat} {l : Nat} {f : Operand} {xs : Array Operand} {tys : Array TypeId} {vs : Array Value} {R : Ending → World → Prop} {K : Act → World → Prop} (ho : o.op = .call { callee := .value f, args := xs, argTypes := tys }) (hf : a.eval f = .func (.yield l) #[] #[]) (hv : xs.map a.eval = vs)
    (h : YieldAt Fence.wide 0 P l vs w R) (hK : ∀ e w', R e w' → ∃ v, e = .returned v ∧ K (a.put o.dst v) w') : o.wpIn (fen r) 0 P a w K Q := by
  obtain ⟨fn, tmps, assign, body, hy, hr⟩ := h
  refine ⟨fun f _ => fen_fn r f, ?_⟩
  rw [fen_round, Oper.semAt_eq _ _ _ (fun c hc => by rw [ho] at hc; cases hc)]
  unfold execOp
  simp only [ho, resolve, hv, hf, Deferred.ofValue, invoke, Sem.run_bind, Sem.run_pure, Result.andThen_ok, Array.empty_append, Array.append_empty, hy]
  refine ⟨fun e => (by rw [fen_depth] at e; cases e), (roundIn_fen hr).mono ?_⟩
  intro e w' hR
  obtain ⟨v, rfl, hk⟩ := hK e w' hR
  exact hk
end

/-- The contract of a function that hands out, out of its walk. -/
theorem seq_walk {P : Program} {β : Type} {gf : Nat} {fn : Func} {c : Code} {lb : List Value} {encs : β → List Value} {Kp : World → World → Prop} {S Sp : List β → Prop} {M : Nat} {w0 : World} (hf : P.funcs[gf]? = some fn) (hb : fn.body = some c) (hl : Nat.ble (lb.length + 1) fn.ntmps = true)
    (h : ∀ (l : Nat) (J Jx : List β → World → Prop) (w : World), Below w0.heap.size w0 w → Round P l encs Kp M J Jx → Had w.heap.size J [] w → AbidesFrom w.heap.size Jx →
      WC P ⟨fn.ntmps, [], none⟩ (paramsK 0 (.func (.yield l) #[] #[] :: lb)) w c (bodyPostW P fn fun e W' => (∃ v, e = .returned v) ∧ ((∃ xs, S xs ∧ J xs W') ∨ (∃ pre, Sp pre ∧ Jx pre W')))) :
    SeqStopsK Fence.wide 0 P gf lb.toArray (fun x => (encs x).toArray) Kp S Sp M w0 := by
  intro l J Jx W hW hJ hJx hY h0
  have := h l J Jx W hW hY ⟨hJ, h0⟩ hJx
  have e : #[.func (.yield l) #[] #[]] ++ lb.toArray = (.func (.yield l) #[] #[] :: lb).toArray := by simp
  rw [e]
  exact callsIn_of_wp_marks (n := 0) hf hb trivial (this _ (Kn.enter (Nat.le_of_ble_eq_true (by simpa using hl))))

end Go.Proofs.Ytcmfjnadjddboaa
