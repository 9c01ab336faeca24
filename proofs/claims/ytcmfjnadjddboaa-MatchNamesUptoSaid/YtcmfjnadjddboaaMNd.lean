/- Literals, clauses: how they lie in memory. -/
import Derived.Test.YtcmfjnadjddboaaMNc
import Derived.Test.YtcmfjnadjddboaaMNb
import Derived.Test.YtcmfjnadjddboaaMNa
import Derived.Laws.IdiomRangeMap

/- What becomes of terms, by a substitution. -/
namespace Go.Proofs.Ytcmfjnadjddboaa
open Go.RowKit Go
set_option linter.unusedVariables false
set_option linter.unusedSimpArgs false

mutual
def T.app (s : List Bd) : T → T
  | .mk f l => match (if f < 0 then subFind s (-1 - f) else none) with
    | some t => t
    | none => .mk f (T.appL s l)
def T.appL (s : List Bd) : List T → List T
  | [] => []
  | t :: r => t.app s :: T.appL s r
end
theorem T.appL_eq (s : List Bd) : ∀ l : List T, T.appL s l = l.map (T.app s)
  | [] => rfl
  | t :: r => by rw [T.appL, T.appL_eq s r]; rfl
theorem app_some {s : List Bd} {f : Int} {l : List T} {t : T} (hf : f < 0) (h : subFind s (-1 - f) = some t) : (T.mk f l).app s = t := by
  simp only [T.app, if_pos hf, h]
theorem app_none {s : List Bd} {f : Int} {l : List T} (h : f < 0 → subFind s (-1 - f) = none) : (T.mk f l).app s = .mk f (l.map (T.app s)) := by
  have : (if f < 0 then subFind s (-1 - f) else none) = none := by
    split
    · exact h ‹_›
    · rfl
  simp only [T.app, this, T.appL_eq]
theorem take_map {s : List Bd} {l : List T} {k : Nat} (h : k < l.length) : (l.take k).map (T.app s) ++ [(tget l k).app s] = (l.take (k + 1)).map (T.app s) := by
  rw [List.take_succ_eq_append_getElem h, List.map_append, tget_lt h]; rfl
theorem subFind_mem {s : List Bd} {m : Int} {t : T} (h : subFind s m = some t) : ∃ b ∈ s, b.t = t := by
  unfold subFind at h
  obtain ⟨b, hb, rfl⟩ := Option.map_eq_some_iff.1 h
  exact ⟨b, List.mem_of_find?_eq_some hb, rfl⟩
/-- A substitution that came in: it lies in memory, is no longer than that, its terms are no larger. -/
structure IsSub (w : World) (s : List Bd) (a : Option Addr) (c : Nat) : Prop where
  rows : IsBs w s a
  len : s.length ≤ c
  cap : c ≤ maxLen
  small : s.length ≤ 4294967296
  parts : ∀ b ∈ s, b.t.size ≤ 4294967296
theorem IsSub.below {w w' : World} {s : List Bd} {a : Option Addr} {c : Nat} (h : IsSub w s a c) (hb : Below w.heap.size w w') : IsSub w' s a c := ⟨h.rows.below hb, h.len, h.cap, h.small, h.parts⟩
theorem IsSub.found {w : World} {s : List Bd} {a : Option Addr} {c : Nat} (h : IsSub w s a c) {m : Int} {t : T} (hf : subFind s m = some t) : t.size ≤ 4294967296 := by
  obtain ⟨b, hb, rfl⟩ := subFind_mem hf; exact h.parts b hb
set_option maxRecDepth 100000 in
theorem apply1_any (s : List Bd) (m : Int) (w : World) (a : Option Addr) (c g : Nat) (hs : IsSub w s a c) (hg : Blk w g 26 #[.slice a s.length c]) : Calls Try.prog 54 #[.int .i64 m, .pointer (some ⟨g, 0, none⟩)] w (Ret fun v' w' => IsTo w' (subFind s m) v' ∧ Below w.heap.size w w') := by
  have hgl := hg.lt
  refine Calls.walk (l := [.int .i64 m, .pointer (some ⟨g, 0, none⟩)]) Try.func54 rfl (by kernel_rfl) ?_
  refine WC.sub (K' := [(0, .int .i64 m), (1, .pointer (some ⟨g, 0, none⟩))]) ⟨rfl, rfl, trivial⟩ ?_
  refine WC.seq ?_
  refine WC.region ?_
  refine WL.val (.pointer none) rfl rfl rfl (fun za zC zh zk => wp_assign rfl (zh.ev rfl) zk) ?_
  refine WL.nil (WE.sub (K' := [(0, .int .i64 m), (1, .pointer (some ⟨g, 0, none⟩)), (3, .pointer none)]) ⟨rfl, rfl, rfl, trivial⟩ ?_)
  refine WE.next ?_
  refine WC.seq ?_
  refine WC.region ?_
  refine WL.val (.slice a s.length c) rfl rfl rfl (fun za zC zh zk => ld_26 rfl (zh.ev rfl) ((hg.cell 0).trans rfl) zk) ?_
  refine WL.val (.int .i64 m) rfl rfl rfl (fun za zC zh zk => wp_move rfl (zh.ev rfl) zk) ?_
  refine WL.call rfl rfl rfl (fun za zh zC => wp_call (by kernel_rfl) rfl (hv2 (zh.ev rfl) (zh.ev rfl))) ((find_any s m _ _ _ hs.len hs.cap hs.small (hs.below (Below.refl _ _)).rows)) ?_
  rintro u w1 ⟨hu, hbu⟩
  refine WL.val (u) rfl rfl rfl (fun za zC zh zk => wp_assign rfl (zh.ev rfl) zk) ?_
  refine WL.nil (WE.sub (K' := [(0, .int .i64 m), (1, .pointer (some ⟨g, 0, none⟩)), (3, u)]) ⟨rfl, rfl, rfl, trivial⟩ ?_)
  refine WE.next ?_
  refine WC.ret ?_
  refine WE.ret1 rfl rfl ?_
  exact ⟨_, rfl, hu, hbu⟩

set_option maxRecDepth 100000 in
theorem each_any (s : List Bd) (sa : Option Addr) (sc gs : Nat) : ∀ (t : T) (w : World) (v : Value), t.size ≤ 4294967296 → IsT w t v → IsSub w s sa sc → Blk w gs 26 #[.slice sa s.length sc] → Calls Try.prog 53 #[v, .func (.func 54) #[] #[.pointer (some ⟨gs, 0, none⟩)]] w (Ret fun v' w' => NewT w w' (t.app s) v' ∧ Below w.heap.size w w') := by
  refine T.ind (fun f l ih => ?_)
  intro w v hz hv hs hgs
  have hlen := len_le_sizeL l
  have hz' := hz
  simp only [T.size] at hz'
  obtain ⟨hf, a, c, rfl, hc, hm, hl⟩ := hv
  have hf' := hf
  unfold I64 at hf'
  have hgl := hgs.lt
  refine Calls.walk (l := [.agg #[.int .i64 f, .slice a l.length c], .func (.func 54) #[] #[.pointer (some ⟨gs, 0, none⟩)]]) Try.func53 rfl (by kernel_rfl) ?_
  refine WC.sub (K' := [(0, .agg #[.int .i64 f, .slice a l.length c]), (1, .func (.func 54) #[] #[.pointer (some ⟨gs, 0, none⟩)])]) ⟨rfl, rfl, trivial⟩ ?_
  refine WC.seq ?_
  refine WC.region ?_
  refine WL.step (post := NewBlk w 24 #[.int .i64 f, .slice a l.length c]) rfl rfl rfl (fun za zC zh zk => box_24 rfl (zh.ev rfl) (zk _ _ (newBlk _ _ _))) ?_
  rintro _ w1 ⟨g2, rfl, hg3, hB4, hb5, hz6⟩
  have hl7 : gs < g2 := by have z1 := hgs.lt; omega
  have hl8 : w.heap.size ≤ g2 := by omega
  refine WL.step (post := NewBlk w1 24 #[.int .i64 0, .slice none 0 0]) rfl rfl rfl (fun za zC zh zk => alloc_24 rfl (zk _ _ (newBlk _ _ _))) ?_
  rintro _ w9 ⟨g10, rfl, hg11, hB12, hb13, hz14⟩
  have hl15 : gs < g10 := by have z1 := hgs.lt; have z2 := (hb5).size; omega
  have hl16 : g2 < g10 := by have z1 := hB4.lt; omega
  have hl17 : w.heap.size ≤ g10 := by have z2 := (hb5).size; omega
  refine WL.nil (WE.sub (K' := [(0, .agg #[.int .i64 f, .slice a l.length c]), (1, .func (.func 54) #[] #[.pointer (some ⟨gs, 0, none⟩)]), (2, .pointer (some ⟨g2, 0, none⟩)), (4, .pointer (some ⟨g10, 0, none⟩))]) ⟨rfl, rfl, rfl, rfl, trivial⟩ ?_)
  refine WE.next ?_
  refine WC.seq ?_
  refine WC.seq ?_
  refine WC.region ?_
  refine WL.val (.pointer (some ⟨g2, 0, none⟩)) rfl rfl rfl (fun za zC zh zk => fld_24_0 rfl (zh.ev rfl) zk) ?_
  have hB18 := hB4.below hb13
  refine WL.val (.int .i64 f) rfl rfl rfl (fun za zC zh zk => ld_3 rfl (zh.ev rfl) ((hB18.cell 0).trans rfl) zk) ?_
  refine WL.val (.bool ((decide ((f : Int) < (0 : Int))))) rfl rfl rfl (fun za zC zh zk => lss_3 rfl (zh.ev rfl) (zh.ev rfl) zk) ?_
  refine WL.nil (WE.sub (K' := [(0, .agg #[.int .i64 f, .slice a l.length c]), (1, .func (.func 54) #[] #[.pointer (some ⟨gs, 0, none⟩)]), (2, .pointer (some ⟨g2, 0, none⟩)), (4, .pointer (some ⟨g10, 0, none⟩)), (11, .bool ((decide ((f : Int) < (0 : Int)))))]) ⟨rfl, rfl, rfl, rfl, rfl, trivial⟩ ?_)
  refine WE.next ?_
  refine WC.cond rfl (fun h19 => ?_) (fun h19 => ?_)
  · have h19 : (f : Int) < (0 : Int) := by simpa using h19
    refine WC.seq ?_
    refine WC.region ?_
    refine WL.val (.func (.func 54) #[] #[.pointer (some ⟨gs, 0, none⟩)]) rfl rfl rfl (fun za zC zh zk => wp_move rfl (zh.ev rfl) zk) ?_
    refine WL.val (.pointer (some ⟨g2, 0, none⟩)) rfl rfl rfl (fun za zC zh zk => fld_24_0 rfl (zh.ev rfl) zk) ?_
    refine WL.val (.int .i64 f) rfl rfl rfl (fun za zC zh zk => ld_3 rfl (zh.ev rfl) ((hB18.cell 0).trans rfl) zk) ?_
    refine WL.val (.int .i64 ((-1 - f))) rfl rfl rfl (fun za zC zh zk => subb_3 rfl (zh.ev rfl) (zh.ev rfl) (wrap_eq rfl (by omega) (by omega)) zk) ?_
    have hb25 : Below w.heap.size w w9 := (bstep hb5 hb13)
    have hB26 := hgs.below hb25
    refine WL.call rfl rfl rfl (fun za zh zC => wp_callv (by kernel_rfl) rfl (zh.ev rfl) (hv1 (zh.ev rfl))) (apply1_any s (-1 - f) _ _ _ gs (hs.below hb25) hB26) ?_
    rintro v27 w20 ⟨hto21, hb22⟩
    rcases hf24 : subFind s (-1 - f) with _ | t23
    · rw [hf24] at hto21
      obtain rfl : v27 = .pointer none := hto21
      refine WL.val (.pointer none) rfl rfl rfl (fun za zC zh zk => wp_assign rfl (zh.ev rfl) zk) ?_
      refine WL.nil (WE.sub (K' := [(0, .agg #[.int .i64 f, .slice a l.length c]), (1, .func (.func 54) #[] #[.pointer (some ⟨gs, 0, none⟩)]), (2, .pointer (some ⟨g2, 0, none⟩)), (4, .pointer (some ⟨g10, 0, none⟩)), (5, .pointer none), (11, .bool ((decide ((f : Int) < (0 : Int)))))]) ⟨rfl, rfl, rfl, rfl, rfl, rfl, trivial⟩ ?_)
      refine WE.next ?_
      refine WC.seq ?_
      refine WC.region ?_
      refine WL.val (.pointer none) rfl rfl rfl (fun za zC zh zk => wp_move rfl (zh.ev rfl) zk) ?_
      refine WL.val (.bool false) rfl rfl rfl (fun za zC zh zk => neqn_66 rfl (zh.ev rfl) (zh.ev rfl) zk) ?_
      refine WL.nil (WE.sub (K' := [(0, .agg #[.int .i64 f, .slice a l.length c]), (1, .func (.func 54) #[] #[.pointer (some ⟨gs, 0, none⟩)]), (2, .pointer (some ⟨g2, 0, none⟩)), (4, .pointer (some ⟨g10, 0, none⟩)), (5, .pointer none), (11, .bool ((decide ((f : Int) < (0 : Int))))), (18, .bool false)]) ⟨rfl, rfl, rfl, rfl, rfl, rfl, rfl, trivial⟩ ?_)
      refine WE.next ?_
      refine WC.condF rfl rfl ?_
      refine WC.skip ?_
      refine WE.next ?_
      refine WC.seq ?_
      refine WC.region ?_
      refine WL.val (.pointer (some ⟨g2, 0, none⟩)) rfl rfl rfl (fun za zC zh zk => fld_24_0 rfl (zh.ev rfl) zk) ?_
      have hB28 := hB18.below hb22
      refine WL.val (.int .i64 f) rfl rfl rfl (fun za zC zh zk => ld_3 rfl (zh.ev rfl) ((hB28.cell 0).trans rfl) zk) ?_
      refine WL.val (.agg #[.int .i64 f, .slice none 0 0]) rfl rfl rfl (fun za zC zh zk => build_24_0 rfl (zh.ev rfl) zk) ?_
      refine WL.step (post := NewBlk w20 24 #[.int .i64 0, .slice none 0 0]) rfl rfl rfl (fun za zC zh zk => alloc_24 rfl (zk _ _ (newBlk _ _ _))) ?_
      rintro _ w29 ⟨g30, rfl, hg31, hB32, hb33, hz34⟩
      have hl35 : gs < g30 := by have z1 := hB26.lt; have z2 := (hb22).size; omega
      have hl36 : g2 < g30 := by have z1 := hB28.lt; omega
      have hl37 : g10 < g30 := by have z1 := hB12.lt; have z2 := (hb22).size; omega
      have hb38 : Below w.heap.size w w20 := (bstep hb25 hb22)
      have hl39 : w.heap.size ≤ g30 := by have z2 := (hb38).size; omega
      have hl40 : w20.heap.size ≤ g30 := by omega
      refine WL.step (post := fun _ w' => Upd g30 w29 w' ∧ Blk w' g30 24 #[.int .i64 f, .slice none 0 0]) rfl rfl rfl (fun za zC zh zk => st_24 rfl (zh.ev rfl) (zh.ev rfl) rfl rfl hB32 (by first | decide | simp) (fun v => zk v _ ⟨(Upd.at_ _ _ _ _).trans (Upd.at_ _ _ _ _), (hB32.set_ 0 _).set_ 1 _⟩)) ?_
      rintro v44 w41 ⟨hu42, hB43⟩
      have hb45 : Below w.heap.size w w29 := (bstep hb38 hb33)
      have hb46 := upd_below hb45 hu42 (by omega)
      have hb47 := upd_below hb33 hu42 (by omega)
      have hb49 : Below w9.heap.size w9 w29 := (bstep hb22 hb33)
      have hB48 := hB26.below hb49
      have hB50 := upd_blk hB48 hu42 (by omega)
      have hB51 := hB28.below hb33
      have hB52 := upd_blk hB51 hu42 (by omega)
      have hB53 := hB12.below hb49
      have hB54 := upd_blk hB53 hu42 (by omega)
      refine WL.nil (WE.sub (K' := [(0, .agg #[.int .i64 f, .slice a l.length c]), (1, .func (.func 54) #[] #[.pointer (some ⟨gs, 0, none⟩)]), (2, .pointer (some ⟨g2, 0, none⟩)), (4, .pointer (some ⟨g10, 0, none⟩)), (5, .pointer none), (6, .pointer (some ⟨g30, 0, none⟩)), (11, .bool ((decide ((f : Int) < (0 : Int))))), (18, .bool false)]) ⟨rfl, rfl, rfl, rfl, rfl, rfl, rfl, rfl, trivial⟩ ?_)
      refine WE.next ?_
      refine WC.seq ?_
      refine WC.seq ?_
      refine WC.region ?_
      refine WL.val (.pointer (some ⟨g2, 1, none⟩)) rfl rfl rfl (fun za zC zh zk => fld_24_1 rfl (zh.ev rfl) zk) ?_
      refine WL.val (.slice a l.length c) rfl rfl rfl (fun za zC zh zk => ld_22 rfl (zh.ev rfl) ((hB52.cell 1).trans rfl) zk) ?_
      refine WL.val (.int .i64 (((l.length : Nat) : Int))) rfl rfl rfl (fun za zC zh zk => len_22 rfl (zh.ev rfl) zk) ?_
      refine WL.val (.bool ((decide ((0 : Int) < (((l.length : Nat) : Int) : Int))))) rfl rfl rfl (fun za zC zh zk => gtr_3 rfl (zh.ev rfl) (zh.ev rfl) zk) ?_
      refine WL.nil (WE.sub (K' := [(0, .agg #[.int .i64 f, .slice a l.length c]), (1, .func (.func 54) #[] #[.pointer (some ⟨gs, 0, none⟩)]), (2, .pointer (some ⟨g2, 0, none⟩)), (4, .pointer (some ⟨g10, 0, none⟩)), (5, .pointer none), (6, .pointer (some ⟨g30, 0, none⟩)), (11, .bool ((decide ((f : Int) < (0 : Int))))), (18, .bool false), (29, .bool ((decide ((0 : Int) < (((l.length : Nat) : Int) : Int)))))]) ⟨rfl, rfl, rfl, rfl, rfl, rfl, rfl, rfl, rfl, trivial⟩ ?_)
      refine WE.next ?_
      refine WC.cond rfl (fun h55 => ?_) (fun h55 => ?_)
      · have h55 : (0 : Int) < (((l.length : Nat) : Int) : Int) := by simpa using h55
        refine WC.region ?_
        refine WL.val (.pointer (some ⟨g2, 1, none⟩)) rfl rfl rfl (fun za zC zh zk => fld_24_1 rfl (zh.ev rfl) zk) ?_
        refine WL.val (.slice a l.length c) rfl rfl rfl (fun za zC zh zk => ld_22 rfl (zh.ev rfl) ((hB52.cell 1).trans rfl) zk) ?_
        refine WL.val (.int .i64 (((l.length : Nat) : Int))) rfl rfl rfl (fun za zC zh zk => len_22 rfl (zh.ev rfl) zk) ?_
        refine WL.step (post := fun v w' => ∃ g, v = .slice (some ⟨g, 0, none⟩) l.length l.length ∧ w41.heap.size = g ∧ Blk w' g 24 (madeCells (Value.cells (.agg #[.int .i64 0, .slice none 0 0])) (l.length * 2)) ∧ Below w41.heap.size w41 w') rfl rfl rfl (fun za zC zh zk => wp_mkE (z := .agg #[.int .i64 0, .slice none 0 0]) (size := 2) (bytes := 32) Try.underlying22 (by kernel_rfl) (by decide) rfl (zh.ev rfl) (zh.ev rfl) (by omega) (zk _ _ ⟨_, rfl, rfl, Blk.new' rfl, balloc _ _⟩)) ?_
        rintro _ w56 ⟨g57, rfl, hg58, hB59, hb60⟩
        have hl62 : gs < g57 := by have z1 := hB50.lt; omega
        have hl63 : g2 < g57 := by have z1 := hB52.lt; omega
        have hl64 : g10 < g57 := by have z1 := hB54.lt; omega
        have hl65 : g30 < g57 := by have z1 := hB43.lt; omega
        have hl66 : w.heap.size ≤ g57 := by have z2 := (hb46).size; omega
        have hl67 : w20.heap.size ≤ g57 := by have z2 := (hb47).size; omega
        have hM61 : MRow eltT w56 g57 g57 24 l.length (madeCells (Value.cells (.agg #[.int .i64 0, .slice none 0 0])) (l.length * 2)).toList [] := MRow.startT hB59 (Nat.le_refl _)
        refine WL.val (.pointer (some ⟨g30, 1, none⟩)) rfl rfl rfl (fun za zC zh zk => fld_24_1 rfl (zh.ev rfl) zk) ?_
        have hB68 := hB43.below hb60
        refine WL.step (post := fun _ w' => Upd g30 w56 w' ∧ Blk w' g30 24 #[.int .i64 f, .slice ((some ⟨g57, 0, none⟩)) l.length l.length]) rfl rfl rfl (fun za zC zh zk => st_22 rfl (zh.ev rfl) (zh.ev rfl) hB68 (by first | decide | simp) (fun v => zk v _ ⟨Upd.at_ _ _ _ _, hB68.set_ 1 _⟩)) ?_
        rintro v72 w69 ⟨hu70, hB71⟩
        have hb73 : Below w.heap.size w w56 := (bstep hb46 hb60)
        have hb74 : Below w20.heap.size w20 w56 := (bstep hb47 hb60)
        have hb75 := upd_below hb73 hu70 (by omega)
        have hb76 := upd_below hb74 hu70 (by omega)
        have hB77 := hB50.below hb60
        have hB78 := upd_blk hB77 hu70 (by omega)
        have hB79 := hB52.below hb60
        have hB80 := upd_blk hB79 hu70 (by omega)
        have hB81 := hB54.below hb60
        have hB82 := upd_blk hB81 hu70 (by omega)
        have ho83 := hM61.upd hu70 (by omega)
        refine WL.nil (WE.sub (K' := [(0, .agg #[.int .i64 f, .slice a l.length c]), (1, .func (.func 54) #[] #[.pointer (some ⟨gs, 0, none⟩)]), (2, .pointer (some ⟨g2, 0, none⟩)), (4, .pointer (some ⟨g10, 0, none⟩)), (5, .pointer none), (6, .pointer (some ⟨g30, 0, none⟩)), (11, .bool ((decide ((f : Int) < (0 : Int))))), (18, .bool false), (29, .bool ((decide ((0 : Int) < (((l.length : Nat) : Int) : Int)))))]) ⟨rfl, rfl, rfl, rfl, rfl, rfl, rfl, rfl, rfl, trivial⟩ ?_)
        refine WE.next ?_
        refine WC.seq ?_
        refine WC.seq ?_
        refine WC.region ?_
        refine WL.val (.pointer (some ⟨g2, 1, none⟩)) rfl rfl rfl (fun za zC zh zk => fld_24_1 rfl (zh.ev rfl) zk) ?_
        refine WL.val (.slice a l.length c) rfl rfl rfl (fun za zC zh zk => ld_22 rfl (zh.ev rfl) ((hB80.cell 1).trans rfl) zk) ?_
        refine WL.val (.int .i64 (((l.length : Nat) : Int))) rfl rfl rfl (fun za zC zh zk => len_22 rfl (zh.ev rfl) zk) ?_
        refine WL.val (.int .i64 0) rfl rfl rfl (fun za zC zh zk => wp_move rfl (zh.ev rfl) zk) ?_
        refine WL.nil (WE.sub (K' := [(0, .agg #[.int .i64 f, .slice a l.length c]), (1, .func (.func 54) #[] #[.pointer (some ⟨gs, 0, none⟩)]), (2, .pointer (some ⟨g2, 0, none⟩)), (4, .pointer (some ⟨g10, 0, none⟩)), (5, .pointer none), (6, .pointer (some ⟨g30, 0, none⟩)), (11, .bool ((decide ((f : Int) < (0 : Int))))), (18, .bool false), (29, .bool ((decide ((0 : Int) < (((l.length : Nat) : Int) : Int))))), (36, .slice a l.length c), (37, .int .i64 (((l.length : Nat) : Int))), (38, .int .i64 0)]) ⟨rfl, rfl, rfl, rfl, rfl, rfl, rfl, rfl, rfl, rfl, rfl, rfl, trivial⟩ ?_)
        refine WE.next ?_
        refine WC.block ?_
        refine WC.loop (X := Nat) (fun k => l.length - k) (fun k => [(0, .agg #[.int .i64 f, .slice a l.length c]), (1, .func (.func 54) #[] #[.pointer (some ⟨gs, 0, none⟩)]), (2, .pointer (some ⟨g2, 0, none⟩)), (4, .pointer (some ⟨g10, 0, none⟩)), (5, .pointer none), (6, .pointer (some ⟨g30, 0, none⟩)), (11, .bool ((decide ((f : Int) < (0 : Int))))), (18, .bool false), (29, .bool ((decide ((0 : Int) < (((l.length : Nat) : Int) : Int))))), (36, .slice a l.length c), (37, .int .i64 (((l.length : Nat) : Int))), (38, .int .i64 (((k : Nat) : Int)))]) (fun k w84 => k ≤ l.length ∧ Below w.heap.size w w84 ∧ Blk w84 gs 26 #[.slice sa s.length sc] ∧ Blk w84 g2 24 #[.int .i64 f, .slice a l.length c] ∧ Blk w84 g10 24 #[.int .i64 0, .slice none 0 0] ∧ Blk w84 g30 24 #[.int .i64 f, .slice ((some ⟨g57, 0, none⟩)) l.length l.length] ∧ MRow eltT (w84) g57 g57 24 l.length (madeCells (Value.cells (.agg #[.int .i64 0, .slice none 0 0])) (l.length * 2)).toList ((l.take k).map (T.app s))) 0 ⟨rfl, rfl, rfl, rfl, rfl, rfl, rfl, rfl, rfl, rfl, rfl, rfl, trivial⟩ ?_ ?_
        · exact ⟨Nat.zero_le _, hb75, hB78, hB80, hB82, hB71, ho83⟩
        · rintro k w84 ⟨hk, hb85, hB86, hB87, hB88, hB89, ho90⟩
          have hgl := ho90.lt
          refine WC.seq ?_
          refine WC.region ?_
          refine WL.val (.bool ((decide ((((k : Nat) : Int) : Int) < (((l.length : Nat) : Int) : Int))))) rfl rfl rfl (fun za zC zh zk => lss_3 rfl (zh.ev rfl) (zh.ev rfl) zk) ?_
          refine WL.nil (WE.sub (K' := [(0, .agg #[.int .i64 f, .slice a l.length c]), (1, .func (.func 54) #[] #[.pointer (some ⟨gs, 0, none⟩)]), (2, .pointer (some ⟨g2, 0, none⟩)), (4, .pointer (some ⟨g10, 0, none⟩)), (5, .pointer none), (6, .pointer (some ⟨g30, 0, none⟩)), (11, .bool ((decide ((f : Int) < (0 : Int))))), (18, .bool false), (29, .bool ((decide ((0 : Int) < (((l.length : Nat) : Int) : Int))))), (36, .slice a l.length c), (37, .int .i64 (((l.length : Nat) : Int))), (38, .int .i64 (((k : Nat) : Int))), (39, .bool ((decide ((((k : Nat) : Int) : Int) < (((l.length : Nat) : Int) : Int)))))]) ⟨rfl, rfl, rfl, rfl, rfl, rfl, rfl, rfl, rfl, rfl, rfl, rfl, rfl, trivial⟩ ?_)
          refine WE.next ?_
          refine WC.seq ?_
          refine WC.cond rfl (fun h91 => ?_) (fun h91 => ?_)
          · have h91 : (((k : Nat) : Int) : Int) < (((l.length : Nat) : Int) : Int) := by simpa using h91
            refine WC.skip ?_
            refine WE.next ?_
            refine WC.seq ?_
            refine WC.block ?_
            refine WC.seq ?_
            refine WC.region ?_
            refine WL.val (.int .i64 (((k : Nat) : Int))) rfl rfl rfl (fun za zC zh zk => wp_move rfl (zh.ev rfl) zk) ?_
            obtain ⟨b92, o93, A94, C95, ha96, hc97⟩ := IsTs.open hl
            refine WL.val (.pointer (some ⟨b92, o93 + k * 2, none⟩)) rfl rfl rfl (fun za zC zh zk => ix_22 (k := k) rfl (zh.ev rfl) (ha96 k (by first | omega | (simp; omega))) (zh.ev rfl) (by first | omega | (simp; omega)) zk) ?_
            refine WL.val (.agg #[.int .i64 ((tget l k).f), .slice ((A94 k)) ((tget l k).args.length) ((C95 k))]) rfl rfl rfl (fun za zC zh zk => ld_24 rfl (zh.ev rfl) (bkeeps hb85 _ _ (hc97 k (by first | omega | (simp; omega))).1) (bkeeps hb85 _ _ (hc97 k (by first | omega | (simp; omega))).2.1) zk) ?_
            refine WL.step (post := NewBlk w84 24 #[.int .i64 0, .slice none 0 0]) rfl rfl rfl (fun za zC zh zk => alloc_24 rfl (zk _ _ (newBlk _ _ _))) ?_
            rintro _ w98 ⟨g99, rfl, hg100, hB101, hb102, hz103⟩
            have hl104 : gs < g99 := by have z1 := hB86.lt; omega
            have hl105 : g2 < g99 := by have z1 := hB87.lt; omega
            have hl106 : g10 < g99 := by have z1 := hB88.lt; omega
            have hl107 : g30 < g99 := by have z1 := hB89.lt; omega
            have hl108 : w.heap.size ≤ g99 := by have z2 := (hb85).size; omega
            have hl109 : w84.heap.size ≤ g99 := by omega
            refine WL.val (.int .i64 (((k : Nat) : Int))) rfl rfl rfl (fun za zC zh zk => wp_assign rfl (zh.ev rfl) zk) ?_
            refine WL.step (post := fun _ w' => Upd g99 w98 w' ∧ Blk w' g99 24 #[.int .i64 ((tget l k).f), .slice ((A94 k)) ((tget l k).args.length) ((C95 k))]) rfl rfl rfl (fun za zC zh zk => st_24 rfl (zh.ev rfl) (zh.ev rfl) rfl rfl hB101 (by first | decide | simp) (fun v => zk v _ ⟨(Upd.at_ _ _ _ _).trans (Upd.at_ _ _ _ _), (hB101.set_ 0 _).set_ 1 _⟩)) ?_
            rintro v113 w110 ⟨hu111, hB112⟩
            have hb114 : Below w.heap.size w w98 := (bstep hb85 hb102)
            have hb115 := upd_below hb114 hu111 (by omega)
            have hb116 := upd_below hb102 hu111 (by omega)
            have hB117 := hB86.below hb102
            have hB118 := upd_blk hB117 hu111 (by omega)
            have hB119 := hB87.below hb102
            have hB120 := upd_blk hB119 hu111 (by omega)
            have hB121 := hB88.below hb102
            have hB122 := upd_blk hB121 hu111 (by omega)
            have hB123 := hB89.below hb102
            have hB124 := upd_blk hB123 hu111 (by omega)
            refine WL.nil (WE.sub (K' := [(0, .agg #[.int .i64 f, .slice a l.length c]), (1, .func (.func 54) #[] #[.pointer (some ⟨gs, 0, none⟩)]), (2, .pointer (some ⟨g2, 0, none⟩)), (4, .pointer (some ⟨g10, 0, none⟩)), (5, .pointer none), (6, .pointer (some ⟨g30, 0, none⟩)), (7, .int .i64 (((k : Nat) : Int))), (8, .pointer (some ⟨g99, 0, none⟩)), (11, .bool ((decide ((f : Int) < (0 : Int))))), (18, .bool false), (29, .bool ((decide ((0 : Int) < (((l.length : Nat) : Int) : Int))))), (36, .slice a l.length c), (37, .int .i64 (((l.length : Nat) : Int))), (38, .int .i64 (((k : Nat) : Int))), (39, .bool ((decide ((((k : Nat) : Int) : Int) < (((l.length : Nat) : Int) : Int)))))]) ⟨rfl, rfl, rfl, rfl, rfl, rfl, rfl, rfl, rfl, rfl, rfl, rfl, rfl, rfl, rfl, trivial⟩ ?_)
            refine WE.next ?_
            have ho125 := ho90.below hb116
            have hSlt : ∀ b, (fun b => b = g57) b → b < w110.heap.size := fun b e => e ▸ ho125.lt
            have hgl : g57 < w110.heap.size := ho125.lt
            refine WC.tail1 (S := ((fun b => b = g57))) [(true, .val (.pointer (some ⟨g30, 1, none⟩))), (true, .val (.slice ((some ⟨g57, 0, none⟩)) l.length l.length)), (true, .val (.int .i64 (((k : Nat) : Int)))), (true, .val (.agg #[.int .i64 ((tget l k).f), .slice ((A94 k)) ((tget l k).args.length) ((C95 k))])), (true, .val (.func (.func 54) #[] #[.pointer (some ⟨gs, 0, none⟩)])), (true, .mem (fun v w' => NewT w110 w' (((tget l k).app s)) v) (fun v w w' hc h => InT.chg h hc (fun b hb hs => by have z := hSlt b hs; omega))), (true, .val (.pointer (some ⟨g57, 0 + k * 2, none⟩))), (true, .val undef)] [(0, .agg #[.int .i64 f, .slice a l.length c]), (1, .func (.func 54) #[] #[.pointer (some ⟨gs, 0, none⟩)]), (2, .pointer (some ⟨g2, 0, none⟩)), (4, .pointer (some ⟨g10, 0, none⟩)), (5, .pointer none), (6, .pointer (some ⟨g30, 0, none⟩)), (7, .int .i64 (((k : Nat) : Int))), (8, .pointer (some ⟨g99, 0, none⟩)), (11, .bool ((decide ((f : Int) < (0 : Int))))), (18, .bool false), (29, .bool ((decide ((0 : Int) < (((l.length : Nat) : Int) : Int))))), (36, .slice a l.length c), (37, .int .i64 (((l.length : Nat) : Int))), (38, .int .i64 (((k : Nat) : Int))), (39, .bool ((decide ((((k : Nat) : Int) : Int) < (((l.length : Nat) : Int) : Int)))))] 7 (fun wz => MRow eltT wz g57 g57 24 l.length (madeCells (Value.cells (.agg #[.int .i64 0, .slice none 0 0])) (l.length * 2)).toList (((l.take k).map (T.app s) ++ [(tget l k).app s]))) (fun w w' hb h => h.below hb) ⟨rfl, rfl, rfl, rfl, rfl, rfl, rfl, rfl, rfl, rfl, rfl, rfl, rfl, rfl, rfl, trivial⟩ (by kernel_rfl) (by kernel_rfl) (by kernel_rfl) (by kernel_rfl) ?_ ?_
            · refine ⟨.inl ⟨rfl, true, .none rfl, (fun gg b h => by cases h), fun h w => optUndef h, fun zβ za zw zc => ?_⟩, ?_⟩
              · exact fld_24_1 rfl (zc.kn.ev rfl) ⟨_, rfl, Below.refl _ _, optDef zβ rfl⟩
              refine ⟨.inl ⟨rfl, true, .none rfl, (fun gg b h => by cases h), fun h w => optUndef h, fun zβ za zw zc => ?_⟩, ?_⟩
              · exact ld_22 rfl ((show za.eval (.tmp 43) = za.tmps.getD 43 undef from rfl).trans (optSVal (zc.dep 0 43 (by kernel_rfl) (by decide)) rfl rfl)) (bkeeps (zc.early (by kernel_rfl)) _ _ ((hB124.cell 1).trans rfl)) ⟨_, rfl, Below.refl _ _, optDef zβ rfl⟩
              refine ⟨.inl ⟨rfl, true, .none rfl, (fun gg b h => by cases h), fun h w => optUndef h, fun zβ za zw zc => ?_⟩, ?_⟩
              · exact wp_move rfl (zc.kn.ev rfl) ⟨_, rfl, Below.refl _ _, optDef zβ rfl⟩
              refine ⟨.inl ⟨rfl, true, .none rfl, (fun gg b h => by cases h), fun h w => optUndef h, fun zβ za zw zc => ?_⟩, ?_⟩
              · exact ld_24 rfl (zc.kn.ev rfl) (bkeeps (zc.early (by kernel_rfl)) _ _ ((hB112.cell 0).trans rfl)) (bkeeps (zc.early (by kernel_rfl)) _ _ ((hB112.cell 1).trans rfl)) ⟨_, rfl, Below.refl _ _, optDef zβ rfl⟩
              refine ⟨.inl ⟨rfl, true, .none rfl, (fun gg b h => by cases h), fun h w => optUndef h, fun zβ za zw zc => ?_⟩, ?_⟩
              · exact wp_move rfl (zc.kn.ev rfl) ⟨_, rfl, Below.refl _ _, optDef zβ rfl⟩
              refine ⟨.inl ⟨rfl, true, .none rfl, (fun gg b h => by cases h), fun h w => optUndef h, fun zβ za zw zc => ?_⟩, ?_⟩
              · exact wp_call (by kernel_rfl) rfl (hv2 ((show za.eval (.tmp 46) = za.tmps.getD 46 undef from rfl).trans (optSVal (zc.dep 3 46 (by kernel_rfl) (by decide)) rfl rfl)) ((show za.eval (.tmp 47) = za.tmps.getD 47 undef from rfl).trans (optSVal (zc.dep 4 47 (by kernel_rfl) (by decide)) rfl rfl))) (ih _ (tget_mem (by omega)) _ _ (size_at (by omega) hz) (IsT.below (bstep hb115 (zc.early (by kernel_rfl))) (hc97 k (by first | omega | (simp; omega))).2.2) (hs.below (bstep hb115 (zc.early (by kernel_rfl)))) (hB118.below (zc.early (by kernel_rfl)))) (fun v w' h => ⟨v, rfl, h.2, optDef zβ (InT.mono (fun b hb _ => Nat.le_trans (zc.early (by kernel_rfl)).size hb) h.1)⟩)
              refine ⟨.inl ⟨rfl, true, .none rfl, (fun gg b h => by cases h), fun h w => optUndef h, fun zβ za zw zc => ?_⟩, ?_⟩
              · exact ix_22 (k := k) rfl ((show za.eval (.tmp 44) = za.tmps.getD 44 undef from rfl).trans (optSVal (zc.dep 1 44 (by kernel_rfl) (by decide)) rfl rfl)) rfl ((show za.eval (.tmp 45) = za.tmps.getD 45 undef from rfl).trans (optSVal (zc.dep 2 45 (by kernel_rfl) (by decide)) rfl rfl)) (by first | omega | (simp; omega)) ⟨_, rfl, Below.refl _ _, optDef zβ rfl⟩
              refine ⟨.inr ⟨rfl, rfl, fun za zw zc => ?_⟩, ?_⟩
              · have zv := (optSMem (zc.dep 5 48 (by kernel_rfl) (by decide)) rfl rfl)
                obtain ⟨_, a1, c1, e1, _⟩ := zv.form
                rw [e1] at zv
                have zm := ho125.below zc.below
                obtain ⟨cs, hB, hsz⟩ := zm.blkT (k := k) (by simp; omega) (by omega)
                exact st_24 rfl ((show za.eval (.tmp 49) = za.tmps.getD 49 undef from rfl).trans (optSVal (zc.dep 6 49 (by kernel_rfl) (by decide)) rfl rfl)) ((show za.eval (.tmp 48) = za.tmps.getD 48 undef from rfl).trans e1) rfl rfl hB hsz (fun v => ⟨v, rfl, zm.storeT (k := k) (by simp; omega) (by omega) (zv.mono (fun b hb _ => by (try dsimp only at *); omega)), .ofUpd ((Upd.at_ _ _ _ _).trans (Upd.at_ _ _ _ _)) rfl⟩)
              exact trivial
            · intro za w126 zh hG127 hc128 zu
              have hb129 := chg_below hb115 hc128 (fun b hb => (by (try dsimp only at *); omega))
              have hB130 := chg_blk hB118 hc128 (by (try dsimp only at *); omega)
              have hB131 := chg_blk hB120 hc128 (by (try dsimp only at *); omega)
              have hB132 := chg_blk hB122 hc128 (by (try dsimp only at *); omega)
              have hB133 := chg_blk hB124 hc128 (by (try dsimp only at *); omega)
              have hB134 := chg_blk hB112 hc128 (by (try dsimp only at *); omega)
              clear zu
              refine (show WE _ [(0, .agg #[.int .i64 f, .slice a l.length c]), (1, .func (.func 54) #[] #[.pointer (some ⟨gs, 0, none⟩)]), (2, .pointer (some ⟨g2, 0, none⟩)), (4, .pointer (some ⟨g10, 0, none⟩)), (5, .pointer none), (6, .pointer (some ⟨g30, 0, none⟩)), (7, .int .i64 (((k : Nat) : Int))), (8, .pointer (some ⟨g99, 0, none⟩)), (11, .bool ((decide ((f : Int) < (0 : Int))))), (18, .bool false), (29, .bool ((decide ((0 : Int) < (((l.length : Nat) : Int) : Int))))), (36, .slice a l.length c), (37, .int .i64 (((l.length : Nat) : Int))), (38, .int .i64 (((k : Nat) : Int))), (39, .bool ((decide ((((k : Nat) : Int) : Int) < (((l.length : Nat) : Int) : Int)))))] w126 _ .normal from ?_) za (zh.sub ⟨rfl, rfl, rfl, rfl, rfl, rfl, rfl, rfl, rfl, rfl, rfl, rfl, rfl, rfl, rfl, trivial⟩)
              refine WE.blockNormal ?_
              refine WE.next ?_
              refine WC.region ?_
              refine WL.val (.int .i64 ((((k + 1) : Nat) : Int))) rfl rfl rfl (fun za zC zh zk => addb_3 rfl (zh.ev rfl) (zh.ev rfl) (wrap_eq (by omega) (by omega) (by omega)) zk) ?_
              refine WL.val (.int .i64 ((((k + 1) : Nat) : Int))) rfl rfl rfl (fun za zC zh zk => wp_move rfl (zh.ev rfl) zk) ?_
              refine WL.nil (WE.sub (K' := [(0, .agg #[.int .i64 f, .slice a l.length c]), (1, .func (.func 54) #[] #[.pointer (some ⟨gs, 0, none⟩)]), (2, .pointer (some ⟨g2, 0, none⟩)), (4, .pointer (some ⟨g10, 0, none⟩)), (5, .pointer none), (6, .pointer (some ⟨g30, 0, none⟩)), (7, .int .i64 (((k : Nat) : Int))), (8, .pointer (some ⟨g99, 0, none⟩)), (11, .bool ((decide ((f : Int) < (0 : Int))))), (18, .bool false), (29, .bool ((decide ((0 : Int) < (((l.length : Nat) : Int) : Int))))), (36, .slice a l.length c), (37, .int .i64 (((l.length : Nat) : Int))), (38, .int .i64 ((((k + 1) : Nat) : Int))), (39, .bool ((decide ((((k : Nat) : Int) : Int) < (((l.length : Nat) : Int) : Int)))))]) ⟨rfl, rfl, rfl, rfl, rfl, rfl, rfl, rfl, rfl, rfl, rfl, rfl, rfl, rfl, rfl, trivial⟩ ?_)
              refine WE.round (k + 1) ⟨rfl, rfl, rfl, rfl, rfl, rfl, rfl, rfl, rfl, rfl, rfl, rfl, trivial⟩ ?_ ?_
              · exact ⟨by omega, hb129, hB130, hB131, hB132, hB133, (by rw [← take_map (by omega)]; exact hG127)⟩
              · omega
          · have h91 : ¬ ((((k : Nat) : Int) : Int) < (((l.length : Nat) : Int) : Int)) := by simpa using h91
            refine WC.exit ?_
            refine WE.thenExit ?_
            refine WE.thenExit ?_
            refine WE.blockIs rfl ?_
            refine WE.next ?_
            refine WC.seq ?_
            refine WC.region ?_
            refine WL.val (.agg #[.int .i64 f, .slice ((some ⟨g57, 0, none⟩)) l.length l.length]) rfl rfl rfl (fun za zC zh zk => ld_24 rfl (zh.ev rfl) ((hB89.cell 0).trans rfl) ((hB89.cell 1).trans rfl) zk) ?_
            refine WL.step (post := fun _ w' => Upd g10 w84 w' ∧ Blk w' g10 24 #[.int .i64 f, .slice ((some ⟨g57, 0, none⟩)) l.length l.length]) rfl rfl rfl (fun za zC zh zk => st_24 rfl (zh.ev rfl) (zh.ev rfl) rfl rfl hB88 (by first | decide | simp) (fun v => zk v _ ⟨(Upd.at_ _ _ _ _).trans (Upd.at_ _ _ _ _), (hB88.set_ 0 _).set_ 1 _⟩)) ?_
            rintro v138 w135 ⟨hu136, hB137⟩
            have hb139 := upd_below hb85 hu136 (by omega)
            have hB140 := upd_blk hB86 hu136 (by omega)
            have hB141 := upd_blk hB87 hu136 (by omega)
            have hB142 := upd_blk hB89 hu136 (by omega)
            have ho143 := ho90.upd hu136 (by omega)
            refine WL.nil (WE.sub (K' := [(0, .agg #[.int .i64 f, .slice a l.length c]), (1, .func (.func 54) #[] #[.pointer (some ⟨gs, 0, none⟩)]), (2, .pointer (some ⟨g2, 0, none⟩)), (4, .pointer (some ⟨g10, 0, none⟩)), (5, .pointer none), (6, .pointer (some ⟨g30, 0, none⟩)), (11, .bool ((decide ((f : Int) < (0 : Int))))), (18, .bool false), (29, .bool ((decide ((0 : Int) < (((l.length : Nat) : Int) : Int))))), (36, .slice a l.length c), (37, .int .i64 (((l.length : Nat) : Int))), (38, .int .i64 (((k : Nat) : Int))), (39, .bool ((decide ((((k : Nat) : Int) : Int) < (((l.length : Nat) : Int) : Int)))))]) ⟨rfl, rfl, rfl, rfl, rfl, rfl, rfl, rfl, rfl, rfl, rfl, rfl, rfl, trivial⟩ ?_)
            refine WE.next ?_
            refine WC.ret ?_
            refine WE.retAny (v := .agg #[.int .i64 f, .slice ((some ⟨g57, 0, none⟩)) l.length l.length]) (fun za zh => ?_) ?_
            · have z0 : za.tmps[4]?.getD undef = .pointer (some ⟨g10, 0, none⟩) := by rw [← Array.getD_eq_getD_getElem?]; exact zh.knows 4 _ rfl
              have y0 : w135.cell? ⟨g10, 0, none⟩ = some (.int .i64 f) := ((hB137.cell 0).trans rfl)
              have y1 : w135.cell? ⟨g10, 1, none⟩ = some (.slice ((some ⟨g57, 0, none⟩)) l.length l.length) := ((hB137.cell 1).trans rfl)
              simp [results, Try.results53, z0, y0, y1, go_sem]
            · have z := ho143
              rw [List.take_of_length_le (by omega)] at z
              have hgz := (hb139).size
              exact ⟨_, rfl, by rw [app_none (fun _ => hf24)]; exact newT_mk hf (by simp) (Nat.le_refl _) (by unfold maxLen; omega) (z.inRow.mono (by decide) (fun b hb _ => by omega)), hb139⟩
      · have h55 : ¬ ((0 : Int) < (((l.length : Nat) : Int) : Int)) := by simpa using h55
        refine WC.skip ?_
        refine WE.next ?_
        refine WC.seq ?_
        refine WC.seq ?_
        refine WC.region ?_
        refine WL.val (.pointer (some ⟨g2, 1, none⟩)) rfl rfl rfl (fun za zC zh zk => fld_24_1 rfl (zh.ev rfl) zk) ?_
        refine WL.val (.slice a l.length c) rfl rfl rfl (fun za zC zh zk => ld_22 rfl (zh.ev rfl) ((hB52.cell 1).trans rfl) zk) ?_
        refine WL.val (.int .i64 (((l.length : Nat) : Int))) rfl rfl rfl (fun za zC zh zk => len_22 rfl (zh.ev rfl) zk) ?_
        refine WL.val (.int .i64 0) rfl rfl rfl (fun za zC zh zk => wp_move rfl (zh.ev rfl) zk) ?_
        refine WL.nil (WE.sub (K' := [(0, .agg #[.int .i64 f, .slice a l.length c]), (1, .func (.func 54) #[] #[.pointer (some ⟨gs, 0, none⟩)]), (2, .pointer (some ⟨g2, 0, none⟩)), (4, .pointer (some ⟨g10, 0, none⟩)), (5, .pointer none), (6, .pointer (some ⟨g30, 0, none⟩)), (11, .bool ((decide ((f : Int) < (0 : Int))))), (18, .bool false), (29, .bool ((decide ((0 : Int) < (((l.length : Nat) : Int) : Int))))), (36, .slice a l.length c), (37, .int .i64 (((l.length : Nat) : Int))), (38, .int .i64 0)]) ⟨rfl, rfl, rfl, rfl, rfl, rfl, rfl, rfl, rfl, rfl, rfl, rfl, trivial⟩ ?_)
        refine WE.next ?_
        refine WC.block ?_
        refine WC.loop (X := Unit) (fun _ => 0) (fun _ => [(0, .agg #[.int .i64 f, .slice a l.length c]), (1, .func (.func 54) #[] #[.pointer (some ⟨gs, 0, none⟩)]), (2, .pointer (some ⟨g2, 0, none⟩)), (4, .pointer (some ⟨g10, 0, none⟩)), (5, .pointer none), (6, .pointer (some ⟨g30, 0, none⟩)), (11, .bool ((decide ((f : Int) < (0 : Int))))), (18, .bool false), (29, .bool ((decide ((0 : Int) < (((l.length : Nat) : Int) : Int))))), (36, .slice a l.length c), (37, .int .i64 (((l.length : Nat) : Int))), (38, .int .i64 0)]) (fun _ w144 => True ∧ Below w.heap.size w w144 ∧ Below w20.heap.size w20 w144 ∧ Blk w144 gs 26 #[.slice sa s.length sc] ∧ Blk w144 g2 24 #[.int .i64 f, .slice a l.length c] ∧ Blk w144 g10 24 #[.int .i64 0, .slice none 0 0] ∧ Blk w144 g30 24 #[.int .i64 f, .slice none 0 0]) (()) ⟨rfl, rfl, rfl, rfl, rfl, rfl, rfl, rfl, rfl, rfl, rfl, rfl, trivial⟩ ?_ ?_
        · exact ⟨trivial, hb46, hb47, hB50, hB52, hB54, hB43⟩
        · rintro _ w144 ⟨_, hb145, hb146, hB147, hB148, hB149, hB150⟩
          refine WC.seq ?_
          refine WC.region ?_
          refine WL.val (.bool ((decide ((0 : Int) < (((l.length : Nat) : Int) : Int))))) rfl rfl rfl (fun za zC zh zk => lss_3 rfl (zh.ev rfl) (zh.ev rfl) zk) ?_
          refine WL.nil (WE.sub (K' := [(0, .agg #[.int .i64 f, .slice a l.length c]), (1, .func (.func 54) #[] #[.pointer (some ⟨gs, 0, none⟩)]), (2, .pointer (some ⟨g2, 0, none⟩)), (4, .pointer (some ⟨g10, 0, none⟩)), (5, .pointer none), (6, .pointer (some ⟨g30, 0, none⟩)), (11, .bool ((decide ((f : Int) < (0 : Int))))), (18, .bool false), (29, .bool ((decide ((0 : Int) < (((l.length : Nat) : Int) : Int))))), (36, .slice a l.length c), (37, .int .i64 (((l.length : Nat) : Int))), (38, .int .i64 0), (39, .bool ((decide ((0 : Int) < (((l.length : Nat) : Int) : Int)))))]) ⟨rfl, rfl, rfl, rfl, rfl, rfl, rfl, rfl, rfl, rfl, rfl, rfl, rfl, trivial⟩ ?_)
          refine WE.next ?_
          refine WC.seq ?_
          refine WC.condF rfl (decide_eq_false (by omega)) ?_
          refine WC.exit ?_
          refine WE.thenExit ?_
          refine WE.thenExit ?_
          refine WE.blockIs rfl ?_
          refine WE.next ?_
          refine WC.seq ?_
          refine WC.region ?_
          refine WL.val (.agg #[.int .i64 f, .slice none 0 0]) rfl rfl rfl (fun za zC zh zk => ld_24 rfl (zh.ev rfl) ((hB150.cell 0).trans rfl) ((hB150.cell 1).trans rfl) zk) ?_
          refine WL.step (post := fun _ w' => Upd g10 w144 w' ∧ Blk w' g10 24 #[.int .i64 f, .slice none 0 0]) rfl rfl rfl (fun za zC zh zk => st_24 rfl (zh.ev rfl) (zh.ev rfl) rfl rfl hB149 (by first | decide | simp) (fun v => zk v _ ⟨(Upd.at_ _ _ _ _).trans (Upd.at_ _ _ _ _), (hB149.set_ 0 _).set_ 1 _⟩)) ?_
          rintro v154 w151 ⟨hu152, hB153⟩
          have hb155 := upd_below hb145 hu152 (by omega)
          have hB156 := upd_blk hB147 hu152 (by omega)
          have hB157 := upd_blk hB148 hu152 (by omega)
          have hB158 := upd_blk hB150 hu152 (by omega)
          refine WL.nil (WE.sub (K' := [(0, .agg #[.int .i64 f, .slice a l.length c]), (1, .func (.func 54) #[] #[.pointer (some ⟨gs, 0, none⟩)]), (2, .pointer (some ⟨g2, 0, none⟩)), (4, .pointer (some ⟨g10, 0, none⟩)), (5, .pointer none), (6, .pointer (some ⟨g30, 0, none⟩)), (11, .bool ((decide ((f : Int) < (0 : Int))))), (18, .bool false), (29, .bool ((decide ((0 : Int) < (((l.length : Nat) : Int) : Int))))), (36, .slice a l.length c), (37, .int .i64 (((l.length : Nat) : Int))), (38, .int .i64 0), (39, .bool ((decide ((0 : Int) < (((l.length : Nat) : Int) : Int)))))]) ⟨rfl, rfl, rfl, rfl, rfl, rfl, rfl, rfl, rfl, rfl, rfl, rfl, rfl, trivial⟩ ?_)
          refine WE.next ?_
          refine WC.ret ?_
          refine WE.retAny (v := .agg #[.int .i64 f, .slice none 0 0]) (fun za zh => ?_) ?_
          · have z0 : za.tmps[4]?.getD undef = .pointer (some ⟨g10, 0, none⟩) := by rw [← Array.getD_eq_getD_getElem?]; exact zh.knows 4 _ rfl
            have y0 : w151.cell? ⟨g10, 0, none⟩ = some (.int .i64 f) := ((hB153.cell 0).trans rfl)
            have y1 : w151.cell? ⟨g10, 1, none⟩ = some (.slice none 0 0) := ((hB153.cell 1).trans rfl)
            simp [results, Try.results53, z0, y0, y1, go_sem]
          · have e : l = [] := List.length_eq_zero_iff.1 (by omega)
            subst e
            exact ⟨_, rfl, by rw [app_none (fun _ => hf24)]; exact newT_leaf hf, hb155⟩
    · rw [hf24] at hto21
      obtain ⟨b159, o160, a161, c162, rfl, h163, h164, h165⟩ := hto21
      refine WL.val (.pointer (some ⟨b159, o160, none⟩)) rfl rfl rfl (fun za zC zh zk => wp_assign rfl (zh.ev rfl) zk) ?_
      refine WL.nil (WE.sub (K' := [(0, .agg #[.int .i64 f, .slice a l.length c]), (1, .func (.func 54) #[] #[.pointer (some ⟨gs, 0, none⟩)]), (2, .pointer (some ⟨g2, 0, none⟩)), (4, .pointer (some ⟨g10, 0, none⟩)), (5, .pointer (some ⟨b159, o160, none⟩)), (11, .bool ((decide ((f : Int) < (0 : Int)))))]) ⟨rfl, rfl, rfl, rfl, rfl, rfl, trivial⟩ ?_)
      refine WE.next ?_
      refine WC.seq ?_
      refine WC.region ?_
      refine WL.val (.pointer (some ⟨b159, o160, none⟩)) rfl rfl rfl (fun za zC zh zk => wp_move rfl (zh.ev rfl) zk) ?_
      refine WL.val (.bool true) rfl rfl rfl (fun za zC zh zk => neqp_66 rfl (zh.ev rfl) (zh.ev rfl) zk) ?_
      refine WL.nil (WE.sub (K' := [(0, .agg #[.int .i64 f, .slice a l.length c]), (1, .func (.func 54) #[] #[.pointer (some ⟨gs, 0, none⟩)]), (2, .pointer (some ⟨g2, 0, none⟩)), (4, .pointer (some ⟨g10, 0, none⟩)), (5, .pointer (some ⟨b159, o160, none⟩)), (11, .bool ((decide ((f : Int) < (0 : Int))))), (18, .bool true)]) ⟨rfl, rfl, rfl, rfl, rfl, rfl, rfl, trivial⟩ ?_)
      refine WE.next ?_
      refine WC.condT rfl rfl ?_
      refine WC.seq ?_
      refine WC.region ?_
      refine WL.val (.pointer (some ⟨b159, o160, none⟩)) rfl rfl rfl (fun za zC zh zk => wp_move rfl (zh.ev rfl) zk) ?_
      refine WL.val (.pointer (some ⟨b159, o160, none⟩)) rfl rfl rfl (fun za zC zh zk => nilCheck_ rfl (zh.ev rfl) zk) ?_
      refine WL.val (.agg #[.int .i64 t23.f, .slice a161 t23.args.length c162]) rfl rfl rfl (fun za zC zh zk => ld_24 rfl (zh.ev rfl) h163 h164 zk) ?_
      have hl169 : gs < w20.heap.size := by have z1 := hB26.lt; have z2 := (hb22).size; omega
      have hl170 : g2 < w20.heap.size := by have z1 := hB18.lt; have z2 := (hb22).size; omega
      have hl171 : g10 < w20.heap.size := by have z1 := hB12.lt; have z2 := (hb22).size; omega
      have hb173 : Below w.heap.size w w20 := (bstep hb25 hb22)
      have hl172 : w.heap.size ≤ w20.heap.size := (hb173).size
      refine WL.call rfl rfl rfl (fun za zh zC => wp_call (by kernel_rfl) rfl (hv1 (zh.ev rfl))) (copy_any t23 _ _ (hs.found hf24) (IsT.below (Below.refl _ _) h165)) ?_
      rintro v166 w174 ⟨hn167, hb168⟩
      obtain ⟨_, a175, c176, rfl, _, _, _⟩ := hn167.form
      have hb178 : Below w9.heap.size w9 w174 := (bstep hb22 hb168)
      have hB177 := hB12.below hb178
      refine WL.step (post := fun _ w' => Upd g10 w174 w' ∧ Blk w' g10 24 #[.int .i64 t23.f, .slice a175 t23.args.length c176]) rfl rfl rfl (fun za zC zh zk => st_24 rfl (zh.ev rfl) (zh.ev rfl) rfl rfl hB177 (by first | decide | simp) (fun v => zk v _ ⟨(Upd.at_ _ _ _ _).trans (Upd.at_ _ _ _ _), (hB177.set_ 0 _).set_ 1 _⟩)) ?_
      rintro v182 w179 ⟨hu180, hB181⟩
      have hb183 : Below w.heap.size w w174 := (bstep hb25 hb178)
      have hb184 := upd_below hb183 hu180 (by omega)
      have hB185 := hB26.below hb178
      have hB186 := upd_blk hB185 hu180 (by omega)
      have hB187 := hB18.below hb178
      have hB188 := upd_blk hB187 hu180 (by omega)
      have ho189 := hn167.upd hu180 (by omega)
      refine WL.nil (WE.sub (K' := [(0, .agg #[.int .i64 f, .slice a l.length c]), (1, .func (.func 54) #[] #[.pointer (some ⟨gs, 0, none⟩)]), (2, .pointer (some ⟨g2, 0, none⟩)), (4, .pointer (some ⟨g10, 0, none⟩)), (5, .pointer (some ⟨b159, o160, none⟩)), (11, .bool ((decide ((f : Int) < (0 : Int))))), (18, .bool true)]) ⟨rfl, rfl, rfl, rfl, rfl, rfl, rfl, trivial⟩ ?_)
      refine WE.next ?_
      refine WC.ret ?_
      refine WE.thenRet ?_
      refine WE.retAny (v := .agg #[.int .i64 t23.f, .slice a175 t23.args.length c176]) (fun za zh => ?_) ?_
      · have z0 : za.tmps[4]?.getD undef = .pointer (some ⟨g10, 0, none⟩) := by rw [← Array.getD_eq_getD_getElem?]; exact zh.knows 4 _ rfl
        have y0 : w179.cell? ⟨g10, 0, none⟩ = some (.int .i64 t23.f) := ((hB181.cell 0).trans rfl)
        have y1 : w179.cell? ⟨g10, 1, none⟩ = some (.slice a175 t23.args.length c176) := ((hB181.cell 1).trans rfl)
        simp [results, Try.results53, z0, y0, y1, go_sem]
      · have z := ho189
        have hgz := (hb173).size
        exact ⟨_, rfl, by rw [app_some ‹_› hf24]; exact z.mono (fun b hb _ => by omega), hb184⟩
  · have h19 : ¬ ((f : Int) < (0 : Int)) := by simpa using h19
    refine WC.skip ?_
    refine WE.next ?_
    refine WC.seq ?_
    refine WC.region ?_
    refine WL.val (.pointer (some ⟨g2, 0, none⟩)) rfl rfl rfl (fun za zC zh zk => fld_24_0 rfl (zh.ev rfl) zk) ?_
    refine WL.val (.int .i64 f) rfl rfl rfl (fun za zC zh zk => ld_3 rfl (zh.ev rfl) ((hB18.cell 0).trans rfl) zk) ?_
    refine WL.val (.agg #[.int .i64 f, .slice none 0 0]) rfl rfl rfl (fun za zC zh zk => build_24_0 rfl (zh.ev rfl) zk) ?_
    refine WL.step (post := NewBlk w9 24 #[.int .i64 0, .slice none 0 0]) rfl rfl rfl (fun za zC zh zk => alloc_24 rfl (zk _ _ (newBlk _ _ _))) ?_
    rintro _ w190 ⟨g191, rfl, hg192, hB193, hb194, hz195⟩
    have hb196 : Below w.heap.size w w9 := (bstep hb5 hb13)
    have hl197 : gs < g191 := by have z1 := hgs.lt; have z2 := (hb196).size; omega
    have hl198 : g2 < g191 := by have z1 := hB18.lt; omega
    have hl199 : g10 < g191 := by have z1 := hB12.lt; omega
    have hl200 : w.heap.size ≤ g191 := by have z2 := (hb196).size; omega
    refine WL.step (post := fun _ w' => Upd g191 w190 w' ∧ Blk w' g191 24 #[.int .i64 f, .slice none 0 0]) rfl rfl rfl (fun za zC zh zk => st_24 rfl (zh.ev rfl) (zh.ev rfl) rfl rfl hB193 (by first | decide | simp) (fun v => zk v _ ⟨(Upd.at_ _ _ _ _).trans (Upd.at_ _ _ _ _), (hB193.set_ 0 _).set_ 1 _⟩)) ?_
    rintro v204 w201 ⟨hu202, hB203⟩
    have hb205 : Below w.heap.size w w190 := (bstep hb196 hb194)
    have hb206 := upd_below hb205 hu202 (by omega)
    have hB207 := hgs.below hb205
    have hB208 := upd_blk hB207 hu202 (by omega)
    have hB209 := hB18.below hb194
    have hB210 := upd_blk hB209 hu202 (by omega)
    have hB211 := hB12.below hb194
    have hB212 := upd_blk hB211 hu202 (by omega)
    refine WL.nil (WE.sub (K' := [(0, .agg #[.int .i64 f, .slice a l.length c]), (1, .func (.func 54) #[] #[.pointer (some ⟨gs, 0, none⟩)]), (2, .pointer (some ⟨g2, 0, none⟩)), (4, .pointer (some ⟨g10, 0, none⟩)), (6, .pointer (some ⟨g191, 0, none⟩)), (11, .bool ((decide ((f : Int) < (0 : Int)))))]) ⟨rfl, rfl, rfl, rfl, rfl, rfl, trivial⟩ ?_)
    refine WE.next ?_
    refine WC.seq ?_
    refine WC.seq ?_
    refine WC.region ?_
    refine WL.val (.pointer (some ⟨g2, 1, none⟩)) rfl rfl rfl (fun za zC zh zk => fld_24_1 rfl (zh.ev rfl) zk) ?_
    refine WL.val (.slice a l.length c) rfl rfl rfl (fun za zC zh zk => ld_22 rfl (zh.ev rfl) ((hB210.cell 1).trans rfl) zk) ?_
    refine WL.val (.int .i64 (((l.length : Nat) : Int))) rfl rfl rfl (fun za zC zh zk => len_22 rfl (zh.ev rfl) zk) ?_
    refine WL.val (.bool ((decide ((0 : Int) < (((l.length : Nat) : Int) : Int))))) rfl rfl rfl (fun za zC zh zk => gtr_3 rfl (zh.ev rfl) (zh.ev rfl) zk) ?_
    refine WL.nil (WE.sub (K' := [(0, .agg #[.int .i64 f, .slice a l.length c]), (1, .func (.func 54) #[] #[.pointer (some ⟨gs, 0, none⟩)]), (2, .pointer (some ⟨g2, 0, none⟩)), (4, .pointer (some ⟨g10, 0, none⟩)), (6, .pointer (some ⟨g191, 0, none⟩)), (11, .bool ((decide ((f : Int) < (0 : Int))))), (29, .bool ((decide ((0 : Int) < (((l.length : Nat) : Int) : Int)))))]) ⟨rfl, rfl, rfl, rfl, rfl, rfl, rfl, trivial⟩ ?_)
    refine WE.next ?_
    refine WC.cond rfl (fun h213 => ?_) (fun h213 => ?_)
    · have h213 : (0 : Int) < (((l.length : Nat) : Int) : Int) := by simpa using h213
      refine WC.region ?_
      refine WL.val (.pointer (some ⟨g2, 1, none⟩)) rfl rfl rfl (fun za zC zh zk => fld_24_1 rfl (zh.ev rfl) zk) ?_
      refine WL.val (.slice a l.length c) rfl rfl rfl (fun za zC zh zk => ld_22 rfl (zh.ev rfl) ((hB210.cell 1).trans rfl) zk) ?_
      refine WL.val (.int .i64 (((l.length : Nat) : Int))) rfl rfl rfl (fun za zC zh zk => len_22 rfl (zh.ev rfl) zk) ?_
      refine WL.step (post := fun v w' => ∃ g, v = .slice (some ⟨g, 0, none⟩) l.length l.length ∧ w201.heap.size = g ∧ Blk w' g 24 (madeCells (Value.cells (.agg #[.int .i64 0, .slice none 0 0])) (l.length * 2)) ∧ Below w201.heap.size w201 w') rfl rfl rfl (fun za zC zh zk => wp_mkE (z := .agg #[.int .i64 0, .slice none 0 0]) (size := 2) (bytes := 32) Try.underlying22 (by kernel_rfl) (by decide) rfl (zh.ev rfl) (zh.ev rfl) (by omega) (zk _ _ ⟨_, rfl, rfl, Blk.new' rfl, balloc _ _⟩)) ?_
      rintro _ w214 ⟨g215, rfl, hg216, hB217, hb218⟩
      have hl220 : gs < g215 := by have z1 := hB208.lt; omega
      have hl221 : g2 < g215 := by have z1 := hB210.lt; omega
      have hl222 : g10 < g215 := by have z1 := hB212.lt; omega
      have hl223 : g191 < g215 := by have z1 := hB203.lt; omega
      have hl224 : w.heap.size ≤ g215 := by have z2 := (hb206).size; omega
      have hM219 : MRow eltT w214 g215 g215 24 l.length (madeCells (Value.cells (.agg #[.int .i64 0, .slice none 0 0])) (l.length * 2)).toList [] := MRow.startT hB217 (Nat.le_refl _)
      refine WL.val (.pointer (some ⟨g191, 1, none⟩)) rfl rfl rfl (fun za zC zh zk => fld_24_1 rfl (zh.ev rfl) zk) ?_
      have hB225 := hB203.below hb218
      refine WL.step (post := fun _ w' => Upd g191 w214 w' ∧ Blk w' g191 24 #[.int .i64 f, .slice ((some ⟨g215, 0, none⟩)) l.length l.length]) rfl rfl rfl (fun za zC zh zk => st_22 rfl (zh.ev rfl) (zh.ev rfl) hB225 (by first | decide | simp) (fun v => zk v _ ⟨Upd.at_ _ _ _ _, hB225.set_ 1 _⟩)) ?_
      rintro v229 w226 ⟨hu227, hB228⟩
      have hb230 : Below w.heap.size w w214 := (bstep hb206 hb218)
      have hb231 := upd_below hb230 hu227 (by omega)
      have hB232 := hB208.below hb218
      have hB233 := upd_blk hB232 hu227 (by omega)
      have hB234 := hB210.below hb218
      have hB235 := upd_blk hB234 hu227 (by omega)
      have hB236 := hB212.below hb218
      have hB237 := upd_blk hB236 hu227 (by omega)
      have ho238 := hM219.upd hu227 (by omega)
      refine WL.nil (WE.sub (K' := [(0, .agg #[.int .i64 f, .slice a l.length c]), (1, .func (.func 54) #[] #[.pointer (some ⟨gs, 0, none⟩)]), (2, .pointer (some ⟨g2, 0, none⟩)), (4, .pointer (some ⟨g10, 0, none⟩)), (6, .pointer (some ⟨g191, 0, none⟩)), (11, .bool ((decide ((f : Int) < (0 : Int))))), (29, .bool ((decide ((0 : Int) < (((l.length : Nat) : Int) : Int)))))]) ⟨rfl, rfl, rfl, rfl, rfl, rfl, rfl, trivial⟩ ?_)
      refine WE.next ?_
      refine WC.seq ?_
      refine WC.seq ?_
      refine WC.region ?_
      refine WL.val (.pointer (some ⟨g2, 1, none⟩)) rfl rfl rfl (fun za zC zh zk => fld_24_1 rfl (zh.ev rfl) zk) ?_
      refine WL.val (.slice a l.length c) rfl rfl rfl (fun za zC zh zk => ld_22 rfl (zh.ev rfl) ((hB235.cell 1).trans rfl) zk) ?_
      refine WL.val (.int .i64 (((l.length : Nat) : Int))) rfl rfl rfl (fun za zC zh zk => len_22 rfl (zh.ev rfl) zk) ?_
      refine WL.val (.int .i64 0) rfl rfl rfl (fun za zC zh zk => wp_move rfl (zh.ev rfl) zk) ?_
      refine WL.nil (WE.sub (K' := [(0, .agg #[.int .i64 f, .slice a l.length c]), (1, .func (.func 54) #[] #[.pointer (some ⟨gs, 0, none⟩)]), (2, .pointer (some ⟨g2, 0, none⟩)), (4, .pointer (some ⟨g10, 0, none⟩)), (6, .pointer (some ⟨g191, 0, none⟩)), (11, .bool ((decide ((f : Int) < (0 : Int))))), (29, .bool ((decide ((0 : Int) < (((l.length : Nat) : Int) : Int))))), (36, .slice a l.length c), (37, .int .i64 (((l.length : Nat) : Int))), (38, .int .i64 0)]) ⟨rfl, rfl, rfl, rfl, rfl, rfl, rfl, rfl, rfl, rfl, trivial⟩ ?_)
      refine WE.next ?_
      refine WC.block ?_
      refine WC.loop (X := Nat) (fun k => l.length - k) (fun k => [(0, .agg #[.int .i64 f, .slice a l.length c]), (1, .func (.func 54) #[] #[.pointer (some ⟨gs, 0, none⟩)]), (2, .pointer (some ⟨g2, 0, none⟩)), (4, .pointer (some ⟨g10, 0, none⟩)), (6, .pointer (some ⟨g191, 0, none⟩)), (11, .bool ((decide ((f : Int) < (0 : Int))))), (29, .bool ((decide ((0 : Int) < (((l.length : Nat) : Int) : Int))))), (36, .slice a l.length c), (37, .int .i64 (((l.length : Nat) : Int))), (38, .int .i64 (((k : Nat) : Int)))]) (fun k w239 => k ≤ l.length ∧ Below w.heap.size w w239 ∧ Blk w239 gs 26 #[.slice sa s.length sc] ∧ Blk w239 g2 24 #[.int .i64 f, .slice a l.length c] ∧ Blk w239 g10 24 #[.int .i64 0, .slice none 0 0] ∧ Blk w239 g191 24 #[.int .i64 f, .slice ((some ⟨g215, 0, none⟩)) l.length l.length] ∧ MRow eltT (w239) g215 g215 24 l.length (madeCells (Value.cells (.agg #[.int .i64 0, .slice none 0 0])) (l.length * 2)).toList ((l.take k).map (T.app s))) 0 ⟨rfl, rfl, rfl, rfl, rfl, rfl, rfl, rfl, rfl, rfl, trivial⟩ ?_ ?_
      · exact ⟨Nat.zero_le _, hb231, hB233, hB235, hB237, hB228, ho238⟩
      · rintro k w239 ⟨hk, hb240, hB241, hB242, hB243, hB244, ho245⟩
        have hgl := ho245.lt
        refine WC.seq ?_
        refine WC.region ?_
        refine WL.val (.bool ((decide ((((k : Nat) : Int) : Int) < (((l.length : Nat) : Int) : Int))))) rfl rfl rfl (fun za zC zh zk => lss_3 rfl (zh.ev rfl) (zh.ev rfl) zk) ?_
        refine WL.nil (WE.sub (K' := [(0, .agg #[.int .i64 f, .slice a l.length c]), (1, .func (.func 54) #[] #[.pointer (some ⟨gs, 0, none⟩)]), (2, .pointer (some ⟨g2, 0, none⟩)), (4, .pointer (some ⟨g10, 0, none⟩)), (6, .pointer (some ⟨g191, 0, none⟩)), (11, .bool ((decide ((f : Int) < (0 : Int))))), (29, .bool ((decide ((0 : Int) < (((l.length : Nat) : Int) : Int))))), (36, .slice a l.length c), (37, .int .i64 (((l.length : Nat) : Int))), (38, .int .i64 (((k : Nat) : Int))), (39, .bool ((decide ((((k : Nat) : Int) : Int) < (((l.length : Nat) : Int) : Int)))))]) ⟨rfl, rfl, rfl, rfl, rfl, rfl, rfl, rfl, rfl, rfl, rfl, trivial⟩ ?_)
        refine WE.next ?_
        refine WC.seq ?_
        refine WC.cond rfl (fun h246 => ?_) (fun h246 => ?_)
        · have h246 : (((k : Nat) : Int) : Int) < (((l.length : Nat) : Int) : Int) := by simpa using h246
          refine WC.skip ?_
          refine WE.next ?_
          refine WC.seq ?_
          refine WC.block ?_
          refine WC.seq ?_
          refine WC.region ?_
          refine WL.val (.int .i64 (((k : Nat) : Int))) rfl rfl rfl (fun za zC zh zk => wp_move rfl (zh.ev rfl) zk) ?_
          obtain ⟨b247, o248, A249, C250, ha251, hc252⟩ := IsTs.open hl
          refine WL.val (.pointer (some ⟨b247, o248 + k * 2, none⟩)) rfl rfl rfl (fun za zC zh zk => ix_22 (k := k) rfl (zh.ev rfl) (ha251 k (by first | omega | (simp; omega))) (zh.ev rfl) (by first | omega | (simp; omega)) zk) ?_
          refine WL.val (.agg #[.int .i64 ((tget l k).f), .slice ((A249 k)) ((tget l k).args.length) ((C250 k))]) rfl rfl rfl (fun za zC zh zk => ld_24 rfl (zh.ev rfl) (bkeeps hb240 _ _ (hc252 k (by first | omega | (simp; omega))).1) (bkeeps hb240 _ _ (hc252 k (by first | omega | (simp; omega))).2.1) zk) ?_
          refine WL.step (post := NewBlk w239 24 #[.int .i64 0, .slice none 0 0]) rfl rfl rfl (fun za zC zh zk => alloc_24 rfl (zk _ _ (newBlk _ _ _))) ?_
          rintro _ w253 ⟨g254, rfl, hg255, hB256, hb257, hz258⟩
          have hl259 : gs < g254 := by have z1 := hB241.lt; omega
          have hl260 : g2 < g254 := by have z1 := hB242.lt; omega
          have hl261 : g10 < g254 := by have z1 := hB243.lt; omega
          have hl262 : g191 < g254 := by have z1 := hB244.lt; omega
          have hl263 : w.heap.size ≤ g254 := by have z2 := (hb240).size; omega
          have hl264 : w239.heap.size ≤ g254 := by omega
          refine WL.val (.int .i64 (((k : Nat) : Int))) rfl rfl rfl (fun za zC zh zk => wp_assign rfl (zh.ev rfl) zk) ?_
          refine WL.step (post := fun _ w' => Upd g254 w253 w' ∧ Blk w' g254 24 #[.int .i64 ((tget l k).f), .slice ((A249 k)) ((tget l k).args.length) ((C250 k))]) rfl rfl rfl (fun za zC zh zk => st_24 rfl (zh.ev rfl) (zh.ev rfl) rfl rfl hB256 (by first | decide | simp) (fun v => zk v _ ⟨(Upd.at_ _ _ _ _).trans (Upd.at_ _ _ _ _), (hB256.set_ 0 _).set_ 1 _⟩)) ?_
          rintro v268 w265 ⟨hu266, hB267⟩
          have hb269 : Below w.heap.size w w253 := (bstep hb240 hb257)
          have hb270 := upd_below hb269 hu266 (by omega)
          have hb271 := upd_below hb257 hu266 (by omega)
          have hB272 := hB241.below hb257
          have hB273 := upd_blk hB272 hu266 (by omega)
          have hB274 := hB242.below hb257
          have hB275 := upd_blk hB274 hu266 (by omega)
          have hB276 := hB243.below hb257
          have hB277 := upd_blk hB276 hu266 (by omega)
          have hB278 := hB244.below hb257
          have hB279 := upd_blk hB278 hu266 (by omega)
          refine WL.nil (WE.sub (K' := [(0, .agg #[.int .i64 f, .slice a l.length c]), (1, .func (.func 54) #[] #[.pointer (some ⟨gs, 0, none⟩)]), (2, .pointer (some ⟨g2, 0, none⟩)), (4, .pointer (some ⟨g10, 0, none⟩)), (6, .pointer (some ⟨g191, 0, none⟩)), (7, .int .i64 (((k : Nat) : Int))), (8, .pointer (some ⟨g254, 0, none⟩)), (11, .bool ((decide ((f : Int) < (0 : Int))))), (29, .bool ((decide ((0 : Int) < (((l.length : Nat) : Int) : Int))))), (36, .slice a l.length c), (37, .int .i64 (((l.length : Nat) : Int))), (38, .int .i64 (((k : Nat) : Int))), (39, .bool ((decide ((((k : Nat) : Int) : Int) < (((l.length : Nat) : Int) : Int)))))]) ⟨rfl, rfl, rfl, rfl, rfl, rfl, rfl, rfl, rfl, rfl, rfl, rfl, rfl, trivial⟩ ?_)
          refine WE.next ?_
          have ho280 := ho245.below hb271
          have hSlt : ∀ b, (fun b => b = g215) b → b < w265.heap.size := fun b e => e ▸ ho280.lt
          have hgl : g215 < w265.heap.size := ho280.lt
          refine WC.tail1 (S := ((fun b => b = g215))) [(true, .val (.pointer (some ⟨g191, 1, none⟩))), (true, .val (.slice ((some ⟨g215, 0, none⟩)) l.length l.length)), (true, .val (.int .i64 (((k : Nat) : Int)))), (true, .val (.agg #[.int .i64 ((tget l k).f), .slice ((A249 k)) ((tget l k).args.length) ((C250 k))])), (true, .val (.func (.func 54) #[] #[.pointer (some ⟨gs, 0, none⟩)])), (true, .mem (fun v w' => NewT w265 w' (((tget l k).app s)) v) (fun v w w' hc h => InT.chg h hc (fun b hb hs => by have z := hSlt b hs; omega))), (true, .val (.pointer (some ⟨g215, 0 + k * 2, none⟩))), (true, .val undef)] [(0, .agg #[.int .i64 f, .slice a l.length c]), (1, .func (.func 54) #[] #[.pointer (some ⟨gs, 0, none⟩)]), (2, .pointer (some ⟨g2, 0, none⟩)), (4, .pointer (some ⟨g10, 0, none⟩)), (6, .pointer (some ⟨g191, 0, none⟩)), (7, .int .i64 (((k : Nat) : Int))), (8, .pointer (some ⟨g254, 0, none⟩)), (11, .bool ((decide ((f : Int) < (0 : Int))))), (29, .bool ((decide ((0 : Int) < (((l.length : Nat) : Int) : Int))))), (36, .slice a l.length c), (37, .int .i64 (((l.length : Nat) : Int))), (38, .int .i64 (((k : Nat) : Int))), (39, .bool ((decide ((((k : Nat) : Int) : Int) < (((l.length : Nat) : Int) : Int)))))] 7 (fun wz => MRow eltT wz g215 g215 24 l.length (madeCells (Value.cells (.agg #[.int .i64 0, .slice none 0 0])) (l.length * 2)).toList (((l.take k).map (T.app s) ++ [(tget l k).app s]))) (fun w w' hb h => h.below hb) ⟨rfl, rfl, rfl, rfl, rfl, rfl, rfl, rfl, rfl, rfl, rfl, rfl, rfl, trivial⟩ (by kernel_rfl) (by kernel_rfl) (by kernel_rfl) (by kernel_rfl) ?_ ?_
          · refine ⟨.inl ⟨rfl, true, .none rfl, (fun gg b h => by cases h), fun h w => optUndef h, fun zβ za zw zc => ?_⟩, ?_⟩
            · exact fld_24_1 rfl (zc.kn.ev rfl) ⟨_, rfl, Below.refl _ _, optDef zβ rfl⟩
            refine ⟨.inl ⟨rfl, true, .none rfl, (fun gg b h => by cases h), fun h w => optUndef h, fun zβ za zw zc => ?_⟩, ?_⟩
            · exact ld_22 rfl ((show za.eval (.tmp 43) = za.tmps.getD 43 undef from rfl).trans (optSVal (zc.dep 0 43 (by kernel_rfl) (by decide)) rfl rfl)) (bkeeps (zc.early (by kernel_rfl)) _ _ ((hB279.cell 1).trans rfl)) ⟨_, rfl, Below.refl _ _, optDef zβ rfl⟩
            refine ⟨.inl ⟨rfl, true, .none rfl, (fun gg b h => by cases h), fun h w => optUndef h, fun zβ za zw zc => ?_⟩, ?_⟩
            · exact wp_move rfl (zc.kn.ev rfl) ⟨_, rfl, Below.refl _ _, optDef zβ rfl⟩
            refine ⟨.inl ⟨rfl, true, .none rfl, (fun gg b h => by cases h), fun h w => optUndef h, fun zβ za zw zc => ?_⟩, ?_⟩
            · exact ld_24 rfl (zc.kn.ev rfl) (bkeeps (zc.early (by kernel_rfl)) _ _ ((hB267.cell 0).trans rfl)) (bkeeps (zc.early (by kernel_rfl)) _ _ ((hB267.cell 1).trans rfl)) ⟨_, rfl, Below.refl _ _, optDef zβ rfl⟩
            refine ⟨.inl ⟨rfl, true, .none rfl, (fun gg b h => by cases h), fun h w => optUndef h, fun zβ za zw zc => ?_⟩, ?_⟩
            · exact wp_move rfl (zc.kn.ev rfl) ⟨_, rfl, Below.refl _ _, optDef zβ rfl⟩
            refine ⟨.inl ⟨rfl, true, .none rfl, (fun gg b h => by cases h), fun h w => optUndef h, fun zβ za zw zc => ?_⟩, ?_⟩
            · exact wp_call (by kernel_rfl) rfl (hv2 ((show za.eval (.tmp 46) = za.tmps.getD 46 undef from rfl).trans (optSVal (zc.dep 3 46 (by kernel_rfl) (by decide)) rfl rfl)) ((show za.eval (.tmp 47) = za.tmps.getD 47 undef from rfl).trans (optSVal (zc.dep 4 47 (by kernel_rfl) (by decide)) rfl rfl))) (ih _ (tget_mem (by omega)) _ _ (size_at (by omega) hz) (IsT.below (bstep hb270 (zc.early (by kernel_rfl))) (hc252 k (by first | omega | (simp; omega))).2.2) (hs.below (bstep hb270 (zc.early (by kernel_rfl)))) (hB273.below (zc.early (by kernel_rfl)))) (fun v w' h => ⟨v, rfl, h.2, optDef zβ (InT.mono (fun b hb _ => Nat.le_trans (zc.early (by kernel_rfl)).size hb) h.1)⟩)
            refine ⟨.inl ⟨rfl, true, .none rfl, (fun gg b h => by cases h), fun h w => optUndef h, fun zβ za zw zc => ?_⟩, ?_⟩
            · exact ix_22 (k := k) rfl ((show za.eval (.tmp 44) = za.tmps.getD 44 undef from rfl).trans (optSVal (zc.dep 1 44 (by kernel_rfl) (by decide)) rfl rfl)) rfl ((show za.eval (.tmp 45) = za.tmps.getD 45 undef from rfl).trans (optSVal (zc.dep 2 45 (by kernel_rfl) (by decide)) rfl rfl)) (by first | omega | (simp; omega)) ⟨_, rfl, Below.refl _ _, optDef zβ rfl⟩
            refine ⟨.inr ⟨rfl, rfl, fun za zw zc => ?_⟩, ?_⟩
            · have zv := (optSMem (zc.dep 5 48 (by kernel_rfl) (by decide)) rfl rfl)
              obtain ⟨_, a1, c1, e1, _⟩ := zv.form
              rw [e1] at zv
              have zm := ho280.below zc.below
              obtain ⟨cs, hB, hsz⟩ := zm.blkT (k := k) (by simp; omega) (by omega)
              exact st_24 rfl ((show za.eval (.tmp 49) = za.tmps.getD 49 undef from rfl).trans (optSVal (zc.dep 6 49 (by kernel_rfl) (by decide)) rfl rfl)) ((show za.eval (.tmp 48) = za.tmps.getD 48 undef from rfl).trans e1) rfl rfl hB hsz (fun v => ⟨v, rfl, zm.storeT (k := k) (by simp; omega) (by omega) (zv.mono (fun b hb _ => by (try dsimp only at *); omega)), .ofUpd ((Upd.at_ _ _ _ _).trans (Upd.at_ _ _ _ _)) rfl⟩)
            exact trivial
          · intro za w281 zh hG282 hc283 zu
            have hb284 := chg_below hb270 hc283 (fun b hb => (by (try dsimp only at *); omega))
            have hB285 := chg_blk hB273 hc283 (by (try dsimp only at *); omega)
            have hB286 := chg_blk hB275 hc283 (by (try dsimp only at *); omega)
            have hB287 := chg_blk hB277 hc283 (by (try dsimp only at *); omega)
            have hB288 := chg_blk hB279 hc283 (by (try dsimp only at *); omega)
            have hB289 := chg_blk hB267 hc283 (by (try dsimp only at *); omega)
            clear zu
            refine (show WE _ [(0, .agg #[.int .i64 f, .slice a l.length c]), (1, .func (.func 54) #[] #[.pointer (some ⟨gs, 0, none⟩)]), (2, .pointer (some ⟨g2, 0, none⟩)), (4, .pointer (some ⟨g10, 0, none⟩)), (6, .pointer (some ⟨g191, 0, none⟩)), (7, .int .i64 (((k : Nat) : Int))), (8, .pointer (some ⟨g254, 0, none⟩)), (11, .bool ((decide ((f : Int) < (0 : Int))))), (29, .bool ((decide ((0 : Int) < (((l.length : Nat) : Int) : Int))))), (36, .slice a l.length c), (37, .int .i64 (((l.length : Nat) : Int))), (38, .int .i64 (((k : Nat) : Int))), (39, .bool ((decide ((((k : Nat) : Int) : Int) < (((l.length : Nat) : Int) : Int)))))] w281 _ .normal from ?_) za (zh.sub ⟨rfl, rfl, rfl, rfl, rfl, rfl, rfl, rfl, rfl, rfl, rfl, rfl, rfl, trivial⟩)
            refine WE.blockNormal ?_
            refine WE.next ?_
            refine WC.region ?_
            refine WL.val (.int .i64 ((((k + 1) : Nat) : Int))) rfl rfl rfl (fun za zC zh zk => addb_3 rfl (zh.ev rfl) (zh.ev rfl) (wrap_eq (by omega) (by omega) (by omega)) zk) ?_
            refine WL.val (.int .i64 ((((k + 1) : Nat) : Int))) rfl rfl rfl (fun za zC zh zk => wp_move rfl (zh.ev rfl) zk) ?_
            refine WL.nil (WE.sub (K' := [(0, .agg #[.int .i64 f, .slice a l.length c]), (1, .func (.func 54) #[] #[.pointer (some ⟨gs, 0, none⟩)]), (2, .pointer (some ⟨g2, 0, none⟩)), (4, .pointer (some ⟨g10, 0, none⟩)), (6, .pointer (some ⟨g191, 0, none⟩)), (7, .int .i64 (((k : Nat) : Int))), (8, .pointer (some ⟨g254, 0, none⟩)), (11, .bool ((decide ((f : Int) < (0 : Int))))), (29, .bool ((decide ((0 : Int) < (((l.length : Nat) : Int) : Int))))), (36, .slice a l.length c), (37, .int .i64 (((l.length : Nat) : Int))), (38, .int .i64 ((((k + 1) : Nat) : Int))), (39, .bool ((decide ((((k : Nat) : Int) : Int) < (((l.length : Nat) : Int) : Int)))))]) ⟨rfl, rfl, rfl, rfl, rfl, rfl, rfl, rfl, rfl, rfl, rfl, rfl, rfl, trivial⟩ ?_)
            refine WE.round (k + 1) ⟨rfl, rfl, rfl, rfl, rfl, rfl, rfl, rfl, rfl, rfl, trivial⟩ ?_ ?_
            · exact ⟨by omega, hb284, hB285, hB286, hB287, hB288, (by rw [← take_map (by omega)]; exact hG282)⟩
            · omega
        · have h246 : ¬ ((((k : Nat) : Int) : Int) < (((l.length : Nat) : Int) : Int)) := by simpa using h246
          refine WC.exit ?_
          refine WE.thenExit ?_
          refine WE.thenExit ?_
          refine WE.blockIs rfl ?_
          refine WE.next ?_
          refine WC.seq ?_
          refine WC.region ?_
          refine WL.val (.agg #[.int .i64 f, .slice ((some ⟨g215, 0, none⟩)) l.length l.length]) rfl rfl rfl (fun za zC zh zk => ld_24 rfl (zh.ev rfl) ((hB244.cell 0).trans rfl) ((hB244.cell 1).trans rfl) zk) ?_
          refine WL.step (post := fun _ w' => Upd g10 w239 w' ∧ Blk w' g10 24 #[.int .i64 f, .slice ((some ⟨g215, 0, none⟩)) l.length l.length]) rfl rfl rfl (fun za zC zh zk => st_24 rfl (zh.ev rfl) (zh.ev rfl) rfl rfl hB243 (by first | decide | simp) (fun v => zk v _ ⟨(Upd.at_ _ _ _ _).trans (Upd.at_ _ _ _ _), (hB243.set_ 0 _).set_ 1 _⟩)) ?_
          rintro v293 w290 ⟨hu291, hB292⟩
          have hb294 := upd_below hb240 hu291 (by omega)
          have hB295 := upd_blk hB241 hu291 (by omega)
          have hB296 := upd_blk hB242 hu291 (by omega)
          have hB297 := upd_blk hB244 hu291 (by omega)
          have ho298 := ho245.upd hu291 (by omega)
          refine WL.nil (WE.sub (K' := [(0, .agg #[.int .i64 f, .slice a l.length c]), (1, .func (.func 54) #[] #[.pointer (some ⟨gs, 0, none⟩)]), (2, .pointer (some ⟨g2, 0, none⟩)), (4, .pointer (some ⟨g10, 0, none⟩)), (6, .pointer (some ⟨g191, 0, none⟩)), (11, .bool ((decide ((f : Int) < (0 : Int))))), (29, .bool ((decide ((0 : Int) < (((l.length : Nat) : Int) : Int))))), (36, .slice a l.length c), (37, .int .i64 (((l.length : Nat) : Int))), (38, .int .i64 (((k : Nat) : Int))), (39, .bool ((decide ((((k : Nat) : Int) : Int) < (((l.length : Nat) : Int) : Int)))))]) ⟨rfl, rfl, rfl, rfl, rfl, rfl, rfl, rfl, rfl, rfl, rfl, trivial⟩ ?_)
          refine WE.next ?_
          refine WC.ret ?_
          refine WE.retAny (v := .agg #[.int .i64 f, .slice ((some ⟨g215, 0, none⟩)) l.length l.length]) (fun za zh => ?_) ?_
          · have z0 : za.tmps[4]?.getD undef = .pointer (some ⟨g10, 0, none⟩) := by rw [← Array.getD_eq_getD_getElem?]; exact zh.knows 4 _ rfl
            have y0 : w290.cell? ⟨g10, 0, none⟩ = some (.int .i64 f) := ((hB292.cell 0).trans rfl)
            have y1 : w290.cell? ⟨g10, 1, none⟩ = some (.slice ((some ⟨g215, 0, none⟩)) l.length l.length) := ((hB292.cell 1).trans rfl)
            simp [results, Try.results53, z0, y0, y1, go_sem]
          · have z := ho298
            rw [List.take_of_length_le (by omega)] at z
            have hgz := (hb294).size
            exact ⟨_, rfl, by rw [app_none (fun h => absurd h ‹_›)]; exact newT_mk hf (by simp) (Nat.le_refl _) (by unfold maxLen; omega) (z.inRow.mono (by decide) (fun b hb _ => by omega)), hb294⟩
    · have h213 : ¬ ((0 : Int) < (((l.length : Nat) : Int) : Int)) := by simpa using h213
      refine WC.skip ?_
      refine WE.next ?_
      refine WC.seq ?_
      refine WC.seq ?_
      refine WC.region ?_
      refine WL.val (.pointer (some ⟨g2, 1, none⟩)) rfl rfl rfl (fun za zC zh zk => fld_24_1 rfl (zh.ev rfl) zk) ?_
      refine WL.val (.slice a l.length c) rfl rfl rfl (fun za zC zh zk => ld_22 rfl (zh.ev rfl) ((hB210.cell 1).trans rfl) zk) ?_
      refine WL.val (.int .i64 (((l.length : Nat) : Int))) rfl rfl rfl (fun za zC zh zk => len_22 rfl (zh.ev rfl) zk) ?_
      refine WL.val (.int .i64 0) rfl rfl rfl (fun za zC zh zk => wp_move rfl (zh.ev rfl) zk) ?_
      refine WL.nil (WE.sub (K' := [(0, .agg #[.int .i64 f, .slice a l.length c]), (1, .func (.func 54) #[] #[.pointer (some ⟨gs, 0, none⟩)]), (2, .pointer (some ⟨g2, 0, none⟩)), (4, .pointer (some ⟨g10, 0, none⟩)), (6, .pointer (some ⟨g191, 0, none⟩)), (11, .bool ((decide ((f : Int) < (0 : Int))))), (29, .bool ((decide ((0 : Int) < (((l.length : Nat) : Int) : Int))))), (36, .slice a l.length c), (37, .int .i64 (((l.length : Nat) : Int))), (38, .int .i64 0)]) ⟨rfl, rfl, rfl, rfl, rfl, rfl, rfl, rfl, rfl, rfl, trivial⟩ ?_)
      refine WE.next ?_
      refine WC.block ?_
      refine WC.loop (X := Unit) (fun _ => 0) (fun _ => [(0, .agg #[.int .i64 f, .slice a l.length c]), (1, .func (.func 54) #[] #[.pointer (some ⟨gs, 0, none⟩)]), (2, .pointer (some ⟨g2, 0, none⟩)), (4, .pointer (some ⟨g10, 0, none⟩)), (6, .pointer (some ⟨g191, 0, none⟩)), (11, .bool ((decide ((f : Int) < (0 : Int))))), (29, .bool ((decide ((0 : Int) < (((l.length : Nat) : Int) : Int))))), (36, .slice a l.length c), (37, .int .i64 (((l.length : Nat) : Int))), (38, .int .i64 0)]) (fun _ w299 => True ∧ Below w.heap.size w w299 ∧ Blk w299 gs 26 #[.slice sa s.length sc] ∧ Blk w299 g2 24 #[.int .i64 f, .slice a l.length c] ∧ Blk w299 g10 24 #[.int .i64 0, .slice none 0 0] ∧ Blk w299 g191 24 #[.int .i64 f, .slice none 0 0]) (()) ⟨rfl, rfl, rfl, rfl, rfl, rfl, rfl, rfl, rfl, rfl, trivial⟩ ?_ ?_
      · exact ⟨trivial, hb206, hB208, hB210, hB212, hB203⟩
      · rintro _ w299 ⟨_, hb300, hB301, hB302, hB303, hB304⟩
        refine WC.seq ?_
        refine WC.region ?_
        refine WL.val (.bool ((decide ((0 : Int) < (((l.length : Nat) : Int) : Int))))) rfl rfl rfl (fun za zC zh zk => lss_3 rfl (zh.ev rfl) (zh.ev rfl) zk) ?_
        refine WL.nil (WE.sub (K' := [(0, .agg #[.int .i64 f, .slice a l.length c]), (1, .func (.func 54) #[] #[.pointer (some ⟨gs, 0, none⟩)]), (2, .pointer (some ⟨g2, 0, none⟩)), (4, .pointer (some ⟨g10, 0, none⟩)), (6, .pointer (some ⟨g191, 0, none⟩)), (11, .bool ((decide ((f : Int) < (0 : Int))))), (29, .bool ((decide ((0 : Int) < (((l.length : Nat) : Int) : Int))))), (36, .slice a l.length c), (37, .int .i64 (((l.length : Nat) : Int))), (38, .int .i64 0), (39, .bool ((decide ((0 : Int) < (((l.length : Nat) : Int) : Int)))))]) ⟨rfl, rfl, rfl, rfl, rfl, rfl, rfl, rfl, rfl, rfl, rfl, trivial⟩ ?_)
        refine WE.next ?_
        refine WC.seq ?_
        refine WC.condF rfl (decide_eq_false (by omega)) ?_
        refine WC.exit ?_
        refine WE.thenExit ?_
        refine WE.thenExit ?_
        refine WE.blockIs rfl ?_
        refine WE.next ?_
        refine WC.seq ?_
        refine WC.region ?_
        refine WL.val (.agg #[.int .i64 f, .slice none 0 0]) rfl rfl rfl (fun za zC zh zk => ld_24 rfl (zh.ev rfl) ((hB304.cell 0).trans rfl) ((hB304.cell 1).trans rfl) zk) ?_
        refine WL.step (post := fun _ w' => Upd g10 w299 w' ∧ Blk w' g10 24 #[.int .i64 f, .slice none 0 0]) rfl rfl rfl (fun za zC zh zk => st_24 rfl (zh.ev rfl) (zh.ev rfl) rfl rfl hB303 (by first | decide | simp) (fun v => zk v _ ⟨(Upd.at_ _ _ _ _).trans (Upd.at_ _ _ _ _), (hB303.set_ 0 _).set_ 1 _⟩)) ?_
        rintro v308 w305 ⟨hu306, hB307⟩
        have hb309 := upd_below hb300 hu306 (by omega)
        have hB310 := upd_blk hB301 hu306 (by omega)
        have hB311 := upd_blk hB302 hu306 (by omega)
        have hB312 := upd_blk hB304 hu306 (by omega)
        refine WL.nil (WE.sub (K' := [(0, .agg #[.int .i64 f, .slice a l.length c]), (1, .func (.func 54) #[] #[.pointer (some ⟨gs, 0, none⟩)]), (2, .pointer (some ⟨g2, 0, none⟩)), (4, .pointer (some ⟨g10, 0, none⟩)), (6, .pointer (some ⟨g191, 0, none⟩)), (11, .bool ((decide ((f : Int) < (0 : Int))))), (29, .bool ((decide ((0 : Int) < (((l.length : Nat) : Int) : Int))))), (36, .slice a l.length c), (37, .int .i64 (((l.length : Nat) : Int))), (38, .int .i64 0), (39, .bool ((decide ((0 : Int) < (((l.length : Nat) : Int) : Int)))))]) ⟨rfl, rfl, rfl, rfl, rfl, rfl, rfl, rfl, rfl, rfl, rfl, trivial⟩ ?_)
        refine WE.next ?_
        refine WC.ret ?_
        refine WE.retAny (v := .agg #[.int .i64 f, .slice none 0 0]) (fun za zh => ?_) ?_
        · have z0 : za.tmps[4]?.getD undef = .pointer (some ⟨g10, 0, none⟩) := by rw [← Array.getD_eq_getD_getElem?]; exact zh.knows 4 _ rfl
          have y0 : w305.cell? ⟨g10, 0, none⟩ = some (.int .i64 f) := ((hB307.cell 0).trans rfl)
          have y1 : w305.cell? ⟨g10, 1, none⟩ = some (.slice none 0 0) := ((hB307.cell 1).trans rfl)
          simp [results, Try.results53, z0, y0, y1, go_sem]
        · have e : l = [] := List.length_eq_zero_iff.1 (by omega)
          subst e
          exact ⟨_, rfl, by rw [app_none (fun h => absurd h ‹_›)]; exact newT_leaf hf, hb309⟩

end Go.Proofs.Ytcmfjnadjddboaa

/- Maps from integers: entries in the order in which they were laid, whatever the values are; ranges over them. -/
namespace Go.Proofs.Ytcmfjnadjddboaa
open Go.RowKit Go
set_option linter.unusedVariables false
set_option linter.unusedSimpArgs false

/-- The entries of a map are the list. -/
structure ImE (es : Array MapEntry) (clock : Nat) (l : List (Int × Value)) : Prop where
  kv : es.toList.map (fun e => (e.key, e.val)) = l.map (fun x => (Value.int .i64 x.1, x.2))
  nd : (es.toList.map (·.born)).Nodup
  lt : ∀ e ∈ es.toList, e.born < clock
/-- What lies in a block. -/
def ObjAt (w : World) (b : Nat) (o : Obj) : Prop := w.heap[b]? = some o
section
variable {w w' : World} {b g : Nat} {o : Obj}
theorem ObjAt.lt (h : ObjAt w b o) : b < w.heap.size := (Array.getElem?_eq_some_iff.1 h).1
theorem ObjAt.chg {S : Nat → Prop} (h : ObjAt w b o) (hc : Chg S w w') (hb : ¬ S b) : ObjAt w' b o := (hc.block b h.lt hb).trans h
theorem ObjAt.below (h : ObjAt w b o) (hb : Below w.heap.size w w') : ObjAt w' b o := (hb.block b h.lt).trans h
theorem ObjAt.upd (h : ObjAt w b o) (hu : Upd g w w') (hne : b ≠ g) : ObjAt w' b o := (hu.block b hne).trans h
theorem ObjAt.neBlk {t : TypeId} {cs : Array Value} {es : Array MapEntry} {clock : Nat} (h : ObjAt w b (.map es clock)) (hB : Blk w g t cs) : g ≠ b := by
  rintro rfl; unfold ObjAt at h; unfold Blk at hB; rw [h] at hB; cases hB
end
theorem ImE.nil : ImE #[] 0 [] := ⟨rfl, List.Pairwise.nil, fun e h => by simp at h⟩
theorem ImE.size {es : Array MapEntry} {clock : Nat} {l : List (Int × Value)} (h : ImE es clock l) : es.size = l.length := by
  have := congrArg List.length h.kv
  simpa using this
def imFind : List (Int × Value) → Int → Nat → Option (Nat × Value)
  | [], _, _ => none
  | x :: l, k, i => if k = x.1 then some (i, x.2) else imFind l k (i + 1)
def imLook (l : List (Int × Value)) (k : Int) : Option Value := (imFind l k 0).map (·.2)
def imDel (l : List (Int × Value)) (k : Int) : List (Int × Value) := match imFind l k 0 with | some (i, _) => l.eraseIdx i | none => l
theorem imFind_none : ∀ {l : List (Int × Value)} {k : Int} {i : Nat}, imFind l k i = none ↔ ∀ x ∈ l, x.1 ≠ k
  | [], k, i => by simp [imFind]
  | x :: l, k, i => by
    rw [imFind]
    split
    · rename_i h; subst h; simp
    · rename_i h; rw [imFind_none]; simp; exact fun _ e => h e.symm
theorem imFind_shift : ∀ (l : List (Int × Value)) (k : Int) (i : Nat), imFind l k (i + 1) = (imFind l k i).map (fun x => (x.1 + 1, x.2))
  | [], k, i => rfl
  | x :: l, k, i => by
    rw [imFind, imFind]
    split
    · rfl
    · exact imFind_shift l k (i + 1)
theorem imFind_at {k : Int} : ∀ {l : List (Int × Value)} {i j : Nat} {v : Value}, imFind l k i = some (j, v) → i ≤ j ∧ l[j - i]? = some (k, v)
  | [], i, j, v, h => by cases h
  | x :: l, i, j, v, h => by
    rw [imFind] at h
    split at h
    · rename_i hk
      obtain ⟨rfl, rfl⟩ : i = j ∧ x.2 = v := by simpa using h
      subst hk
      simp
    · obtain ⟨h1, h2⟩ := imFind_at h
      refine ⟨by omega, ?_⟩
      rw [show j - i = (j - (i + 1)) + 1 by omega]
      simpa using h2
theorem findNow_im {kd : IntKind} (k : Int) : ∀ (es : List MapEntry) (l : List (Int × Value)) (i : Nat), es.map (fun e => (e.key, e.val)) = l.map (fun x => (Value.int .i64 x.1, x.2)) → Instr.findNow (.int kd) (.int .i64 k) es i = some (imFind l k i)
  | [], [], _, _ => rfl
  | [], _ :: _, _, h => by cases h
  | _ :: _, [], _, h => by cases h
  | e :: es, x :: l, i, h => by
    simp only [List.map_cons, List.cons.injEq, Prod.mk.injEq] at h
    obtain ⟨⟨h1, h2⟩, h3⟩ := h
    rw [Instr.findNow, h1, imFind]
    by_cases hk : k = x.1
    · subst hk; simp [Instr.sameNow, h2]
    · have := findNow_im (kd := kd) k es l (i + 1) h3
      have hb : (k == x.1) = false := by simpa using hk
      simp [Instr.sameNow, hk, hb, this]
section
variable {P : Program} {w : World} {t k e : TypeId} {kd : IntKind} {r : Nat} {es : Array MapEntry} {clock : Nat} {l : List (Int × Value)}
theorem run_findKey_im (hk : P.underlying k = some (.int kd)) (h : ImE es clock l) (x : Int) : (Instr.findKey k (.int .i64 x) es.toList).run P w = .ok (imFind l x 0) w := by
  unfold Instr.findKey
  simp [run_underlying hk, findNow_im x es.toList l 0 h.kv]
theorem run_checkKey_im (hk : P.underlying k = some (.int kd)) (b : Bool) (x : Int) : (Instr.checkKey b 10000 k (.int .i64 x)).run P w = .ok () w := by
  rw [show (10000 : Nat) = 9999 + 1 from rfl]
  generalize (9999 : Nat) = n
  simp [Instr.checkKey, run_underlying hk, go_sem]
theorem run_getObj_im (h : ObjAt w r (.map es clock)) : (getObj r).run P w = .ok (.map es clock) w := by
  unfold ObjAt at h; simp [getObj, Sem.run, h]
theorem run_setObj_im (h : ObjAt w r (.map es clock)) (o : Obj) : (setObj r o).run P w = .ok () { w with heap := w.heap.setIfInBounds r o } := by
  unfold ObjAt at h; simp [setObj, Sem.run, h]
theorem upd_setObj (h : ObjAt w r (.map es clock)) (o : Obj) : Upd r w { w with heap := w.heap.setIfInBounds r o } ∧ ObjAt { w with heap := w.heap.setIfInBounds r o } r o :=
  ⟨⟨rfl, rfl, rfl, by simp, fun k hk => by simp [Ne.symm hk]⟩, by have := h.lt; simp [ObjAt, this]⟩
variable {a : Act} {K : Act → World → Prop} {Q : Exit → Act → World → Prop} {o : Oper}
theorem wp_look_im {x y : Operand} {z : Value} {n : Int} (ht : P.underlying t = some (.map k e)) (hk : P.underlying k = some (.int kd)) (hz : (zeroValue e).run P w = .ok z w) (hM : ObjAt w r (.map es clock)) (h : ImE es clock l)
    (ho : o.op = .lookup t x y false) (hx : a.eval x = .map (some r)) (hy : a.eval y = .int .i64 n) (hK : K (a.put o.dst ((imLook l n).getD z)) w) : o.wp P a w K Q := by
  unfold Oper.wp execOp
  simp only [ho, hx, hy, Instr.lookup, Sem.run_bind, Sem.run_pure, run_underlying ht, Result.andThen_ok, run_getObj_im hM, run_checkKey_im hk, run_findKey_im hk h]
  unfold imLook at hK
  cases hf : imFind l n 0 with
  | none => rw [hf] at hK; simp [hz]; exact hK
  | some p => rw [hf] at hK; simp; exact hK
theorem wp_lookok_im {x y : Operand} {z : Value} {n : Int} (ht : P.underlying t = some (.map k e)) (hk : P.underlying k = some (.int kd)) (hz : (zeroValue e).run P w = .ok z w) (hM : ObjAt w r (.map es clock)) (h : ImE es clock l)
    (ho : o.op = .lookup t x y true) (hx : a.eval x = .map (some r)) (hy : a.eval y = .int .i64 n) (hK : K (a.put o.dst (.tuple #[(imLook l n).getD z, .bool (imLook l n).isSome])) w) : o.wp P a w K Q := by
  unfold Oper.wp execOp
  simp only [ho, hx, hy, Instr.lookup, Sem.run_bind, Sem.run_pure, run_underlying ht, Result.andThen_ok, run_getObj_im hM, run_checkKey_im hk, run_findKey_im hk h]
  unfold imLook at hK
  cases hf : imFind l n 0 with
  | none => rw [hf] at hK; simp [hz]; exact hK
  | some p => rw [hf] at hK; simp; exact hK
theorem ImE.push (h : ImE es clock l) (n : Int) (v : Value) : ImE (es.push { key := .int .i64 n, val := v, born := clock }) (clock + 1) (l ++ [(n, v)]) := by
  refine ⟨?_, ?_, fun e he => ?_⟩
  · simp [h.kv]
  · rw [Array.toList_push, List.map_append, List.map_singleton, List.nodup_append]
    refine ⟨h.nd, by simp, fun a ha b hb => ?_⟩
    obtain ⟨e, he, rfl⟩ := List.mem_map.1 ha
    have := h.lt e he
    simp at hb; omega
  · rw [Array.toList_push, List.mem_append] at he
    rcases he with he | he
    · have := h.lt e he; omega
    · simp at he; subst he; simp
/-- A new key is laid. -/
theorem wp_put_im {x y z : Operand} {n : Int} {v : Value} (ht : P.underlying t = some (.map k e)) (hk : P.underlying k = some (.int kd)) (hM : ObjAt w r (.map es clock)) (h : ImE es clock l)
    (ho : o.op = .mapUpdate t x y z) (hx : a.eval x = .map (some r)) (hy : a.eval y = .int .i64 n) (hz : a.eval z = v) (hn : ∀ x ∈ l, x.1 ≠ n)
    (hK : ∀ w' es' clock', ObjAt w' r (.map es' clock') → ImE es' clock' (l ++ [(n, v)]) → Upd r w w' → K (a.put o.dst undef) w') : o.wp P a w K Q := by
  have := hK _ _ _ (upd_setObj hM _).2 (h.push n v) (upd_setObj hM _).1
  unfold Oper.wp execOp
  simp only [ho, hx, hy, hz, Instr.mapUpdate, Sem.run_bind, Sem.run_pure, run_underlying ht, Result.andThen_ok, run_getObj_im hM, run_checkKey_im hk, run_findKey_im hk h, imFind_none.2 hn, run_setObj_im hM]
  exact this
theorem map_eraseIdx' {α β : Type} (f : α → β) : ∀ (l : List α) (i : Nat), (l.eraseIdx i).map f = (l.map f).eraseIdx i
  | [], _ => rfl
  | _ :: _, 0 => rfl
  | x :: l, i + 1 => by rw [List.eraseIdx_cons_succ, List.map_cons, List.map_cons, List.eraseIdx_cons_succ, map_eraseIdx' f l i]
theorem ImE.erase (h : ImE es clock l) (i : Nat) : ImE (es.eraseIdxIfInBounds i) clock (l.eraseIdx i) := by
  have e1 : (es.eraseIdxIfInBounds i).toList = es.toList.eraseIdx i := by
    rw [Array.toList_eraseIdxIfInBounds]
  refine ⟨?_, ?_, fun e he => ?_⟩
  · rw [e1, map_eraseIdx', h.kv, map_eraseIdx']
  · rw [e1, map_eraseIdx']; exact h.nd.sublist (List.eraseIdx_sublist _ _)
  · rw [e1] at he; exact h.lt e ((List.eraseIdx_sublist _ _).subset he)
theorem wp_del_im {x y : Operand} {n : Int} (ht : P.underlying t = some (.map k e)) (hk : P.underlying k = some (.int kd)) (hM : ObjAt w r (.map es clock)) (h : ImE es clock l)
    (ho : o.op = .call { callee := .builtin .delete, args := #[x, y], argTypes := #[t, k] }) (hx : a.eval x = .map (some r)) (hy : a.eval y = .int .i64 n)
    (hK : ∀ w' es' clock', ObjAt w' r (.map es' clock') → ImE es' clock' (imDel l n) → Upd r w w' → K (a.put o.dst (.tuple #[])) w') : o.wp P a w K Q := by
  unfold imDel at hK
  have run : (Builtin.delete_ #[t, k] o.type #[.map (some r), .int .i64 n]).run P w = (match imFind l n 0 with | some (i, _) => .ok (.tuple #[]) { w with heap := w.heap.setIfInBounds r (.map (es.eraseIdxIfInBounds i) clock) } | none => .ok (.tuple #[]) { w with heap := w.heap.setIfInBounds r (.map es clock) }) := by
    unfold Builtin.delete_
    simp only [List.getElem?_toArray, List.getElem?_cons_zero, List.getElem?_cons_succ, Sem.run_bind, run_underlying ht, Result.andThen_ok, run_getObj_im hM, run_checkKey_im hk, run_findKey_im hk h]
    cases hf : imFind l n 0 with
    | none => simp [run_setObj_im hM]
    | some p => simp [run_setObj_im hM]
  unfold Oper.wp execOp
  simp only [ho, resolve, invoke, builtin, Sem.run_bind, Sem.run_pure, Result.andThen_ok, List.map_toArray, List.map_cons, List.map_nil, hx, hy]
  rw [run]
  cases hf : imFind l n 0 with
  | none => rw [hf] at hK; exact hK _ _ _ (upd_setObj hM _).2 h (upd_setObj hM _).1
  | some p => rw [hf] at hK; exact hK _ _ _ (upd_setObj hM _).2 (h.erase p.1) (upd_setObj hM _).1
/-- A new map. -/
def NewMap (w : World) (v : Value) (w' : World) : Prop := ∃ g, v = .map (some g) ∧ w.heap.size = g ∧ ObjAt w' g (.map #[] 0) ∧ Below w.heap.size w w' ∧ w'.heap.size = g + 1
theorem wp_makeMap_im (ho : o.op = .makeMap t none) (hK : ∀ v w', NewMap w v w' → K (a.put o.dst v) w') : o.wp P a w K Q := by
  have := hK (.map (some w.heap.size)) (w.alloc (.map #[] 0)) ⟨_, rfl, rfl, heap_alloc_new w _, balloc _ _, by simp⟩
  unfold Oper.wp execOp
  simp only [ho]
  go_simp
  exact this
theorem wp_lenMap_im {x : Operand} (ht : P.underlying t = some (.map k e)) (hM : ObjAt w r (.map es clock)) (h : ImE es clock l) (ho : o.op = .call { callee := .builtin .len, args := #[x], argTypes := #[t] }) (hx : a.eval x = .map (some r)) (hK : K (a.put o.dst (.int .i64 (l.length : Nat))) w) : o.wp P a w K Q := by
  rw [← h.size] at hK
  have run : (Builtin.len_ #[t] o.type #[.map (some r)]).run P w = .ok (.int .i64 (es.size : Nat)) w := by
    unfold Builtin.len_
    simp [run_underlying ht, run_getObj_im hM, goInt]
  unfold Oper.wp execOp
  simp only [ho, resolve, invoke, builtin, Sem.run_bind, Sem.run_pure, Result.andThen_ok, List.map_toArray, List.map_cons, List.map_nil, hx]
  rw [run]
  exact hK
end

end Go.Proofs.Ytcmfjnadjddboaa

/- Ranges over maps from integers: what is handed out, in whatever order. -/
namespace Go.Proofs.Ytcmfjnadjddboaa
open Go.RowKit Go
set_option linter.unusedVariables false
set_option linter.unusedSimpArgs false

/-- What a range has handed out, and what it has not. -/
structure ItE (es : Array MapEntry) (l : List (Int × Value)) (seen : Array Nat) (done rest : List (Int × Value)) : Prop where
  perm : (done ++ rest).Perm l
  left : (leftOf es seen).toList.map (fun e => (e.key, e.val)) = rest.map (fun x => (Value.int .i64 x.1, x.2))
/-- What was handed out last. -/
def CurE (es : Array MapEntry) (seen : Array Nat) (x : Int × Value) : Prop := ∃ e ∈ es.toList, ∃ s : Array Nat, seen = s.push e.born ∧ e.key = .int .i64 x.1 ∧ e.val = x.2
section
variable {P : Program} {w : World} {t k e : TypeId} {kd : IntKind} {r it : Nat} {es : Array MapEntry} {clock : Nat} {l done rest : List (Int × Value)} {seen : Array Nat}
theorem leftOf_nil : leftOf es #[] = es := by
  unfold leftOf
  rw [Array.filter_eq_self]
  intro e _; simp
theorem ItE.start (h : ImE es clock l) : ItE es l #[] [] l := ⟨List.Perm.refl _, by rw [leftOf_nil]; exact h.kv⟩
theorem run_next_im (ty : TypeId) (hM : ObjAt w r (.map es clock)) (hI : ObjAt w it (.mapIter (some r) clock seen clock)) (hE : ImE es clock l) :
    ((leftOf es seen).size = 0 ∧ (Instr.next (.pointer (some ⟨it, 0, none⟩)) false ty).run P w = .ok (.tuple #[.bool false]) w) ∨
    ∃ (j : Nat) (hj : j < (leftOf es seen).size) (w' : World), Upd it w w' ∧ ObjAt w' it (.mapIter (some r) clock (seen.push (leftOf es seen)[j].born) clock) ∧
      (Instr.next (.pointer (some ⟨it, 0, none⟩)) false ty).run P w = .ok (.tuple #[.bool true, (leftOf es seen)[j].key, (leftOf es seen)[j].val]) w' := by
  have hb : w.heap[r]? = some (.map es clock) := hM
  have hi : w.heap[it]? = some (.mapIter (some r) clock seen clock) := hI
  simp only [Instr.next, getObj, Sem.run_bind, Sem.run, hi, hb, Result.andThen, next_test_false seen es clock clock hE.lt (Nat.le_refl _), Bool.false_eq_true, if_false]
  have hmem : ∀ x ∈ (leftOf es seen).toList, x.born < clock := fun x hx => hE.lt x (mem_left hx).1
  have e0 : (Array.filter (fun e => !seen.contains e.born) es) = leftOf es seen := rfl
  rw [e0]
  generalize leftOf es seen = L at hmem ⊢
  have e1 : L.filter (fun x => decide (x.born < clock)) = L := Array.filter_eq_self.2 (fun x hx => by simpa using hmem x (by simpa using hx))
  have e2 : L.filter (fun x => decide (x.born ≥ clock)) = #[] := by
    rw [Array.filter_eq_empty_iff]
    intro x hx
    have := hmem x (by simpa using hx)
    simp; omega
  simp only [e1, e2, Array.append_empty]
  by_cases h0 : L.size = 0
  · left
    have : L = #[] := Array.eq_empty_of_size_eq_zero h0
    subst this
    refine ⟨rfl, ?_⟩
    simp [choose, Sem.run, Question.forced]
  · right
    have hne : L.isEmpty = false := by simp [Array.isEmpty, h0]
    simp only [hne, Bool.false_eq_true, if_false, Array.empty_append, Array.size_map]
    have hch : ∃ (j : Nat) (w1 : World), j < L.size ∧ w1.os = w.os ∧ w1.tape = w.tape ∧ w1.output = w.output ∧ w1.heap = w.heap ∧ (choose (Question.mapNext L.size)).run P w = .ok j w1 := by
      by_cases hf : L.size ≤ 1
      · exact ⟨0, w, by omega, rfl, rfl, rfl, rfl, by simp [choose, Sem.run, Question.forced, hf]⟩
      · exact ⟨_, w.drew, Nat.mod_lt _ (by omega), rfl, rfl, rfl, rfl, by
          simp only [choose, Sem.run, Question.forced, decide_eq_true_eq, hf, if_false, Question.cut]
          rfl⟩
    obtain ⟨j, w1, hj, h1, h2, h3, h4, hrun⟩ := hch
    have hi1 : w1.heap[it]? = some (.mapIter (some r) clock seen clock) := by rw [h4]; exact hi
    have hset : ∀ o' : Obj, (setObj it o').run P w1 = .ok () { w1 with heap := w1.heap.setIfInBounds it o' } := fun o' => by simp [setObj, Sem.run, hi1]
    have hlt : it < w1.heap.size := (Array.getElem?_eq_some_iff.1 hi1).1
    refine ⟨j, hj, { w1 with heap := w1.heap.setIfInBounds it (.mapIter (some r) clock (seen.push L[j].born) clock) }, ⟨h1, h2, h3, by simp [h4], fun k hk => by simp [Ne.symm hk, h4]⟩, by simp [ObjAt, hlt], ?_⟩
    simp only [hrun, Array.getElem?_map, Array.getElem?_eq_getElem hj, Option.map_some, Sem.run_bind, hset, Result.andThen]
    rfl
theorem filter_drop_one {α : Type} [DecidableEq Nat] (f : α → Nat) : ∀ (l : List α) (j : Nat) (hj : j < l.length), (l.map f).Nodup → l.filter (fun x => !(f x == f l[j])) = l.eraseIdx j
  | x :: l, 0, _, h => by
    rw [List.map_cons, List.nodup_cons] at h
    have : l.filter (fun y => !(f y == f x)) = l := by
      rw [List.filter_eq_self]
      intro y hy
      have : f y ≠ f x := fun e => h.1 (e ▸ List.mem_map_of_mem hy)
      simpa using this
    simp [this]
  | x :: l, j + 1, hj, h => by
    rw [List.map_cons, List.nodup_cons] at h
    have hj' : j < l.length := by simpa using hj
    have hx : f x ≠ f l[j] := fun e => h.1 (e ▸ List.mem_map_of_mem (List.getElem_mem hj'))
    have := filter_drop_one f l j hj' h.2
    simp [hx, this]
theorem leftOf_push (hE : ImE es clock l) (j : Nat) (hj : j < (leftOf es seen).size) : (leftOf es (seen.push (leftOf es seen)[j].born)).toList = (leftOf es seen).toList.eraseIdx j := by
  have hn : ((leftOf es seen).toList.map (·.born)).Nodup := by
    unfold leftOf
    rw [Array.toList_filter]
    exact (List.Sublist.map _ (List.filter_sublist)).nodup hE.nd
  rw [← filter_drop_one (·.born) (leftOf es seen).toList j (by simpa using hj) hn]
  have : leftOf es (seen.push (leftOf es seen)[j].born) = (leftOf es seen).filter (fun x => !(x.born == (leftOf es seen)[j].born)) := by
    generalize (leftOf es seen)[j].born = b
    unfold leftOf
    rw [Array.filter_filter]
    congr 1
    funext x
    rw [contains_push]
    cases seen.contains x.born <;> cases (x.born == b) <;> rfl
  rw [this, Array.toList_filter]
  simp
theorem perm_erase {α : Type} : ∀ (l : List α) (j : Nat) (hj : j < l.length), l.Perm (l[j] :: l.eraseIdx j)
  | x :: l, 0, _ => by simp
  | x :: l, j + 1, hj => by
    have := perm_erase l j (by simpa using hj)
    simp only [List.getElem_cons_succ, List.eraseIdx_cons_succ]
    exact (this.cons x).trans (List.Perm.swap _ _ _)
variable {a : Act} {K : Act → World → Prop} {Q : Exit → Act → World → Prop} {o : Oper}
theorem wp_next_im {x : Operand} (hM : ObjAt w r (.map es clock)) (hI : ObjAt w it (.mapIter (some r) clock seen clock)) (hE : ImE es clock l) (hR : ItE es l seen done rest)
    (ho : o.op = .next x false) (hx : a.eval x = .pointer (some ⟨it, 0, none⟩))
    (h0 : rest = [] → K (a.put o.dst (.tuple #[.bool false])) w)
    (h1 : ∀ y rest' seen' w', rest.Perm (y :: rest') → rest'.length < rest.length → ItE es l seen' (done ++ [y]) rest' → CurE es seen' y → ObjAt w' it (.mapIter (some r) clock seen' clock) → Upd it w w' → K (a.put o.dst (.tuple #[.bool true, .int .i64 y.1, y.2])) w') : o.wp P a w K Q := by
  have hlen : (leftOf es seen).size = rest.length := by
    have := congrArg List.length hR.left
    simpa using this
  unfold Oper.wp execOp
  simp only [ho, hx]
  rcases run_next_im (P := P) o.type hM hI hE with ⟨q0, q1⟩ | ⟨j, hj, w', q1, q2, q3⟩
  · simp only [Sem.run_bind, q1, Result.andThen_ok]
    exact h0 (List.length_eq_zero_iff.1 (by omega))
  · simp only [Sem.run_bind, q3, Result.andThen_ok]
    have hjr : j < rest.length := by omega
    have hel := congrArg (fun z => z[j]?) hR.left
    simp only [List.getElem?_map] at hel
    rw [List.getElem?_eq_getElem (by simpa using hj), List.getElem?_eq_getElem hjr] at hel
    simp only [Option.map_some, Option.some.injEq, Prod.mk.injEq, Array.getElem_toList] at hel
    rw [hel.1, hel.2]
    have hp := perm_erase rest j hjr
    refine h1 rest[j] (rest.eraseIdx j) _ w' hp (by rw [List.length_eraseIdx_of_lt hjr]; omega) ⟨?_, ?_⟩ ⟨(leftOf es seen)[j], (mem_left (seen := seen) (by simp)).1, seen, rfl, hel.1, hel.2⟩ q2 q1
    · rw [List.append_assoc]
      exact (List.Perm.append_left done hp.symm).trans hR.perm
    · rw [leftOf_push hE j hj, map_eraseIdx', hR.left, map_eraseIdx']
theorem wp_entry_im {x : Operand} {y : Int × Value} (hM : ObjAt w r (.map es clock)) (hI : ObjAt w it (.mapIter (some r) clock seen clock)) (hE : ImE es clock l) (hC : CurE es seen y)
    (ho : o.op = .entry x) (hx : a.eval x = .pointer (some ⟨it, 0, none⟩)) (hK : K (a.put o.dst (.tuple #[.int .i64 y.1, y.2])) w) : o.wp P a w K Q := by
  have hb : w.heap[r]? = some (.map es clock) := hM
  have hi : w.heap[it]? = some (.mapIter (some r) clock seen clock) := hI
  obtain ⟨e, he, s, rfl, h1, h2⟩ := hC
  have hf : es.find? (·.born == e.born) = some e := by rw [← Array.find?_toList]; exact find_born e es.toList hE.nd he
  have run : (Instr.entry (.pointer (some ⟨it, 0, none⟩))).run P w = .ok (.tuple #[e.key, e.val]) w := by
    simp only [Instr.entry, getObj, Sem.run_bind, Sem.run, hi, hb, Result.andThen, Array.back?_push, bne_self_eq_false, Bool.false_eq_true, if_false, hf]
    rfl
  unfold Oper.wp execOp
  simp only [ho, hx]
  simp only [Sem.run_bind, run, Result.andThen_ok, h1, h2]
  exact hK
/-- A new range. -/
def NewIt (w : World) (r clock : Nat) (v : Value) (w' : World) : Prop := ∃ g, v = .pointer (some ⟨g, 0, none⟩) ∧ w.heap.size = g ∧ ObjAt w' g (.mapIter (some r) clock #[] clock) ∧ Below w.heap.size w w' ∧ w'.heap.size = g + 1
theorem wp_range_im {x : Operand} (ht : P.underlying t = some (.map k e)) (hM : ObjAt w r (.map es clock)) (ho : o.op = .range t x) (hx : a.eval x = .map (some r)) (hK : ∀ v w', NewIt w r clock v w' → K (a.put o.dst v) w') : o.wp P a w K Q := by
  have := hK (.pointer (some ⟨w.heap.size, 0, none⟩)) (w.alloc (.mapIter (some r) clock #[] clock)) ⟨_, rfl, rfl, heap_alloc_new w _, balloc _ _, by simp⟩
  unfold Oper.wp execOp
  simp only [ho, hx]
  simp only [Sem.run_bind, run_range_map w t k e r es clock ht hM, Result.andThen_ok]
  exact this
end

end Go.Proofs.Ytcmfjnadjddboaa

/- Pointers to terms, in blocks that are told. -/
namespace Go.Proofs.Ytcmfjnadjddboaa
open Go.RowKit Go
set_option linter.unusedVariables false
set_option linter.unusedSimpArgs false

/-- A pointer to a term, all in blocks of 'S'. -/
def InTp (S : Nat → Prop) (w : World) (t : T) (v : Value) : Prop := ∃ (b o : Nat) (a : Option Addr) (c : Nat), v = .pointer (some ⟨b, o, none⟩) ∧ S b ∧ w.cell? ⟨b, o, none⟩ = some (.int .i64 t.f) ∧ w.cell? ⟨b, o + 1, none⟩ = some (.slice a t.args.length c) ∧ InT S w t (.agg #[.int .i64 t.f, .slice a t.args.length c])
section
variable {S S' : Nat → Prop} {w w' : World} {t : T} {v : Value}
theorem InTp.isTp (h : InTp S w t v) : IsTp w t v := by
  obtain ⟨b, o, a, c, e, _, h1, h2, h3⟩ := h
  exact ⟨b, o, a, c, e, h1, h2, h3.isT⟩
theorem InTp.keep (hb : ∀ (p : Addr) (x : Value), S p.block → w.cell? p = some x → w'.cell? p = some x) (h : InTp S w t v) : InTp S w' t v := by
  obtain ⟨b, o, a, c, e, hs, h1, h2, h3⟩ := h
  exact ⟨b, o, a, c, e, hs, hb ⟨b, o, none⟩ _ hs h1, hb ⟨b, o + 1, none⟩ _ hs h2, h3.keep hb⟩
theorem InTp.mono (hb : ∀ b, S b → b < w.heap.size → S' b) (h : InTp S w t v) : InTp S' w t v := by
  obtain ⟨b, o, a, c, e, hs, h1, h2, h3⟩ := h
  exact ⟨b, o, a, c, e, hb b hs (World.block_lt_of_cell? _ _ h1), h1, h2, h3.mono hb⟩
theorem InTp.below (h : InTp S w t v) (hb : Below w.heap.size w w') : InTp S w' t v := h.keep fun p x _ hx => bkeeps hb p x hx
theorem InTp.chg {S2 : Nat → Prop} (h : InTp S w t v) (hc : Chg S2 w w') (hS : ∀ b, S b → ¬ S2 b) : InTp S w' t v := h.keep fun p x hp hx => by
  have hb := World.block_lt_of_cell? _ _ hx
  unfold World.cell? at hx ⊢
  rw [hc.block p.block hb (hS _ hp)]; exact hx
/-- An argument of a term that is pointed at. -/
theorem InTp.arg {b o : Nat} {a : Option Addr} {c : Nat} (h : InT S w t (.agg #[.int .i64 t.f, .slice a t.args.length c])) (k : Nat) (hk : k < t.args.length) : ∃ b o, a = some ⟨b, o, none⟩ ∧ InTp S w (tget t.args k) (.pointer (some ⟨b, o + k * 2, none⟩)) := by
  obtain ⟨_, a', c', e, _, _, h3⟩ := h.form
  simp only [Value.agg.injEq, Array.mk.injEq, List.cons.injEq, and_true, Value.slice.injEq, true_and] at e
  obtain ⟨rfl, rfl⟩ := e
  obtain ⟨b, o, u, v, rfl, h4, h5, h6, h7⟩ := h3.at_ k hk
  obtain ⟨_, a2, c2, e2, _⟩ := h7.form
  simp only [Value.agg.injEq, Array.mk.injEq, List.cons.injEq, and_true] at e2
  obtain ⟨rfl, rfl⟩ := e2
  rw [tget_lt hk]
  exact ⟨b, o, rfl, b, _, a2, c2, rfl, h4, h5, h6, h7⟩
/-- A box in which a term lies. -/
theorem InTp.box {g ty : Nat} {a : Option Addr} {c : Nat} (hB : Blk w g ty #[.int .i64 t.f, .slice a t.args.length c]) (hg : S g) (h : InT S w t (.agg #[.int .i64 t.f, .slice a t.args.length c])) : InTp S w t (.pointer (some ⟨g, 0, none⟩)) :=
  ⟨g, 0, a, c, rfl, hg, by rw [hB.cell]; rfl, by rw [hB.cell]; rfl, h⟩
end

/-- Values as they are, two of them. -/
def eltV2 : Elt (Addr × Addr) where
  k := 2
  In := fun _ _ x cs => cs = [.pointer (some x.1), .pointer (some x.2)]
  keep := fun _ h => h
  mono := fun _ h => h
  len := fun h => by rw [h]; rfl
  one := fun h v hv => by rw [h] at hv; simp at hv; rcases hv with rfl | rfl <;> rfl

section
variable {α β : Type} {E : Elt α} {E2 : Elt β} {w w' : World} {B B2 e e2 c c2 n n2 : Nat} {a a2 : Option Addr} {l : List α} {l2 : List β}
/-- Rows of different types lie in different blocks. -/
theorem RowE.ne (h : RowE E w B e a c n l) (h2 : RowE E2 w B2 e2 a2 c2 n2 l2) (he : e ≠ e2) : ∀ b, (Value.slice a n c).ownBlock = some b → (Value.slice a2 n2 c2).ownBlock ≠ some b := by
  intro b hb hb2
  obtain ⟨⟨xs, h1, _⟩, _⟩ := h
  obtain ⟨⟨ys, h3, _⟩, _⟩ := h2
  rcases h1.2 with ⟨e1, _⟩ | ⟨g, cap, cur, e1, _, r1, _⟩
  · rw [e1] at hb; cases hb
  · rcases h3.2 with ⟨f1, _⟩ | ⟨g', cap', cur', f1, _, r2, _⟩
    · rw [f1] at hb2; cases hb2
    · rw [e1] at hb; rw [f1] at hb2
      obtain rfl : g = b := by simpa [Value.ownBlock] using hb
      obtain rfl : g' = g := by simpa [Value.ownBlock] using hb2
      have := r1.symm.trans r2
      simp at this
      exact he this.2
theorem RowE.neBlk {g ty : Nat} {cs : Array Value} (h : RowE E w B e a c n l) (hB : Blk w g ty cs) (he : e ≠ ty) : (Value.slice a n c).ownBlock ≠ some g := by
  intro hb
  obtain ⟨⟨xs, h1, _⟩, _⟩ := h
  rcases h1.2 with ⟨e1, _⟩ | ⟨g', cap, cur, e1, _, r1, _⟩
  · rw [e1] at hb; cases hb
  · rw [e1] at hb
    obtain rfl : g' = g := by simpa [Value.ownBlock] using hb
    unfold Blk at hB
    have := r1.symm.trans hB
    simp at this
    exact he this.2
theorem RowE.neMap {g : Nat} {es : Array MapEntry} {clock : Nat} (h : RowE E w B e a c n l) (hB : ObjAt w g (.map es clock)) : (Value.slice a n c).ownBlock ≠ some g := by
  intro hb
  obtain ⟨⟨xs, h1, _⟩, _⟩ := h
  rcases h1.2 with ⟨e1, _⟩ | ⟨g', cap, cur, e1, _, r1, _⟩
  · rw [e1] at hb; cases hb
  · rw [e1] at hb
    obtain rfl : g' = g := by simpa [Value.ownBlock] using hb
    unfold ObjAt at hB
    have := r1.symm.trans hB
    simp at this
/-- What does not touch the row's block keeps it, if its elements hang on nothing. -/
theorem RowE.chgOwn {S : Nat → Prop} (hE : ∀ (S : Nat → Prop) w w' x cs, E.In S w x cs → E.In S w' x cs) (h : RowE E w B e a c n l) (hc : Chg S w w') (hS : ∀ b, (Value.slice a n c).ownBlock = some b → ¬ S b) : RowE E w' B e a c n l := by
  obtain ⟨⟨xs, h1, h2⟩, h3⟩ := h
  refine ⟨⟨xs, ⟨h1.1, h1.2.imp id ?_⟩, ?_⟩, h3⟩
  · rintro ⟨g, cap, cur, e1, e2, e3, r⟩
    refine ⟨g, cap, cur, e1, e2, ?_, r⟩
    rw [hc.block g (Array.getElem?_eq_some_iff.1 e3).1 (hS g (by rw [e1]; rfl))]; exact e3
  · clear h1
    revert h2
    generalize (fun b => B ≤ b ∧ (Value.slice a n c).ownBlock ≠ some b) = Z
    clear h3
    induction l generalizing xs with
    | nil => intro h2; exact h2
    | cons x l ih =>
      rintro ⟨cs, r, e, h3, h4⟩
      exact ⟨cs, r, e, hE _ _ _ _ _ h3, ih r h4⟩
/-- The first of a row. -/
theorem RowE.take (h : RowE E w B e a c n l) (k : Nat) (hk : k ≤ n) (hE : ∀ (S : Nat → Prop) w x cs, E.In S w x cs → ∀ S', E.In S' w x cs) : RowE E w B e a c k (l.take k) := by
  obtain ⟨⟨xs, h1, h2⟩, rfl⟩ := h
  have hel : ∀ (l : List α) (xs : List Value) (k : Nat) (Z Z' : Nat → Prop), Elts E Z w l xs → Elts E Z' w (l.take k) (xs.take (k * E.k)) := by
    intro l
    induction l with
    | nil => intro xs k Z Z' h; have : xs = [] := h; subst this; simp; exact rfl
    | cons x l ih =>
      rintro xs k Z Z' ⟨cs, r, rfl, h3, h4⟩
      cases k with
      | zero => simp; exact rfl
      | succ k =>
        refine ⟨cs, r.take (k * E.k), ?_, hE _ _ _ _ h3 _, ih r k Z Z' h4⟩
        rw [List.take_append, E.len h3, Nat.add_mul, Nat.one_mul, Nat.add_sub_cancel, List.take_of_length_le (by rw [E.len h3]; omega)]
  refine ⟨⟨xs.take (k * E.k), ⟨by rw [List.length_take, h1.1]; exact Nat.min_eq_left (Nat.mul_le_mul_right _ hk), ?_⟩, hel _ _ _ _ _ h2⟩, by simp; omega⟩
  rcases h1.2 with ⟨e1, h0⟩ | ⟨g, cap, cur, e1, e2, e3, e4, e5, e6, e7⟩
  · simp only [Value.slice.injEq] at e1
    obtain ⟨rfl, e, rfl⟩ := e1
    left
    have : k = 0 := by omega
    subst this
    exact ⟨rfl, by simp⟩
  · right
    simp only [Value.slice.injEq, true_and] at e1
    obtain ⟨rfl, rfl⟩ := e1
    exact ⟨g, _, cur, rfl, e2, e3, by omega, e5, e6, by rw [← e7, List.take_take, Nat.min_eq_left (Nat.mul_le_mul_right _ hk)]⟩
end

section
variable {α : Type} {E : Elt α} {P : Program} {w : World} {a : Act} {K : Act → World → Prop} {Q : Exit → Act → World → Prop} {o : Oper}
/-- One element more, by append: where the row lies then. -/
theorem wp_appE2 {s x : Operand} {t e B : Nat} {z : Value} {size bytes n rc g1 : Nat} {ra : Option Addr} {l : List α} {y : α} {cs : List Value} (hk : E.k = size) (ht : P.underlying t = some (.slice e)) (hinfo : (P.info? e).map (fun i => (i.zero, i.size, i.bytes)) = some (some z, size, bytes)) (hzs : z.cells.size = size) (hsz : 0 < size)
    (ho : o.op = .call { callee := .builtin .append, args := #[s, x], argTypes := #[t, t] }) (hs : a.eval s = .slice ra n rc) (hx : a.eval x = .slice (some ⟨g1, 0, none⟩) 1 1) (hrow : RowE E w B e ra rc n l) (hB : Blk w g1 e cs.toArray) (hin : E.In (fun b => B ≤ b ∧ (Value.slice ra n rc).ownBlock ≠ some b) w y cs)
    (hb : (n + 1) * bytes ≤ 140737488355328) (hn : n + 1 ≤ 9223372036854775807) (hbase : B ≤ w.heap.size) (hK : ∀ ra' rc' w', RowE E w' B e ra' rc' (n + 1) (l ++ [y]) → Chg (fun b => (Value.slice ra n rc).ownBlock = some b) w w' → KeepsFrom 0 w w' → (∀ b, (Value.slice ra' (n + 1) rc').ownBlock = some b → (Value.slice ra n rc).ownBlock = some b ∨ b = w.heap.size) → K (a.put o.dst (.slice ra' (n + 1) rc')) w') : o.wp P a w K Q := by
  subst hk
  obtain ⟨⟨xs, h1, h2⟩, rfl⟩ := hrow
  refine wp_app (m := 1) (news := cs) ht hinfo hzs hsz ho hs hx h1 (SrcIs.ofBlk hB) (by rw [E.len hin]; omega) (E.one hin) hb hn hbase (fun ra' rc' w' h => hK _ _ _ ?_ ⟨h.grow.os, h.grow.tape, h.grow.output, h.grow.size, fun k hk hSk => h.grow.block k hk (fun e => hSk e.symm)⟩ ?_ ?_)
  · have key : ∀ (p : Addr) (v : Value), (Value.slice ra l.length rc).ownBlock ≠ some p.block → w.cell? p = some v → w'.cell? p = some v := fun p v hp hv => h.grow.cell hv (Ne.symm hp)
    refine ⟨⟨xs ++ cs, h.own, ?_⟩, by simp⟩
    have far : ∀ b, (B ≤ b ∧ (Value.slice ra l.length rc).ownBlock ≠ some b) ∧ b < w.heap.size → B ≤ b ∧ (Value.slice ra' (l.length + 1) rc').ownBlock ≠ some b := fun b hb => ⟨hb.1.1, fun e => by
      rcases h.at_ with e2 | e2
      · exact hb.1.2 (e2 ▸ e)
      · rw [e2] at e; have := Option.some.inj e; omega⟩
    refine Elts.mono (fun b hb _ => far b hb) (Elts.keep (w := w) (fun p v hp hv => key p v hp.1.2 hv) ?_)
    exact Elts.snoc (E.mono (fun b hb hlt => ⟨hb, hlt⟩) hin) (Elts.mono (fun b hb hlt => ⟨hb, hlt⟩) h2)
  · refine ⟨h.grow.size, fun k o _ hk ho => (h.grow.block k (Array.getElem?_eq_some_iff.1 hk).1 (fun e => ?_)).trans hk⟩
    rcases h1.2 with ⟨e1, _⟩ | ⟨g, cap, cur, e1, _, e3, _⟩
    · rw [e1] at e; cases e
    · rw [e1] at e
      have : k = g := by simpa [Value.ownBlock] using e
      subst this
      rw [show w.heap[k]? = _ from e3] at hk
      obtain rfl := Option.some.inj hk
      cases ho
  · intro b hb
    rcases h.at_ with e2 | e2
    · exact .inl (e2 ▸ hb)
    · rw [e2] at hb; exact .inr (Option.some.inj hb).symm
end

end Go.Proofs.Ytcmfjnadjddboaa

/- The matcher: how it lies in memory. -/
namespace Go.Proofs.Ytcmfjnadjddboaa
open Go.RowKit Go
set_option linter.unusedVariables false
set_option linter.unusedSimpArgs false

theorem eltI_any (S S' : Nat → Prop) (w w' : World) (x : Int) (cs : List Value) (h : eltI.In S w x cs) : eltI.In S' w' x cs := h
theorem InRow.openI {S : Nat → Prop} {w : World} {l : List Int} {a : Option Addr} (h : InRow eltI S w l a) : ∃ b o : Nat, (∀ k, k < l.length → a = some ⟨b, o, none⟩) ∧ ∀ k, k < l.length → w.cell? ⟨b, o + k, none⟩ = some (.int .i64 (l.getD k 0)) := by
  rcases Nat.eq_zero_or_pos l.length with h0 | h0
  · exact ⟨0, 0, fun k hk => by omega, fun k hk => by omega⟩
  · obtain ⟨b, o, _, ha, _⟩ := h 0 h0
    refine ⟨b, o, fun _ _ => ha, fun k hk => ?_⟩
    obtain ⟨b', o', cs, ha', _, h1, h2⟩ := h k hk
    rw [ha] at ha'
    simp only [Option.some.injEq, Addr.mk.injEq, and_true] at ha'
    obtain ⟨rfl, rfl⟩ := ha'
    have h1' : cs = [.int .i64 l[k]] := h1
    subst h1'
    have := h2 0 (by decide)
    simpa [eltI, hk] using this
theorem InRow.dropI {S : Nat → Prop} {w : World} {l : List Int} {a : Option Addr} {k c : Nat} (h : InRow eltI S w l a) (hk : k ≤ l.length) (hc : l.length ≤ c) : InRow eltI S w (l.drop k) (slA a k 1 c) := fun i hi => by
  rw [List.length_drop] at hi
  obtain ⟨b, o, cs, ha, hs, h1, h2⟩ := h (k + i) (by omega)
  subst ha
  refine ⟨b, o + k, cs, by rw [slA_some (by omega), Nat.mul_one], hs, by rw [List.getElem_drop]; exact h1, fun j hj => ?_⟩
  rw [← h2 j hj, Nat.add_mul]
  have e : eltI.k = 1 := rfl
  simp only [e, Nat.mul_one, Nat.add_assoc]

/-- The matcher at the block 'g': what is bound, in the order in which it was; 'C': the blocks of its own. -/
structure MatIn (w : World) (g : Nat) (st : List Bd) (C : Nat → Prop) (mb : Nat) (es : Array MapEntry) (cl : Nat) (a : Option Addr) (c : Nat) (ps : List Value) : Prop where
  blk : Blk w g 64 #[.map (some mb), .slice a st.length c]
  map : ObjAt w mb (.map es cl)
  ent : ImE es cl ((st.map (·.var)).zip ps)
  nd : (st.map (·.var)).Nodup
  row : RowE eltI w 0 3 a c st.length (st.map (·.var))
  len : ps.length = st.length
  ptr : ∀ i, i < st.length → InTp (fun b => C b ∧ b ≠ g ∧ b ≠ mb ∧ (Value.slice a st.length c).ownBlock ≠ some b) w (dget st i).t (ps.getD i undef)
  i64 : ∀ x ∈ st, I64 x.var
  sz : ∀ x ∈ st, x.t.size ≤ 4294967296
  cg : C g
  cmb : C mb
  crow : ∀ b, (Value.slice a st.length c).ownBlock = some b → C b
  clt : ∀ b, C b → b < w.heap.size
def MatAt (w : World) (g : Nat) (st : List Bd) (C : Nat → Prop) : Prop := ∃ mb es cl a c ps, MatIn w g st C mb es cl a c ps

section
variable {w w' : World} {g : Nat} {st : List Bd} {C S : Nat → Prop} {mb : Nat} {es : Array MapEntry} {cl : Nat} {a : Option Addr} {c : Nat} {ps : List Value}
theorem MatIn.gmb (h : MatIn w g st C mb es cl a c ps) : g ≠ mb := h.map.neBlk h.blk
theorem MatIn.rowg (h : MatIn w g st C mb es cl a c ps) : (Value.slice a st.length c).ownBlock ≠ some g := h.row.neBlk h.blk (by decide)
theorem MatIn.rowmb (h : MatIn w g st C mb es cl a c ps) : (Value.slice a st.length c).ownBlock ≠ some mb := h.row.neMap h.map
theorem MatIn.cap (h : MatIn w g st C mb es cl a c ps) : st.length ≤ c ∧ c ≤ maxLen := ⟨h.row.inRow.2.2.1, h.row.inRow.2.2.2⟩
theorem MatIn.chg (h : MatIn w g st C mb es cl a c ps) (hc : Chg S w w') (hS : ∀ b, C b → ¬ S b) : MatIn w' g st C mb es cl a c ps where
  blk := chg_blk h.blk hc (hS _ h.cg)
  map := h.map.chg hc (hS _ h.cmb)
  ent := h.ent
  nd := h.nd
  row := h.row.chgOwn (fun S w w' x cs q => eltI_any S S w w' x cs q) hc (fun b q => hS b (h.crow b q))
  len := h.len
  ptr := fun i hi => (h.ptr i hi).chg hc (fun b q => hS b q.1)
  i64 := h.i64
  sz := h.sz
  cg := h.cg
  cmb := h.cmb
  crow := h.crow
  clt := fun b q => Nat.lt_of_lt_of_le (h.clt b q) hc.size
theorem MatAt.chg (h : MatAt w g st C) (hc : Chg S w w') (hS : ∀ b, C b → ¬ S b) : MatAt w' g st C := by
  obtain ⟨mb, es, cl, a, c, ps, h⟩ := h
  exact ⟨mb, es, cl, a, c, ps, h.chg hc hS⟩
theorem MatAt.below (h : MatAt w g st C) (hb : Below w.heap.size w w') : MatAt w' g st C := h.chg (S := fun _ => False) (.ofBelow hb) (fun _ _ => id)
theorem MatAt.clt (h : MatAt w g st C) : ∀ b, C b → b < w.heap.size := by
  obtain ⟨mb, es, cl, a, c, ps, h⟩ := h
  exact h.clt
theorem MatAt.lt (h : MatAt w g st C) : g < w.heap.size := by
  obtain ⟨mb, es, cl, a, c, ps, h⟩ := h
  exact h.blk.lt
theorem MatAt.nd (h : MatAt w g st C) : (st.map (·.var)).Nodup := by
  obtain ⟨mb, es, cl, a, c, ps, h⟩ := h
  exact h.nd
end
theorem imDel_mid {Z : List (Int × Value)} {m k : Nat} {v : Int} (hn : (Z.map (·.1)).Nodup) (h : m + k < Z.length) (hv : v = Z[m + k].1) : imDel (Z.take m ++ Z.drop (m + k)) v = Z.take m ++ Z.drop (m + (k + 1)) := by
  have hd : Z.drop (m + k) = Z[m + k] :: Z.drop (m + k + 1) := List.drop_eq_getElem_cons h
  have hne : ∀ x ∈ Z.take m, x.1 ≠ v := by
    intro x hx e
    obtain ⟨i, hi, rfl⟩ := List.getElem_of_mem hx
    rw [List.length_take] at hi
    rw [List.getElem_take] at e
    have := List.pairwise_iff_getElem.1 hn i (m + k) (by simp; omega) (by simp; omega) (by omega)
    rw [List.getElem_map, List.getElem_map] at this
    exact this (e.trans hv)
  have hf : ∀ (l r : List (Int × Value)) (i : Nat), (∀ x ∈ l, x.1 ≠ v) → imFind (l ++ (v, Z[m + k].2) :: r) v i = some (i + l.length, Z[m + k].2) := by
    intro l r
    induction l with
    | nil => intro i _; simp [imFind]
    | cons x l ih =>
      intro i hx
      rw [List.cons_append, imFind, if_neg (fun e => hx x (by simp) e.symm), ih (i + 1) (fun y hy => hx y (by simp [hy]))]
      simp; omega
  have e : Z[m + k] = (v, Z[m + k].2) := by rw [hv]
  unfold imDel
  rw [hd, e, hf _ _ 0 hne]
  simp only [List.length_take, Nat.zero_add]
  rw [List.eraseIdx_append_of_length_le (by rw [List.length_take]; exact Nat.le_refl _)]
  rw [List.length_take, Nat.sub_self, List.eraseIdx_cons_zero, Nat.add_assoc]
theorem zip_take {α β : Type} : ∀ (l : List α) (r : List β) (k : Nat), (l.zip r).take k = (l.take k).zip (r.take k)
  | [], _, k => by simp
  | _ :: _, [], k => by simp
  | x :: l, y :: r, 0 => by simp
  | x :: l, y :: r, k + 1 => by simp [zip_take l r k]
theorem getD_take {ps : List Value} {m i : Nat} (h : i < m) : (ps.take m).getD i undef = ps.getD i undef := by
  simp [List.getD_eq_getElem?_getD, List.getElem?_take, h]
theorem dget_take {st : List Bd} {m i : Nat} (h : i < m) : dget (st.take m) i = dget st i := by
  unfold dget
  simp [List.getD_eq_getElem?_getD, List.getElem?_take, h]
/-- Back to the first 'm'. -/
theorem MatIn.back {w w' : World} {g : Nat} {st : List Bd} {C : Nat → Prop} {mb : Nat} {es es' : Array MapEntry} {cl cl' : Nat} {a : Option Addr} {c : Nat} {ps : List Value} {m : Nat} (h : MatIn w g st C mb es cl a c ps) (hm : m ≤ st.length)
    (hB : Blk w' g 64 #[.map (some mb), .slice a m c]) (hM : ObjAt w' mb (.map es' cl')) (hE : ImE es' cl' (((st.map (·.var)).zip ps).take m)) (hc : Chg (fun b => b = g ∨ b = mb) w w') : MatIn w' g (st.take m) C mb es' cl' a c (ps.take m) where
  blk := by rw [List.length_take, Nat.min_eq_left hm]; exact hB
  map := hM
  ent := by rw [List.map_take, ← zip_take]; exact hE
  nd := by rw [List.map_take]; exact (List.take_sublist _ _).nodup h.nd
  row := by
    have h1 := h.row.chgOwn (fun S w w' x cs q => eltI_any S S w w' x cs q) hc (fun b q => by
      rintro (rfl | rfl)
      · exact h.rowg q
      · exact h.rowmb q)
    have h2 := h1.take m hm (fun S w x cs q S' => q)
    rw [List.length_take, Nat.min_eq_left hm, List.map_take]; exact h2
  len := by rw [List.length_take, List.length_take, h.len]
  ptr := fun i hi => by
    rw [List.length_take] at hi
    rw [dget_take (by omega), getD_take (by omega)]
    refine ((h.ptr i (by omega)).chg hc (fun b q => ?_)).mono (fun b q _ => ⟨q.1, q.2.1, q.2.2.1, ?_⟩)
    · rintro (e | e)
      · exact q.2.1 e
      · exact q.2.2.1 e
    · intro e
      apply q.2.2.2
      cases a with
      | none => cases e
      | some p => exact e
  i64 := fun x hx => h.i64 x (List.mem_of_mem_take hx)
  sz := fun x hx => h.sz x (List.mem_of_mem_take hx)
  cg := h.cg
  cmb := h.cmb
  crow := fun b q => h.crow b (by cases a with
    | none => cases q
    | some p => exact q)
  clt := fun b q => Nat.lt_of_lt_of_le (h.clt b q) hc.size

end Go.Proofs.Ytcmfjnadjddboaa

/- What a matcher tells of what is bound: plain. -/
namespace Go.Proofs.Ytcmfjnadjddboaa
open Go.RowKit Go
set_option linter.unusedVariables false
set_option linter.unusedSimpArgs false

/-- What is told: in order, and what is itself is left out. -/
structure SubOf (st R : List Bd) : Prop where
  sorted : R.Pairwise fun x y => x.var < y.var
  mem : ∀ x, x ∈ R ↔ x ∈ st ∧ x.itself = false
theorem bds_ext : ∀ {l l' : List Bd}, l.Pairwise (fun x y => x.var < y.var) → l'.Pairwise (fun x y => x.var < y.var) → (∀ x, x ∈ l ↔ x ∈ l') → l = l'
  | [], [], _, _, _ => rfl
  | [], y :: r, _, _, h => absurd ((h y).2 (by simp)) (by simp)
  | x :: r, [], _, _, h => absurd ((h x).1 (by simp)) (by simp)
  | x :: r, y :: q, h1, h2, h => by
    obtain ⟨h3, h4⟩ := List.pairwise_cons.1 h1
    obtain ⟨h5, h6⟩ := List.pairwise_cons.1 h2
    have e : x = y := by
      rcases List.mem_cons.1 ((h x).1 (by simp)) with e | hx
      · exact e
      · rcases List.mem_cons.1 ((h y).2 (by simp)) with e | hy
        · exact e.symm
        · have := h5 x hx; have := h3 y hy; omega
    subst e
    congr 1
    refine bds_ext h4 h6 fun z => ?_
    constructor
    · intro hz
      rcases List.mem_cons.1 ((h z).1 (by simp [hz])) with e | hz'
      · subst e; have := h3 z hz; omega
      · exact hz'
    · intro hz
      rcases List.mem_cons.1 ((h z).2 (by simp [hz])) with e | hz'
      · subst e; have := h5 z hz; omega
      · exact hz'
theorem SubOf.unique {st R R' : List Bd} (h : SubOf st R) (h' : SubOf st R') : R = R' := bds_ext h.sorted h'.sorted fun x => (h.mem x).trans (h'.mem x).symm
theorem subOf_sorted {st L : List Bd} (hn : (st.map (·.var)).Nodup) (hp : L.Perm (st.filter fun x => !x.itself)) (hs : L.Pairwise fun x y => x.var ≤ y.var) : SubOf st L := by
  have hd : (st.filter fun x => !x.itself).Pairwise fun x y => x.var ≠ y.var := by
    unfold List.Nodup at hn
    rw [List.pairwise_map] at hn
    exact hn.filter _
  have hd' : L.Pairwise fun x y => x.var ≠ y.var := (hp.pairwise_iff fun h e => h e.symm).2 hd
  refine ⟨(hs.and hd').imp fun ⟨h1, h2⟩ => by omega, fun x => ?_⟩
  rw [hp.mem_iff, List.mem_filter]; simp
theorem nodup_len : ∀ {R st : List Bd}, R.Nodup → (∀ x ∈ R, x ∈ st) → R.length ≤ st.length
  | [], _, _, _ => Nat.zero_le _
  | x :: R, st, hn, h => by
    obtain ⟨h1, h2⟩ := List.nodup_cons.1 hn
    obtain ⟨s, t, rfl⟩ := List.append_of_mem (h x (by simp))
    have := nodup_len (R := R) (st := s ++ t) h2 fun y hy => by
      have hy2 := h y (by simp [hy])
      simp only [List.mem_append, List.mem_cons] at hy2 ⊢
      rcases hy2 with q | rfl | q
      · exact .inl q
      · exact absurd hy h1
      · exact .inr q
    simp only [List.length_append, List.length_cons] at this ⊢
    omega
theorem SubOf.length_le {st R : List Bd} (h : SubOf st R) : R.length ≤ st.length := by
  have hn : R.Nodup := h.sorted.imp fun h e => by rw [e] at h; omega
  exact nodup_len hn fun x hx => ((h.mem x).1 hx).1

/-- An entry of the map, as a binding. -/
def bdOf (st : List Bd) (y : Int × Value) : Bd := ⟨y.1, (subFind st y.1).getD (.mk 0 [])⟩
theorem subFind_dget : ∀ {st : List Bd} {i : Nat}, (st.map (·.var)).Nodup → i < st.length → subFind st (dget st i).var = some (dget st i).t
  | b :: st, 0, _, _ => by simp [subFind, dget]
  | b :: st, i + 1, hn, hi => by
    rw [List.map_cons, List.nodup_cons] at hn
    have hi' : i < st.length := by simpa using hi
    have e : dget (b :: st) (i + 1) = dget st i := by simp [dget]
    have hne : ¬ b.var = (dget st i).var := fun q => hn.1 (q ▸ List.mem_map_of_mem (dget_mem hi'))
    have := subFind_dget (st := st) hn.2 hi'
    rw [e]
    simpa [subFind, hne] using this
theorem bdOf_at {st : List Bd} {y : Int × Value} {i : Nat} (hn : (st.map (·.var)).Nodup) (hi : i < st.length) (hy : y.1 = (dget st i).var) : bdOf st y = dget st i := by
  unfold bdOf; rw [hy, subFind_dget hn hi]; rfl
theorem zip_at {st : List Bd} {ps : List Value} {y : Int × Value} (hl : ps.length = st.length) (hy : y ∈ (st.map (·.var)).zip ps) : ∃ i, i < st.length ∧ y.1 = (dget st i).var ∧ y.2 = ps.getD i undef := by
  obtain ⟨i, hi, rfl⟩ := List.getElem_of_mem hy
  have h1 : i < st.length := by simp at hi; omega
  refine ⟨i, h1, ?_, ?_⟩
  · rw [List.getElem_zip, dget_lt h1]; simp
  · rw [List.getElem_zip, List.getD_eq_getElem?_getD, List.getElem?_eq_getElem (by omega)]; rfl
theorem map_bdOf {st : List Bd} {ps : List Value} (hn : (st.map (·.var)).Nodup) (hl : ps.length = st.length) : ((st.map (·.var)).zip ps).map (bdOf st) = st := by
  apply List.ext_getElem (by simp [hl])
  intro i h1 h2
  rw [List.getElem_map, bdOf_at hn h2 (by rw [List.getElem_zip, dget_lt h2]; simp), dget_lt h2]
/-- The bindings of the entries that were handed out. -/
def told (st : List Bd) (done : List (Int × Value)) : List Bd := (done.map (bdOf st)).filter fun x => !x.itself
structure SX where
  done : List (Int × Value)
  rest : List (Int × Value)
  seen : Array Nat
  a : Option Addr
  c : Nat
  n : Nat
section
variable {st : List Bd} {ps : List Value} {es : Array MapEntry} {seen : Array Nat} {done rest : List (Int × Value)}
theorem told_new {y : Int × Value} {b : Bd} (h : bdOf st y = b) (hi : ¬ b.itself = true) : told st (done ++ [y]) = told st done ++ [b] := by
  unfold told; rw [List.map_append, List.filter_append]; simp [h, hi]
theorem told_self {y : Int × Value} {b : Bd} (h : bdOf st y = b) (hi : b.itself = true) : told st (done ++ [y]) = told st done := by
  unfold told; rw [List.map_append, List.filter_append]; simp [h, hi]
theorem told_le (hl : ps.length = st.length) (h : ItE es ((st.map (·.var)).zip ps) seen done rest) : (told st done).length ≤ st.length := by
  have h1 := h.perm.length_eq
  have h2 : (told st done).length ≤ (done.map (bdOf st)).length := List.length_filter_le _ _
  simp at h1 h2; omega
theorem told_lt (hl : ps.length = st.length) (h : ItE es ((st.map (·.var)).zip ps) seen done rest) (hr : 0 < rest.length) : (told st done).length < st.length := by
  have h1 := h.perm.length_eq
  have h2 : (told st done).length ≤ (done.map (bdOf st)).length := List.length_filter_le _ _
  simp at h1 h2; omega
theorem told_all (hn : (st.map (·.var)).Nodup) (hl : ps.length = st.length) (h : ItE es ((st.map (·.var)).zip ps) seen done []) : (told st done).Perm (st.filter fun x => !x.itself) := by
  have h1 := h.perm
  rw [List.append_nil] at h1
  have h2 := (h1.map (bdOf st)).filter (fun x => !x.itself)
  rwa [map_bdOf hn hl] at h2
theorem it_mem {y : Int × Value} {rest' : List (Int × Value)} (h : ItE es ((st.map (·.var)).zip ps) seen done rest) (hp : rest.Perm (y :: rest')) : y ∈ (st.map (·.var)).zip ps := by
  rw [← h.perm.mem_iff, List.mem_append]
  exact .inr (hp.mem_iff.2 (by simp))
end
theorem itself_iff {b : Bd} : b.itself = true ↔ b.t.f = -1 - b.var ∧ b.t.args.length = 0 := by unfold Bd.itself; simp
theorem ext1_0 {P : Program} {w : World} {a : Act} {K : Act → World → Prop} {Q : Exit → Act → World → Prop} {o : Oper} {x : Operand} {v0 : Value} (ho : o.op = .extract x 0) (hx : a.eval x = .tuple #[v0]) (hK : K (a.put o.dst (v0)) w) : o.wp P a w K Q := by
  unfold Oper.wp execOp
  simp only [ho, hx]
  go_simp
  exact hK
def BdNew (w0 w : World) (x : Bd) (v : Value) : Prop := ∃ u v', v = .agg #[.int .i64 x.var, u, v'] ∧ I64 x.var ∧ NewT w0 w x.t (.agg #[u, v'])
theorem BdNew.chg {w0 w w' : World} {x : Bd} {v : Value} {S : Nat → Prop} (h : BdNew w0 w x v) (hc : Chg S w w') (hS : ∀ b, S b → b < w0.heap.size) : BdNew w0 w' x v := by
  obtain ⟨u, v', e, h0, h1⟩ := h
  exact ⟨u, v', e, h0, InT.chg h1 hc (fun b hb hs => by have := hS b hs; omega)⟩
/-- A row of bindings that was made since. -/
def NewBs (w0 w : World) (R : List Bd) (a : Option Addr) (c : Nat) : Prop := InRow eltB (fun b => w0.heap.size ≤ b) w R a ∧ R.length ≤ c ∧ c ≤ maxLen
theorem NewBs.below {w0 w w' : World} {R : List Bd} {a : Option Addr} {c : Nat} (h : NewBs w0 w R a c) (hb : Below w.heap.size w w') : NewBs w0 w' R a c := ⟨h.1.below hb, h.2⟩

end Go.Proofs.Ytcmfjnadjddboaa

/- Terms whose variables have no arguments. -/
namespace Go.Proofs.Ytcmfjnadjddboaa
open Go.RowKit Go
set_option linter.unusedVariables false
set_option linter.unusedSimpArgs false

mutual
def T.plain : T → Bool
  | .mk f l => T.plainL l && (decide (0 ≤ f) || l.isEmpty)
def T.plainL : List T → Bool
  | [] => true
  | t :: r => t.plain && T.plainL r
end
theorem plainL_mem : ∀ {l : List T}, T.plainL l = true ↔ ∀ t ∈ l, t.plain = true
  | [] => by simp [T.plainL]
  | t :: r => by rw [T.plainL, Bool.and_eq_true, plainL_mem (l := r)]; simp
theorem plain_all {f : Int} {l : List T} (h : ∀ i, i < l.length → (tget l i).plain = true) : (T.mk f l).plain = (decide (0 ≤ f) || l.isEmpty) := by
  rw [T.plain, plainL_mem.2 (fun t ht => ?_), Bool.true_and]
  obtain ⟨i, hi, rfl⟩ := List.getElem_of_mem ht
  have := h i hi
  rwa [tget_lt hi] at this
theorem plain_no {f : Int} {l : List T} {k : Nat} (hk : k < l.length) (h : (tget l k).plain = false) : (T.mk f l).plain = false := by
  rw [T.plain]
  have : T.plainL l = false := by
    rw [Bool.eq_false_iff]; intro hp
    rw [plainL_mem.1 hp _ (tget_mem hk)] at h; cases h
  rw [this]; rfl
theorem plain_var {f : Int} {l : List T} (h1 : f < 0) (h2 : 0 < l.length) : (T.mk f l).plain = false := by
  rw [T.plain, decide_eq_false (by omega), Bool.false_or]
  have : l.isEmpty = false := by cases l with | nil => simp at h2 | cons _ _ => rfl
  rw [this, Bool.and_false]
theorem plain_yes {f : Int} {l : List T} (h0 : ¬ (f < 0 ∧ 0 < l.length)) (h : ∀ i, i < l.length → (tget l i).plain = true) : (T.mk f l).plain = true := by
  rw [plain_all h, Bool.or_eq_true, decide_eq_true_eq]
  rcases Int.lt_or_le f 0 with q | q
  · right
    have : l.length = 0 := by omega
    rw [List.length_eq_zero_iff.1 this]; rfl
  · exact .inl q
end Go.Proofs.Ytcmfjnadjddboaa

namespace Go.Proofs.Ytcmfjnadjddboaa
open Go.RowKit Go
set_option linter.unusedVariables false
set_option linter.unusedSimpArgs false

/-- A literal. -/
structure Li where
  neg : Bool
  l : T
  r : T
instance : Inhabited Li := ⟨⟨false, .mk 0 [], .mk 0 []⟩⟩
def Li.size (x : Li) : Nat := x.l.size + x.r.size

theorem InT.parts {S : Nat → Prop} {w : World} {t : T} {u v : Value} (h : InT S w t (.agg #[u, v])) : ∃ (a : Option Addr) (c : Nat), u = .int .i64 t.f ∧ v = .slice a t.args.length c := by
  obtain ⟨_, a, c, e, _⟩ := h.form
  simp only [Value.agg.injEq, Array.mk.injEq, List.cons.injEq, and_true] at e
  exact ⟨a, c, e.1, e.2⟩
def eltL : Elt Li where
  k := 5
  In := fun S w x cs => ∃ u1 u2 u3 u4, cs = [.bool x.neg, u1, u2, u3, u4] ∧ InT S w x.l (.agg #[u1, u2]) ∧ InT S w x.r (.agg #[u3, u4])
  keep := fun hb ⟨u1, u2, u3, u4, e, h0, h⟩ => ⟨u1, u2, u3, u4, e, h0.keep hb, h.keep hb⟩
  mono := fun hb ⟨u1, u2, u3, u4, e, h0, h⟩ => ⟨u1, u2, u3, u4, e, h0.mono hb, h.mono hb⟩
  len := fun ⟨_, _, _, _, e, _⟩ => by rw [e]; rfl
  one := fun ⟨u1, u2, u3, u4, e, h0, h⟩ x hx => by
    obtain ⟨a1, c1, rfl, rfl⟩ := h0.parts
    obtain ⟨a2, c2, rfl, rfl⟩ := h.parts
    rw [e] at hx
    simp only [List.mem_cons, List.not_mem_nil, or_false] at hx
    rcases hx with rfl | rfl | rfl | rfl | rfl <;> rfl

def lget (l : List Li) (k : Nat) : Li := l.getD k default
theorem lget_lt {l : List Li} {k : Nat} (h : k < l.length) : lget l k = l[k] := by simp [lget, h]
theorem lget_mem {l : List Li} {k : Nat} (h : k < l.length) : lget l k ∈ l := by rw [lget_lt h]; exact List.getElem_mem h
theorem take_snocL {l : List Li} {k : Nat} (h : k < l.length) : l.take k ++ [lget l k] = l.take (k + 1) := by
  rw [List.take_succ_eq_append_getElem h, lget_lt h]
theorem take_mapL {β : Type} {f : Li → β} {l : List Li} {k : Nat} (h : k < l.length) : (l.take k).map f ++ [f (lget l k)] = (l.take (k + 1)).map f := by
  rw [List.take_succ_eq_append_getElem h, List.map_append, lget_lt h]; rfl

theorem InRow.openL {S : Nat → Prop} {w : World} {l : List Li} {a : Option Addr} (h : InRow eltL S w l a) : ∃ (b o : Nat) (A : Nat → Option Addr) (C : Nat → Nat) (A2 : Nat → Option Addr) (C2 : Nat → Nat), (∀ k, k < l.length → a = some ⟨b, o, none⟩) ∧
    ∀ k, k < l.length → w.cell? ⟨b, o + k * 5, none⟩ = some (.bool (lget l k).neg) ∧ w.cell? ⟨b, o + k * 5 + 1, none⟩ = some (.int .i64 (lget l k).l.f) ∧ w.cell? ⟨b, o + k * 5 + 2, none⟩ = some (.slice (A k) (lget l k).l.args.length (C k)) ∧
      w.cell? ⟨b, o + k * 5 + 3, none⟩ = some (.int .i64 (lget l k).r.f) ∧ w.cell? ⟨b, o + k * 5 + 4, none⟩ = some (.slice (A2 k) (lget l k).r.args.length (C2 k)) ∧
      InT S w (lget l k).l (.agg #[.int .i64 (lget l k).l.f, .slice (A k) (lget l k).l.args.length (C k)]) ∧ InT S w (lget l k).r (.agg #[.int .i64 (lget l k).r.f, .slice (A2 k) (lget l k).r.args.length (C2 k)]) := by
  rcases Nat.eq_zero_or_pos l.length with h0 | h0
  · exact ⟨0, 0, fun _ => none, fun _ => 0, fun _ => none, fun _ => 0, fun k hk => by omega, fun k hk => by omega⟩
  · obtain ⟨b, o, _, ha, _⟩ := h 0 h0
    have key : ∀ k, k < l.length → ∃ p : (Option Addr × Nat) × (Option Addr × Nat), w.cell? ⟨b, o + k * 5, none⟩ = some (.bool (lget l k).neg) ∧ w.cell? ⟨b, o + k * 5 + 1, none⟩ = some (.int .i64 (lget l k).l.f) ∧ w.cell? ⟨b, o + k * 5 + 2, none⟩ = some (.slice p.1.1 (lget l k).l.args.length p.1.2) ∧
      w.cell? ⟨b, o + k * 5 + 3, none⟩ = some (.int .i64 (lget l k).r.f) ∧ w.cell? ⟨b, o + k * 5 + 4, none⟩ = some (.slice p.2.1 (lget l k).r.args.length p.2.2) ∧
      InT S w (lget l k).l (.agg #[.int .i64 (lget l k).l.f, .slice p.1.1 (lget l k).l.args.length p.1.2]) ∧ InT S w (lget l k).r (.agg #[.int .i64 (lget l k).r.f, .slice p.2.1 (lget l k).r.args.length p.2.2]) := by
      intro k hk
      obtain ⟨b', o', cs, ha', _, ⟨u1, u2, u3, u4, rfl, h1, h2⟩, h3⟩ := h k hk
      rw [ha] at ha'
      simp only [Option.some.injEq, Addr.mk.injEq, and_true] at ha'
      obtain ⟨rfl, rfl⟩ := ha'
      obtain ⟨p1, q1, rfl, rfl⟩ := h1.parts
      obtain ⟨p2, q2, rfl, rfl⟩ := h2.parts
      rw [lget_lt hk]
      exact ⟨((p1, q1), (p2, q2)), h3 0 (by decide), h3 1 (by decide), h3 2 (by decide), h3 3 (by decide), h3 4 (by decide), h1, h2⟩
    have : Inhabited ((Option Addr × Nat) × (Option Addr × Nat)) := ⟨((none, 0), (none, 0))⟩
    obtain ⟨F, hF⟩ := Go.Deep.choose_lt key
    exact ⟨b, o, fun k => (F k).1.1, fun k => (F k).1.2, fun k => (F k).2.1, fun k => (F k).2.2, fun _ _ => ha, hF⟩

/-- A clause that came in. -/
abbrev IsLs (w : World) (l : List Li) (a : Option Addr) : Prop := InRow eltL (fun _ => True) w l a
/-- A clause that came in: it lies in memory, is no longer than that, its terms are no larger. -/
structure IsCl (w : World) (s : List Li) (a : Option Addr) (c : Nat) : Prop where
  rows : IsLs w s a
  len : s.length ≤ c
  cap : c ≤ maxLen
  small : s.length ≤ 4294967296
  partsL : ∀ b ∈ s, b.l.size ≤ 4294967296
  partsR : ∀ b ∈ s, b.r.size ≤ 4294967296
theorem IsCl.below {w w' : World} {s : List Li} {a : Option Addr} {c : Nat} (h : IsCl w s a c) (hb : Below w.heap.size w w') : IsCl w' s a c := ⟨h.rows.below hb, h.len, h.cap, h.small, h.partsL, h.partsR⟩
theorem IsCl.pl {w : World} {s : List Li} {a : Option Addr} {c k : Nat} (h : IsCl w s a c) (hk : k < s.length) : (lget s k).l.size ≤ 4294967296 := h.partsL _ (lget_mem hk)
theorem IsCl.pr {w : World} {s : List Li} {a : Option Addr} {c k : Nat} (h : IsCl w s a c) (hk : k < s.length) : (lget s k).r.size ≤ 4294967296 := h.partsR _ (lget_mem hk)

/-- A literal in memory. -/
def IsLi (w : World) (x : Li) (v : Value) : Prop := ∃ u1 u2 u3 u4, v = .agg #[.bool x.neg, u1, u2, u3, u4] ∧ IsT w x.l (.agg #[u1, u2]) ∧ IsT w x.r (.agg #[u3, u4])
theorem IsLi.below {w w' : World} {x : Li} {v : Value} (hb : Below w.heap.size w w') (h : IsLi w x v) : IsLi w' x v := by
  obtain ⟨u1, u2, u3, u4, e, h1, h2⟩ := h
  exact ⟨u1, u2, u3, u4, e, h1.below hb, h2.below hb⟩
theorem isLi_mk {w : World} {x : Li} {a1 a2 : Option Addr} {c1 c2 : Nat} (h1 : IsT w x.l (.agg #[.int .i64 x.l.f, .slice a1 x.l.args.length c1])) (h2 : IsT w x.r (.agg #[.int .i64 x.r.f, .slice a2 x.r.args.length c2])) : IsLi w x (.agg #[.bool x.neg, .int .i64 x.l.f, .slice a1 x.l.args.length c1, .int .i64 x.r.f, .slice a2 x.r.args.length c2]) := ⟨_, _, _, _, rfl, h1, h2⟩
theorem IsLi.form {w : World} {x : Li} {v : Value} (h : IsLi w x v) : ∃ (a1 a2 : Option Addr) (c1 c2 : Nat), v = .agg #[.bool x.neg, .int .i64 x.l.f, .slice a1 x.l.args.length c1, .int .i64 x.r.f, .slice a2 x.r.args.length c2] ∧
    IsT w x.l (.agg #[.int .i64 x.l.f, .slice a1 x.l.args.length c1]) ∧ IsT w x.r (.agg #[.int .i64 x.r.f, .slice a2 x.r.args.length c2]) := by
  obtain ⟨u1, u2, u3, u4, e, h1, h2⟩ := h
  obtain ⟨p1, q1, rfl, rfl⟩ := h1.cells
  obtain ⟨p2, q2, rfl, rfl⟩ := h2.cells
  exact ⟨p1, p2, q1, q2, e, h1, h2⟩
/-- A literal in memory, made since. -/
def NewL (w0 w : World) (x : Li) (v : Value) : Prop := ∃ u1 u2 u3 u4, v = .agg #[.bool x.neg, u1, u2, u3, u4] ∧ InT (fun b => w0.heap.size ≤ b) w x.l (.agg #[u1, u2]) ∧ InT (fun b => w0.heap.size ≤ b) w x.r (.agg #[u3, u4])
/-- A literal in memory, in blocks of 'S'. -/
def LiIn (S : Nat → Prop) (w : World) (x : Li) (v : Value) : Prop := ∃ u1 u2 u3 u4, v = .agg #[.bool x.neg, u1, u2, u3, u4] ∧ InT S w x.l (.agg #[u1, u2]) ∧ InT S w x.r (.agg #[u3, u4])
theorem LiIn.keep {S : Nat → Prop} {w w' : World} {x : Li} {v : Value} (hb : ∀ (p : Addr) (y : Value), S p.block → w.cell? p = some y → w'.cell? p = some y) (h : LiIn S w x v) : LiIn S w' x v := by
  obtain ⟨u1, u2, u3, u4, e, h1, h2⟩ := h
  exact ⟨u1, u2, u3, u4, e, h1.keep hb, h2.keep hb⟩
theorem LiIn.mono {S S' : Nat → Prop} {w : World} {x : Li} {v : Value} (hb : ∀ b, S b → b < w.heap.size → S' b) (h : LiIn S w x v) : LiIn S' w x v := by
  obtain ⟨u1, u2, u3, u4, e, h1, h2⟩ := h
  exact ⟨u1, u2, u3, u4, e, h1.mono hb, h2.mono hb⟩
theorem LiIn.parts {S : Nat → Prop} {w : World} {x : Li} {v : Value} (h : LiIn S w x v) : ∃ (a1 a2 : Option Addr) (c1 c2 : Nat), v = .agg #[.bool x.neg, .int .i64 x.l.f, .slice a1 x.l.args.length c1, .int .i64 x.r.f, .slice a2 x.r.args.length c2] := by
  obtain ⟨u1, u2, u3, u4, e, h1, h2⟩ := h
  obtain ⟨p1, q1, rfl, rfl⟩ := h1.parts
  obtain ⟨p2, q2, rfl, rfl⟩ := h2.parts
  exact ⟨p1, p2, q1, q2, e⟩
theorem LiIn.two {S : Nat → Prop} {w : World} {x : Li} {v0 v1 v2 v3 v4 : Value} (h : LiIn S w x (.agg #[v0, v1, v2, v3, v4])) : InT S w x.l (.agg #[v1, v2]) ∧ InT S w x.r (.agg #[v3, v4]) := by
  obtain ⟨u1, u2, u3, u4, e, h1, h2⟩ := h
  simp only [Value.agg.injEq, Array.mk.injEq, List.cons.injEq, and_true] at e
  obtain ⟨rfl, rfl, rfl, rfl, rfl⟩ := e
  exact ⟨h1, h2⟩
theorem NewL.isLi {w0 w : World} {x : Li} {v : Value} (h : NewL w0 w x v) : IsLi w x v := by
  obtain ⟨u1, u2, u3, u4, e, h1, h2⟩ := h
  exact ⟨u1, u2, u3, u4, e, h1.isT, h2.isT⟩
theorem NewL.below {w0 w w' : World} {x : Li} {v : Value} (h : NewL w0 w x v) (hb : Below w.heap.size w w') : NewL w0 w' x v := by
  obtain ⟨u1, u2, u3, u4, e, h1, h2⟩ := h
  exact ⟨u1, u2, u3, u4, e, h1.below hb, h2.below hb⟩
theorem NewL.chg {S : Nat → Prop} {w0 w w' : World} {x : Li} {v : Value} (h : NewL w0 w x v) (hc : Chg S w w') (hS : ∀ b, w0.heap.size ≤ b → ¬ S b) : NewL w0 w' x v := by
  obtain ⟨u1, u2, u3, u4, e, h1, h2⟩ := h
  exact ⟨u1, u2, u3, u4, e, h1.chg hc hS, h2.chg hc hS⟩
theorem NewL.older {w0 w1 w : World} {x : Li} {v : Value} (h : NewL w1 w x v) (hl : w0.heap.size ≤ w1.heap.size) : NewL w0 w x v := by
  obtain ⟨u1, u2, u3, u4, e, h1, h2⟩ := h
  exact ⟨u1, u2, u3, u4, e, h1.mono (fun b hb _ => Nat.le_trans hl hb), h2.mono (fun b hb _ => Nat.le_trans hl hb)⟩
theorem NewL.parts {w0 w : World} {x : Li} {v : Value} (h : NewL w0 w x v) : ∃ (a1 a2 : Option Addr) (c1 c2 : Nat), v = .agg #[.bool x.neg, .int .i64 x.l.f, .slice a1 x.l.args.length c1, .int .i64 x.r.f, .slice a2 x.r.args.length c2] := by
  obtain ⟨u1, u2, u3, u4, e, h1, h2⟩ := h
  obtain ⟨p1, q1, rfl, rfl⟩ := h1.parts
  obtain ⟨p2, q2, rfl, rfl⟩ := h2.parts
  exact ⟨p1, p2, q1, q2, e⟩
theorem NewL.elt {w0 w : World} {x : Li} {v0 v1 v2 v3 v4 : Value} (h : NewL w0 w x (.agg #[v0, v1, v2, v3, v4])) : eltL.In (fun b => w0.heap.size ≤ b) w x [v0, v1, v2, v3, v4] := by
  obtain ⟨u1, u2, u3, u4, e, h1, h2⟩ := h
  simp only [Value.agg.injEq, Array.mk.injEq, List.cons.injEq, and_true] at e
  obtain ⟨rfl, rfl, rfl, rfl, rfl⟩ := e
  exact ⟨_, _, _, _, rfl, h1, h2⟩
theorem newL_mk {w0 w : World} {x : Li} {u1 u2 u3 u4 : Value} (h1 : NewT w0 w x.l (.agg #[u1, u2])) (h2 : NewT w0 w x.r (.agg #[u3, u4])) : NewL w0 w x (.agg #[.bool x.neg, u1, u2, u3, u4]) := ⟨_, _, _, _, rfl, h1, h2⟩
/-- A box in which a new literal lies. -/
def LiBox (w0 w : World) (g ty : Nat) (x : Li) : Prop := ∃ (a1 a2 : Option Addr) (c1 c2 : Nat), Blk w g ty #[.bool x.neg, .int .i64 x.l.f, .slice a1 x.l.args.length c1, .int .i64 x.r.f, .slice a2 x.r.args.length c2] ∧ NewL w0 w x (.agg #[.bool x.neg, .int .i64 x.l.f, .slice a1 x.l.args.length c1, .int .i64 x.r.f, .slice a2 x.r.args.length c2])
theorem LiBox.below {w0 w w' : World} {g ty : Nat} {x : Li} (h : LiBox w0 w g ty x) (hb : Below w.heap.size w w') : LiBox w0 w' g ty x := by
  obtain ⟨a1, a2, c1, c2, h1, h2⟩ := h
  exact ⟨a1, a2, c1, c2, h1.below hb, h2.below hb⟩
/-- A clause in memory, made since. -/
def NewC (w0 w : World) (l : List Li) (a : Option Addr) (c : Nat) : Prop := InRow eltL (fun b => w0.heap.size ≤ b) w l a ∧ l.length ≤ c ∧ c ≤ maxLen
theorem NewC.below {w0 w w' : World} {l : List Li} {a : Option Addr} {c : Nat} (h : NewC w0 w l a c) (hb : Below w.heap.size w w') : NewC w0 w' l a c := ⟨h.1.below hb, h.2⟩
theorem NewC.isLs {w0 w : World} {l : List Li} {a : Option Addr} {c : Nat} (h : NewC w0 w l a c) : IsLs w l a := h.1.mono (by decide) (fun _ _ _ => trivial)
theorem newC_row {w0 w : World} {B e : Nat} {ra : Option Addr} {rc n : Nat} {l : List Li} (h : RowE eltL w B e ra rc n l) (hB : w0.heap.size ≤ B) : n = l.length ∧ NewC w0 w l ra rc := by
  obtain ⟨h1, h2, h3, h4⟩ := h.inRow
  exact ⟨h2, h1.mono (by decide) (fun b hb _ => Nat.le_trans hB hb), by omega, h4⟩

end Go.Proofs.Ytcmfjnadjddboaa
