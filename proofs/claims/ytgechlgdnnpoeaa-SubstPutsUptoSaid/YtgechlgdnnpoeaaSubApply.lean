/- What becomes of terms, by a substitution. -/
import Derived.Test.YtgechlgdnnpoeaaSubFind
namespace Go.Proofs.Ytgechlgdnnpoeaa
open Go.RowKit Go

mutual
def T.app (s : List Bd) : T → T
  | .mk f l => match (if f < 0 then subFind s (-1 - f) else none) with
    | some t => t
    | none => .mk f (T.appL s l)
def T.appL (s : List Bd) : List T → List T
  | [] => []
  | t :: r => t.app s :: T.appL s r
end
theorem T.appL_eq (s : List Bd) : ∀ l : List T, T.appL s l = l.map (T.app s)
  | [] => rfl
  | t :: r => by rw [T.appL, T.appL_eq s r]; rfl
theorem app_some {s : List Bd} {f : Int} {l : List T} {t : T} (hf : f < 0) (h : subFind s (-1 - f) = some t) : (T.mk f l).app s = t := by
  simp only [T.app, if_pos hf, h]
theorem app_none {s : List Bd} {f : Int} {l : List T} (h : f < 0 → subFind s (-1 - f) = none) : (T.mk f l).app s = .mk f (l.map (T.app s)) := by
  have : (if f < 0 then subFind s (-1 - f) else none) = none := by
    split
    · exact h ‹_›
    · rfl
  simp only [T.app, this, T.appL_eq]
theorem take_map {s : List Bd} {l : List T} {k : Nat} (h : k < l.length) : (l.take k).map (T.app s) ++ [(tget l k).app s] = (l.take (k + 1)).map (T.app s) := by
  rw [List.take_succ_eq_append_getElem h, List.map_append, tget_lt h]; rfl
theorem subFind_mem {s : List Bd} {m : Int} {t : T} (h : subFind s m = some t) : ∃ b ∈ s, b.t = t := by
  unfold subFind at h
  obtain ⟨b, hb, rfl⟩ := Option.map_eq_some_iff.1 h
  exact ⟨b, List.mem_of_find?_eq_some hb, rfl⟩
/-- A substitution that came in: it lies in memory, is no longer than that, its terms are no larger. -/
structure IsSub (w : World) (s : List Bd) (a : Option Addr) (c : Nat) : Prop where
  rows : IsBs w s a
  len : s.length ≤ c
  cap : c ≤ maxLen
  small : s.length ≤ 4294967296
  parts : ∀ b ∈ s, b.t.size ≤ 4294967296
theorem IsSub.below {w w' : World} {s : List Bd} {a : Option Addr} {c : Nat} (h : IsSub w s a c) (hb : Below w.heap.size w w') : IsSub w' s a c := ⟨h.rows.below hb, h.len, h.cap, h.small, h.parts⟩
theorem IsSub.found {w : World} {s : List Bd} {a : Option Addr} {c : Nat} (h : IsSub w s a c) {m : Int} {t : T} (hf : subFind s m = some t) : t.size ≤ 4294967296 := by
  obtain ⟨b, hb, rfl⟩ := subFind_mem hf; exact h.parts b hb
set_option maxRecDepth 100000 in
theorem apply1_any (s : List Bd) (m : Int) (w : World) (a : Option Addr) (c g : Nat) (hs : IsSub w s a c) (hg : Blk w g 23 #[.slice a s.length c]) : Calls Try.prog 47 #[.int .i64 m, .pointer (some ⟨g, 0, none⟩)] w (Ret fun v' w' => IsTo w' (subFind s m) v' ∧ Below w.heap.size w w') := by
  have hgl := hg.lt
  refine Calls.walk (l := [.int .i64 m, .pointer (some ⟨g, 0, none⟩)]) Try.func47 rfl (by kernel_rfl) ?_
  refine WC.sub (K' := [(0, .int .i64 m), (1, .pointer (some ⟨g, 0, none⟩))]) ⟨rfl, rfl, trivial⟩ ?_
  refine WC.seq ?_
  refine WC.region ?_
  refine WL.val (.pointer none) rfl rfl rfl (fun za zC zh zk => wp_assign rfl (zh.ev rfl) zk) ?_
  refine WL.nil (WE.sub (K' := [(0, .int .i64 m), (1, .pointer (some ⟨g, 0, none⟩)), (3, .pointer none)]) ⟨rfl, rfl, rfl, trivial⟩ ?_)
  refine WE.next ?_
  refine WC.seq ?_
  refine WC.region ?_
  refine WL.val (.slice a s.length c) rfl rfl rfl (fun za zC zh zk => ld_23 rfl (zh.ev rfl) ((hg.cell 0).trans rfl) zk) ?_
  refine WL.val (.int .i64 m) rfl rfl rfl (fun za zC zh zk => wp_move rfl (zh.ev rfl) zk) ?_
  refine WL.call rfl rfl rfl (fun za zh zC => wp_call (by kernel_rfl) rfl (hv2 (zh.ev rfl) (zh.ev rfl))) ((find_any s m _ _ _ hs.len hs.cap hs.small (hs.below (Below.refl _ _)).rows)) ?_
  rintro u w1 ⟨hu, hbu⟩
  refine WL.val (u) rfl rfl rfl (fun za zC zh zk => wp_assign rfl (zh.ev rfl) zk) ?_
  refine WL.nil (WE.sub (K' := [(0, .int .i64 m), (1, .pointer (some ⟨g, 0, none⟩)), (3, u)]) ⟨rfl, rfl, rfl, trivial⟩ ?_)
  refine WE.next ?_
  refine WC.ret ?_
  refine WE.ret1 rfl rfl ?_
  exact ⟨_, rfl, hu, hbu⟩

set_option maxRecDepth 100000 in
theorem each_any (s : List Bd) (sa : Option Addr) (sc gs : Nat) : ∀ (t : T) (w : World) (v : Value), t.size ≤ 4294967296 → IsT w t v → IsSub w s sa sc → Blk w gs 23 #[.slice sa s.length sc] → Calls Try.prog 46 #[v, .func (.func 47) #[] #[.pointer (some ⟨gs, 0, none⟩)]] w (Ret fun v' w' => NewT w w' (t.app s) v' ∧ Below w.heap.size w w') := by
  refine T.ind (fun f l ih => ?_)
  intro w v hz hv hs hgs
  have hlen := len_le_sizeL l
  have hz' := hz
  simp only [T.size] at hz'
  obtain ⟨hf, a, c, rfl, hc, hm, hl⟩ := hv
  have hf' := hf
  unfold I64 at hf'
  have hgl := hgs.lt
  refine Calls.walk (l := [.agg #[.int .i64 f, .slice a l.length c], .func (.func 47) #[] #[.pointer (some ⟨gs, 0, none⟩)]]) Try.func46 rfl (by kernel_rfl) ?_
  refine WC.sub (K' := [(0, .agg #[.int .i64 f, .slice a l.length c]), (1, .func (.func 47) #[] #[.pointer (some ⟨gs, 0, none⟩)])]) ⟨rfl, rfl, trivial⟩ ?_
  refine WC.seq ?_
  refine WC.region ?_
  refine WL.step (post := NewBlk w 32 #[.int .i64 f, .slice a l.length c]) rfl rfl rfl (fun za zC zh zk => box_32 rfl (zh.ev rfl) (zk _ _ (newBlk _ _ _))) ?_
  rintro _ w1 ⟨g2, rfl, hg3, hB4, hb5, hz6⟩
  have hl7 : gs < g2 := by have z1 := hgs.lt; omega
  have hl8 : w.heap.size ≤ g2 := by omega
  refine WL.step (post := NewBlk w1 32 #[.int .i64 0, .slice none 0 0]) rfl rfl rfl (fun za zC zh zk => alloc_32 rfl (zk _ _ (newBlk _ _ _))) ?_
  rintro _ w9 ⟨g10, rfl, hg11, hB12, hb13, hz14⟩
  have hl15 : gs < g10 := by have z1 := hgs.lt; have z2 := (hb5).size; omega
  have hl16 : g2 < g10 := by have z1 := hB4.lt; omega
  have hl17 : w.heap.size ≤ g10 := by have z2 := (hb5).size; omega
  refine WL.nil (WE.sub (K' := [(0, .agg #[.int .i64 f, .slice a l.length c]), (1, .func (.func 47) #[] #[.pointer (some ⟨gs, 0, none⟩)]), (2, .pointer (some ⟨g2, 0, none⟩)), (4, .pointer (some ⟨g10, 0, none⟩))]) ⟨rfl, rfl, rfl, rfl, trivial⟩ ?_)
  refine WE.next ?_
  refine WC.seq ?_
  refine WC.seq ?_
  refine WC.region ?_
  refine WL.val (.pointer (some ⟨g2, 0, none⟩)) rfl rfl rfl (fun za zC zh zk => fld_32_0 rfl (zh.ev rfl) zk) ?_
  have hB18 := hB4.below hb13
  refine WL.val (.int .i64 f) rfl rfl rfl (fun za zC zh zk => ld_3 rfl (zh.ev rfl) ((hB18.cell 0).trans rfl) zk) ?_
  refine WL.val (.bool ((decide ((f : Int) < (0 : Int))))) rfl rfl rfl (fun za zC zh zk => lss_3 rfl (zh.ev rfl) (zh.ev rfl) zk) ?_
  refine WL.nil (WE.sub (K' := [(0, .agg #[.int .i64 f, .slice a l.length c]), (1, .func (.func 47) #[] #[.pointer (some ⟨gs, 0, none⟩)]), (2, .pointer (some ⟨g2, 0, none⟩)), (4, .pointer (some ⟨g10, 0, none⟩)), (11, .bool ((decide ((f : Int) < (0 : Int)))))]) ⟨rfl, rfl, rfl, rfl, rfl, trivial⟩ ?_)
  refine WE.next ?_
  refine WC.cond rfl (fun h19 => ?_) (fun h19 => ?_)
  · have h19 : (f : Int) < (0 : Int) := by simpa using h19
    refine WC.seq ?_
    refine WC.region ?_
    refine WL.val (.func (.func 47) #[] #[.pointer (some ⟨gs, 0, none⟩)]) rfl rfl rfl (fun za zC zh zk => wp_move rfl (zh.ev rfl) zk) ?_
    refine WL.val (.pointer (some ⟨g2, 0, none⟩)) rfl rfl rfl (fun za zC zh zk => fld_32_0 rfl (zh.ev rfl) zk) ?_
    refine WL.val (.int .i64 f) rfl rfl rfl (fun za zC zh zk => ld_3 rfl (zh.ev rfl) ((hB18.cell 0).trans rfl) zk) ?_
    refine WL.val (.int .i64 ((-1 - f))) rfl rfl rfl (fun za zC zh zk => subb_3 rfl (zh.ev rfl) (zh.ev rfl) (wrap_eq rfl (by omega) (by omega)) zk) ?_
    have hb25 : Below w.heap.size w w9 := (bstep hb5 hb13)
    have hB26 := hgs.below hb25
    refine WL.call rfl rfl rfl (fun za zh zC => wp_callv (by kernel_rfl) rfl (zh.ev rfl) (hv1 (zh.ev rfl))) (apply1_any s (-1 - f) _ _ _ gs (hs.below hb25) hB26) ?_
    rintro v27 w20 ⟨hto21, hb22⟩
    rcases hf24 : subFind s (-1 - f) with _ | t23
    · rw [hf24] at hto21
      obtain rfl : v27 = .pointer none := hto21
      refine WL.val (.pointer none) rfl rfl rfl (fun za zC zh zk => wp_assign rfl (zh.ev rfl) zk) ?_
      refine WL.nil (WE.sub (K' := [(0, .agg #[.int .i64 f, .slice a l.length c]), (1, .func (.func 47) #[] #[.pointer (some ⟨gs, 0, none⟩)]), (2, .pointer (some ⟨g2, 0, none⟩)), (4, .pointer (some ⟨g10, 0, none⟩)), (5, .pointer none), (11, .bool ((decide ((f : Int) < (0 : Int)))))]) ⟨rfl, rfl, rfl, rfl, rfl, rfl, trivial⟩ ?_)
      refine WE.next ?_
      refine WC.seq ?_
      refine WC.region ?_
      refine WL.val (.pointer none) rfl rfl rfl (fun za zC zh zk => wp_move rfl (zh.ev rfl) zk) ?_
      refine WL.val (.bool false) rfl rfl rfl (fun za zC zh zk => neqn_57 rfl (zh.ev rfl) (zh.ev rfl) zk) ?_
      refine WL.nil (WE.sub (K' := [(0, .agg #[.int .i64 f, .slice a l.length c]), (1, .func (.func 47) #[] #[.pointer (some ⟨gs, 0, none⟩)]), (2, .pointer (some ⟨g2, 0, none⟩)), (4, .pointer (some ⟨g10, 0, none⟩)), (5, .pointer none), (11, .bool ((decide ((f : Int) < (0 : Int))))), (18, .bool false)]) ⟨rfl, rfl, rfl, rfl, rfl, rfl, rfl, trivial⟩ ?_)
      refine WE.next ?_
      refine WC.condF rfl rfl ?_
      refine WC.skip ?_
      refine WE.next ?_
      refine WC.seq ?_
      refine WC.region ?_
      refine WL.val (.pointer (some ⟨g2, 0, none⟩)) rfl rfl rfl (fun za zC zh zk => fld_32_0 rfl (zh.ev rfl) zk) ?_
      have hB28 := hB18.below hb22
      refine WL.val (.int .i64 f) rfl rfl rfl (fun za zC zh zk => ld_3 rfl (zh.ev rfl) ((hB28.cell 0).trans rfl) zk) ?_
      refine WL.val (.agg #[.int .i64 f, .slice none 0 0]) rfl rfl rfl (fun za zC zh zk => build_32_0 rfl (zh.ev rfl) zk) ?_
      refine WL.step (post := NewBlk w20 32 #[.int .i64 0, .slice none 0 0]) rfl rfl rfl (fun za zC zh zk => alloc_32 rfl (zk _ _ (newBlk _ _ _))) ?_
      rintro _ w29 ⟨g30, rfl, hg31, hB32, hb33, hz34⟩
      have hl35 : gs < g30 := by have z1 := hB26.lt; have z2 := (hb22).size; omega
      have hl36 : g2 < g30 := by have z1 := hB28.lt; omega
      have hl37 : g10 < g30 := by have z1 := hB12.lt; have z2 := (hb22).size; omega
      have hb38 : Below w.heap.size w w20 := (bstep hb25 hb22)
      have hl39 : w.heap.size ≤ g30 := by have z2 := (hb38).size; omega
      have hl40 : w20.heap.size ≤ g30 := by omega
      refine WL.step (post := fun _ w' => Upd g30 w29 w' ∧ Blk w' g30 32 #[.int .i64 f, .slice none 0 0]) rfl rfl rfl (fun za zC zh zk => st_32 rfl (zh.ev rfl) (zh.ev rfl) rfl rfl hB32 (by first | decide | simp) (fun v => zk v _ ⟨(Upd.at_ _ _ _ _).trans (Upd.at_ _ _ _ _), (hB32.set_ 0 _).set_ 1 _⟩)) ?_
      rintro v44 w41 ⟨hu42, hB43⟩
      have hb45 : Below w.heap.size w w29 := (bstep hb38 hb33)
      have hb46 := upd_below hb45 hu42 (by omega)
      have hb47 := upd_below hb33 hu42 (by omega)
      have hb49 : Below w9.heap.size w9 w29 := (bstep hb22 hb33)
      have hB48 := hB26.below hb49
      have hB50 := upd_blk hB48 hu42 (by omega)
      have hB51 := hB28.below hb33
      have hB52 := upd_blk hB51 hu42 (by omega)
      have hB53 := hB12.below hb49
      have hB54 := upd_blk hB53 hu42 (by omega)
      refine WL.nil (WE.sub (K' := [(0, .agg #[.int .i64 f, .slice a l.length c]), (1, .func (.func 47) #[] #[.pointer (some ⟨gs, 0, none⟩)]), (2, .pointer (some ⟨g2, 0, none⟩)), (4, .pointer (some ⟨g10, 0, none⟩)), (5, .pointer none), (6, .pointer (some ⟨g30, 0, none⟩)), (11, .bool ((decide ((f : Int) < (0 : Int))))), (18, .bool false)]) ⟨rfl, rfl, rfl, rfl, rfl, rfl, rfl, rfl, trivial⟩ ?_)
      refine WE.next ?_
      refine WC.seq ?_
      refine WC.seq ?_
      refine WC.region ?_
      refine WL.val (.pointer (some ⟨g2, 1, none⟩)) rfl rfl rfl (fun za zC zh zk => fld_32_1 rfl (zh.ev rfl) zk) ?_
      refine WL.val (.slice a l.length c) rfl rfl rfl (fun za zC zh zk => ld_30 rfl (zh.ev rfl) ((hB52.cell 1).trans rfl) zk) ?_
      refine WL.val (.int .i64 (((l.length : Nat) : Int))) rfl rfl rfl (fun za zC zh zk => len_30 rfl (zh.ev rfl) zk) ?_
      refine WL.val (.bool ((decide ((0 : Int) < (((l.length : Nat) : Int) : Int))))) rfl rfl rfl (fun za zC zh zk => gtr_3 rfl (zh.ev rfl) (zh.ev rfl) zk) ?_
      refine WL.nil (WE.sub (K' := [(0, .agg #[.int .i64 f, .slice a l.length c]), (1, .func (.func 47) #[] #[.pointer (some ⟨gs, 0, none⟩)]), (2, .pointer (some ⟨g2, 0, none⟩)), (4, .pointer (some ⟨g10, 0, none⟩)), (5, .pointer none), (6, .pointer (some ⟨g30, 0, none⟩)), (11, .bool ((decide ((f : Int) < (0 : Int))))), (18, .bool false), (29, .bool ((decide ((0 : Int) < (((l.length : Nat) : Int) : Int)))))]) ⟨rfl, rfl, rfl, rfl, rfl, rfl, rfl, rfl, rfl, trivial⟩ ?_)
      refine WE.next ?_
      refine WC.cond rfl (fun h55 => ?_) (fun h55 => ?_)
      · have h55 : (0 : Int) < (((l.length : Nat) : Int) : Int) := by simpa using h55
        refine WC.region ?_
        refine WL.val (.pointer (some ⟨g2, 1, none⟩)) rfl rfl rfl (fun za zC zh zk => fld_32_1 rfl (zh.ev rfl) zk) ?_
        refine WL.val (.slice a l.length c) rfl rfl rfl (fun za zC zh zk => ld_30 rfl (zh.ev rfl) ((hB52.cell 1).trans rfl) zk) ?_
        refine WL.val (.int .i64 (((l.length : Nat) : Int))) rfl rfl rfl (fun za zC zh zk => len_30 rfl (zh.ev rfl) zk) ?_
        refine WL.step (post := fun v w' => ∃ g, v = .slice (some ⟨g, 0, none⟩) l.length l.length ∧ w41.heap.size = g ∧ Blk w' g 32 (madeCells (Value.cells (.agg #[.int .i64 0, .slice none 0 0])) (l.length * 2)) ∧ Below w41.heap.size w41 w') rfl rfl rfl (fun za zC zh zk => wp_mkE (z := .agg #[.int .i64 0, .slice none 0 0]) (size := 2) (bytes := 32) Try.underlying30 (by kernel_rfl) (by decide) rfl (zh.ev rfl) (zh.ev rfl) (by omega) (zk _ _ ⟨_, rfl, rfl, Blk.new' rfl, balloc _ _⟩)) ?_
        rintro _ w56 ⟨g57, rfl, hg58, hB59, hb60⟩
        have hl62 : gs < g57 := by have z1 := hB50.lt; omega
        have hl63 : g2 < g57 := by have z1 := hB52.lt; omega
        have hl64 : g10 < g57 := by have z1 := hB54.lt; omega
        have hl65 : g30 < g57 := by have z1 := hB43.lt; omega
        have hl66 : w.heap.size ≤ g57 := by have z2 := (hb46).size; omega
        have hl67 : w20.heap.size ≤ g57 := by have z2 := (hb47).size; omega
        have hM61 : MRow eltT w56 g57 g57 32 l.length (madeCells (Value.cells (.agg #[.int .i64 0, .slice none 0 0])) (l.length * 2)).toList [] := MRow.startT hB59 (Nat.le_refl _)
        refine WL.val (.pointer (some ⟨g30, 1, none⟩)) rfl rfl rfl (fun za zC zh zk => fld_32_1 rfl (zh.ev rfl) zk) ?_
        have hB68 := hB43.below hb60
        refine WL.step (post := fun _ w' => Upd g30 w56 w' ∧ Blk w' g30 32 #[.int .i64 f, .slice ((some ⟨g57, 0, none⟩)) l.length l.length]) rfl rfl rfl (fun za zC zh zk => st_30 rfl (zh.ev rfl) (zh.ev rfl) hB68 (by first | decide | simp) (fun v => zk v _ ⟨Upd.at_ _ _ _ _, hB68.set_ 1 _⟩)) ?_
        rintro v72 w69 ⟨hu70, hB71⟩
        have hb73 : Below w.heap.size w w56 := (bstep hb46 hb60)
        have hb74 : Below w20.heap.size w20 w56 := (bstep hb47 hb60)
        have hb75 := upd_below hb73 hu70 (by omega)
        have hb76 := upd_below hb74 hu70 (by omega)
        have hB77 := hB50.below hb60
        have hB78 := upd_blk hB77 hu70 (by omega)
        have hB79 := hB52.below hb60
        have hB80 := upd_blk hB79 hu70 (by omega)
        have hB81 := hB54.below hb60
        have hB82 := upd_blk hB81 hu70 (by omega)
        have ho83 := hM61.upd hu70 (by omega)
        refine WL.nil (WE.sub (K' := [(0, .agg #[.int .i64 f, .slice a l.length c]), (1, .func (.func 47) #[] #[.pointer (some ⟨gs, 0, none⟩)]), (2, .pointer (some ⟨g2, 0, none⟩)), (4, .pointer (some ⟨g10, 0, none⟩)), (5, .pointer none), (6, .pointer (some ⟨g30, 0, none⟩)), (11, .bool ((decide ((f : Int) < (0 : Int))))), (18, .bool false), (29, .bool ((decide ((0 : Int) < (((l.length : Nat) : Int) : Int)))))]) ⟨rfl, rfl, rfl, rfl, rfl, rfl, rfl, rfl, rfl, trivial⟩ ?_)
        refine WE.next ?_
        refine WC.seq ?_
        refine WC.seq ?_
        refine WC.region ?_
        refine WL.val (.pointer (some ⟨g2, 1, none⟩)) rfl rfl rfl (fun za zC zh zk => fld_32_1 rfl (zh.ev rfl) zk) ?_
        refine WL.val (.slice a l.length c) rfl rfl rfl (fun za zC zh zk => ld_30 rfl (zh.ev rfl) ((hB80.cell 1).trans rfl) zk) ?_
        refine WL.val (.int .i64 (((l.length : Nat) : Int))) rfl rfl rfl (fun za zC zh zk => len_30 rfl (zh.ev rfl) zk) ?_
        refine WL.val (.int .i64 0) rfl rfl rfl (fun za zC zh zk => wp_move rfl (zh.ev rfl) zk) ?_
        refine WL.nil (WE.sub (K' := [(0, .agg #[.int .i64 f, .slice a l.length c]), (1, .func (.func 47) #[] #[.pointer (some ⟨gs, 0, none⟩)]), (2, .pointer (some ⟨g2, 0, none⟩)), (4, .pointer (some ⟨g10, 0, none⟩)), (5, .pointer none), (6, .pointer (some ⟨g30, 0, none⟩)), (11, .bool ((decide ((f : Int) < (0 : Int))))), (18, .bool false), (29, .bool ((decide ((0 : Int) < (((l.length : Nat) : Int) : Int))))), (36, .slice a l.length c), (37, .int .i64 (((l.length : Nat) : Int))), (38, .int .i64 0)]) ⟨rfl, rfl, rfl, rfl, rfl, rfl, rfl, rfl, rfl, rfl, rfl, rfl, trivial⟩ ?_)
        refine WE.next ?_
        refine WC.block ?_
        refine WC.loop (X := Nat) (fun k => l.length - k) (fun k => [(0, .agg #[.int .i64 f, .slice a l.length c]), (1, .func (.func 47) #[] #[.pointer (some ⟨gs, 0, none⟩)]), (2, .pointer (some ⟨g2, 0, none⟩)), (4, .pointer (some ⟨g10, 0, none⟩)), (5, .pointer none), (6, .pointer (some ⟨g30, 0, none⟩)), (11, .bool ((decide ((f : Int) < (0 : Int))))), (18, .bool false), (29, .bool ((decide ((0 : Int) < (((l.length : Nat) : Int) : Int))))), (36, .slice a l.length c), (37, .int .i64 (((l.length : Nat) : Int))), (38, .int .i64 (((k : Nat) : Int)))]) (fun k w84 => k ≤ l.length ∧ Below w.heap.size w w84 ∧ Blk w84 gs 23 #[.slice sa s.length sc] ∧ Blk w84 g2 32 #[.int .i64 f, .slice a l.length c] ∧ Blk w84 g10 32 #[.int .i64 0, .slice none 0 0] ∧ Blk w84 g30 32 #[.int .i64 f, .slice ((some ⟨g57, 0, none⟩)) l.length l.length] ∧ MRow eltT (w84) g57 g57 32 l.length (madeCells (Value.cells (.agg #[.int .i64 0, .slice none 0 0])) (l.length * 2)).toList ((l.take k).map (T.app s))) 0 ⟨rfl, rfl, rfl, rfl, rfl, rfl, rfl, rfl, rfl, rfl, rfl, rfl, trivial⟩ ?_ ?_
        · exact ⟨Nat.zero_le _, hb75, hB78, hB80, hB82, hB71, ho83⟩
        · rintro k w84 ⟨hk, hb85, hB86, hB87, hB88, hB89, ho90⟩
          have hgl := ho90.lt
          refine WC.seq ?_
          refine WC.region ?_
          refine WL.val (.bool ((decide ((((k : Nat) : Int) : Int) < (((l.length : Nat) : Int) : Int))))) rfl rfl rfl (fun za zC zh zk => lss_3 rfl (zh.ev rfl) (zh.ev rfl) zk) ?_
          refine WL.nil (WE.sub (K' := [(0, .agg #[.int .i64 f, .slice a l.length c]), (1, .func (.func 47) #[] #[.pointer (some ⟨gs, 0, none⟩)]), (2, .pointer (some ⟨g2, 0, none⟩)), (4, .pointer (some ⟨g10, 0, none⟩)), (5, .pointer none), (6, .pointer (some ⟨g30, 0, none⟩)), (11, .bool ((decide ((f : Int) < (0 : Int))))), (18, .bool false), (29, .bool ((decide ((0 : Int) < (((l.length : Nat) : Int) : Int))))), (36, .slice a l.length c), (37, .int .i64 (((l.length : Nat) : Int))), (38, .int .i64 (((k : Nat) : Int))), (39, .bool ((decide ((((k : Nat) : Int) : Int) < (((l.length : Nat) : Int) : Int)))))]) ⟨rfl, rfl, rfl, rfl, rfl, rfl, rfl, rfl, rfl, rfl, rfl, rfl, rfl, trivial⟩ ?_)
          refine WE.next ?_
          refine WC.seq ?_
          refine WC.cond rfl (fun h91 => ?_) (fun h91 => ?_)
          · have h91 : (((k : Nat) : Int) : Int) < (((l.length : Nat) : Int) : Int) := by simpa using h91
            refine WC.skip ?_
            refine WE.next ?_
            refine WC.seq ?_
            refine WC.block ?_
            refine WC.seq ?_
            refine WC.region ?_
            refine WL.val (.int .i64 (((k : Nat) : Int))) rfl rfl rfl (fun za zC zh zk => wp_move rfl (zh.ev rfl) zk) ?_
            obtain ⟨b92, o93, A94, C95, ha96, hc97⟩ := IsTs.open hl
            refine WL.val (.pointer (some ⟨b92, o93 + k * 2, none⟩)) rfl rfl rfl (fun za zC zh zk => ix_30 (k := k) rfl (zh.ev rfl) (ha96 k (by first | omega | (simp; omega))) (zh.ev rfl) (by first | omega | (simp; omega)) zk) ?_
            refine WL.val (.agg #[.int .i64 ((tget l k).f), .slice ((A94 k)) ((tget l k).args.length) ((C95 k))]) rfl rfl rfl (fun za zC zh zk => ld_32 rfl (zh.ev rfl) (bkeeps hb85 _ _ (hc97 k (by first | omega | (simp; omega))).1) (bkeeps hb85 _ _ (hc97 k (by first | omega | (simp; omega))).2.1) zk) ?_
            refine WL.step (post := NewBlk w84 32 #[.int .i64 0, .slice none 0 0]) rfl rfl rfl (fun za zC zh zk => alloc_32 rfl (zk _ _ (newBlk _ _ _))) ?_
            rintro _ w98 ⟨g99, rfl, hg100, hB101, hb102, hz103⟩
            have hl104 : gs < g99 := by have z1 := hB86.lt; omega
            have hl105 : g2 < g99 := by have z1 := hB87.lt; omega
            have hl106 : g10 < g99 := by have z1 := hB88.lt; omega
            have hl107 : g30 < g99 := by have z1 := hB89.lt; omega
            have hl108 : w.heap.size ≤ g99 := by have z2 := (hb85).size; omega
            have hl109 : w84.heap.size ≤ g99 := by omega
            refine WL.val (.int .i64 (((k : Nat) : Int))) rfl rfl rfl (fun za zC zh zk => wp_assign rfl (zh.ev rfl) zk) ?_
            refine WL.step (post := fun _ w' => Upd g99 w98 w' ∧ Blk w' g99 32 #[.int .i64 ((tget l k).f), .slice ((A94 k)) ((tget l k).args.length) ((C95 k))]) rfl rfl rfl (fun za zC zh zk => st_32 rfl (zh.ev rfl) (zh.ev rfl) rfl rfl hB101 (by first | decide | simp) (fun v => zk v _ ⟨(Upd.at_ _ _ _ _).trans (Upd.at_ _ _ _ _), (hB101.set_ 0 _).set_ 1 _⟩)) ?_
            rintro v113 w110 ⟨hu111, hB112⟩
            have hb114 : Below w.heap.size w w98 := (bstep hb85 hb102)
            have hb115 := upd_below hb114 hu111 (by omega)
            have hb116 := upd_below hb102 hu111 (by omega)
            have hB117 := hB86.below hb102
            have hB118 := upd_blk hB117 hu111 (by omega)
            have hB119 := hB87.below hb102
            have hB120 := upd_blk hB119 hu111 (by omega)
            have hB121 := hB88.below hb102
            have hB122 := upd_blk hB121 hu111 (by omega)
            have hB123 := hB89.below hb102
            have hB124 := upd_blk hB123 hu111 (by omega)
            refine WL.nil (WE.sub (K' := [(0, .agg #[.int .i64 f, .slice a l.length c]), (1, .func (.func 47) #[] #[.pointer (some ⟨gs, 0, none⟩)]), (2, .pointer (some ⟨g2, 0, none⟩)), (4, .pointer (some ⟨g10, 0, none⟩)), (5, .pointer none), (6, .pointer (some ⟨g30, 0, none⟩)), (7, .int .i64 (((k : Nat) : Int))), (8, .pointer (some ⟨g99, 0, none⟩)), (11, .bool ((decide ((f : Int) < (0 : Int))))), (18, .bool false), (29, .bool ((decide ((0 : Int) < (((l.length : Nat) : Int) : Int))))), (36, .slice a l.length c), (37, .int .i64 (((l.length : Nat) : Int))), (38, .int .i64 (((k : Nat) : Int))), (39, .bool ((decide ((((k : Nat) : Int) : Int) < (((l.length : Nat) : Int) : Int)))))]) ⟨rfl, rfl, rfl, rfl, rfl, rfl, rfl, rfl, rfl, rfl, rfl, rfl, rfl, rfl, rfl, trivial⟩ ?_)
            refine WE.next ?_
            have ho125 := ho90.below hb116
            have hSlt : ∀ b, (fun b => b = g57) b → b < w110.heap.size := fun b e => e ▸ ho125.lt
            have hgl : g57 < w110.heap.size := ho125.lt
            refine WC.tail1 (S := ((fun b => b = g57))) [(true, .val (.pointer (some ⟨g30, 1, none⟩))), (true, .val (.slice ((some ⟨g57, 0, none⟩)) l.length l.length)), (true, .val (.int .i64 (((k : Nat) : Int)))), (true, .val (.agg #[.int .i64 ((tget l k).f), .slice ((A94 k)) ((tget l k).args.length) ((C95 k))])), (true, .val (.func (.func 47) #[] #[.pointer (some ⟨gs, 0, none⟩)])), (true, .mem (fun v w' => NewT w110 w' (((tget l k).app s)) v) (fun v w w' hc h => InT.chg h hc (fun b hb hs => by have z := hSlt b hs; omega))), (true, .val (.pointer (some ⟨g57, 0 + k * 2, none⟩))), (true, .val undef)] [(0, .agg #[.int .i64 f, .slice a l.length c]), (1, .func (.func 47) #[] #[.pointer (some ⟨gs, 0, none⟩)]), (2, .pointer (some ⟨g2, 0, none⟩)), (4, .pointer (some ⟨g10, 0, none⟩)), (5, .pointer none), (6, .pointer (some ⟨g30, 0, none⟩)), (7, .int .i64 (((k : Nat) : Int))), (8, .pointer (some ⟨g99, 0, none⟩)), (11, .bool ((decide ((f : Int) < (0 : Int))))), (18, .bool false), (29, .bool ((decide ((0 : Int) < (((l.length : Nat) : Int) : Int))))), (36, .slice a l.length c), (37, .int .i64 (((l.length : Nat) : Int))), (38, .int .i64 (((k : Nat) : Int))), (39, .bool ((decide ((((k : Nat) : Int) : Int) < (((l.length : Nat) : Int) : Int)))))] 7 (fun w => MRow eltT w g57 g57 32 l.length (madeCells (Value.cells (.agg #[.int .i64 0, .slice none 0 0])) (l.length * 2)).toList (((l.take k).map (T.app s) ++ [(tget l k).app s]))) (fun w w' hb h => h.below hb) ⟨rfl, rfl, rfl, rfl, rfl, rfl, rfl, rfl, rfl, rfl, rfl, rfl, rfl, rfl, rfl, trivial⟩ (by kernel_rfl) (by kernel_rfl) (by kernel_rfl) (by kernel_rfl) ?_ ?_
            · refine ⟨.inl ⟨rfl, true, .none rfl, (fun gg b h => by cases h), fun h w => optUndef h, fun zβ za zw zc => ?_⟩, ?_⟩
              · exact fld_32_1 rfl (zc.kn.ev rfl) ⟨_, rfl, Below.refl _ _, optDef zβ rfl⟩
              refine ⟨.inl ⟨rfl, true, .none rfl, (fun gg b h => by cases h), fun h w => optUndef h, fun zβ za zw zc => ?_⟩, ?_⟩
              · exact ld_30 rfl ((show za.eval (.tmp 43) = za.tmps.getD 43 undef from rfl).trans (optSVal (zc.dep 0 43 (by kernel_rfl) (by decide)) rfl rfl)) (bkeeps (zc.early (by kernel_rfl)) _ _ ((hB124.cell 1).trans rfl)) ⟨_, rfl, Below.refl _ _, optDef zβ rfl⟩
              refine ⟨.inl ⟨rfl, true, .none rfl, (fun gg b h => by cases h), fun h w => optUndef h, fun zβ za zw zc => ?_⟩, ?_⟩
              · exact wp_move rfl (zc.kn.ev rfl) ⟨_, rfl, Below.refl _ _, optDef zβ rfl⟩
              refine ⟨.inl ⟨rfl, true, .none rfl, (fun gg b h => by cases h), fun h w => optUndef h, fun zβ za zw zc => ?_⟩, ?_⟩
              · exact ld_32 rfl (zc.kn.ev rfl) (bkeeps (zc.early (by kernel_rfl)) _ _ ((hB112.cell 0).trans rfl)) (bkeeps (zc.early (by kernel_rfl)) _ _ ((hB112.cell 1).trans rfl)) ⟨_, rfl, Below.refl _ _, optDef zβ rfl⟩
              refine ⟨.inl ⟨rfl, true, .none rfl, (fun gg b h => by cases h), fun h w => optUndef h, fun zβ za zw zc => ?_⟩, ?_⟩
              · exact wp_move rfl (zc.kn.ev rfl) ⟨_, rfl, Below.refl _ _, optDef zβ rfl⟩
              refine ⟨.inl ⟨rfl, true, .none rfl, (fun gg b h => by cases h), fun h w => optUndef h, fun zβ za zw zc => ?_⟩, ?_⟩
              · exact wp_call (by kernel_rfl) rfl (hv2 ((show za.eval (.tmp 46) = za.tmps.getD 46 undef from rfl).trans (optSVal (zc.dep 3 46 (by kernel_rfl) (by decide)) rfl rfl)) ((show za.eval (.tmp 47) = za.tmps.getD 47 undef from rfl).trans (optSVal (zc.dep 4 47 (by kernel_rfl) (by decide)) rfl rfl))) (ih _ (tget_mem (by omega)) _ _ (size_at (by omega) hz) (IsT.below (bstep hb115 (zc.early (by kernel_rfl))) (hc97 k (by first | omega | (simp; omega))).2.2) (hs.below (bstep hb115 (zc.early (by kernel_rfl)))) (hB118.below (zc.early (by kernel_rfl)))) (fun v w' h => ⟨v, rfl, h.2, optDef zβ (InT.mono (fun b hb _ => Nat.le_trans (zc.early (by kernel_rfl)).size hb) h.1)⟩)
              refine ⟨.inl ⟨rfl, true, .none rfl, (fun gg b h => by cases h), fun h w => optUndef h, fun zβ za zw zc => ?_⟩, ?_⟩
              · exact ix_30 (k := k) rfl ((show za.eval (.tmp 44) = za.tmps.getD 44 undef from rfl).trans (optSVal (zc.dep 1 44 (by kernel_rfl) (by decide)) rfl rfl)) rfl ((show za.eval (.tmp 45) = za.tmps.getD 45 undef from rfl).trans (optSVal (zc.dep 2 45 (by kernel_rfl) (by decide)) rfl rfl)) (by first | omega | (simp; omega)) ⟨_, rfl, Below.refl _ _, optDef zβ rfl⟩
              refine ⟨.inr ⟨rfl, rfl, fun za zw zc => ?_⟩, ?_⟩
              · have zv := (optSMem (zc.dep 5 48 (by kernel_rfl) (by decide)) rfl rfl)
                obtain ⟨_, a1, c1, e1, _⟩ := zv.form
                rw [e1] at zv
                have zm := ho125.below zc.below
                obtain ⟨cs, hB, hsz⟩ := zm.blkT (k := k) (by simp; omega) (by omega)
                exact st_32 rfl ((show za.eval (.tmp 49) = za.tmps.getD 49 undef from rfl).trans (optSVal (zc.dep 6 49 (by kernel_rfl) (by decide)) rfl rfl)) ((show za.eval (.tmp 48) = za.tmps.getD 48 undef from rfl).trans e1) rfl rfl hB hsz (fun v => ⟨v, rfl, zm.storeT (k := k) (by simp; omega) (by omega) (zv.mono (fun b hb _ => by (try dsimp only at *); omega)), .ofUpd ((Upd.at_ _ _ _ _).trans (Upd.at_ _ _ _ _)) rfl⟩)
              exact trivial
            · intro za w126 zh hG127 hc128 zu
              have hb129 := chg_below hb115 hc128 (fun b hb => (by (try dsimp only at *); omega))
              have hB130 := chg_blk hB118 hc128 (by (try dsimp only at *); omega)
              have hB131 := chg_blk hB120 hc128 (by (try dsimp only at *); omega)
              have hB132 := chg_blk hB122 hc128 (by (try dsimp only at *); omega)
              have hB133 := chg_blk hB124 hc128 (by (try dsimp only at *); omega)
              have hB134 := chg_blk hB112 hc128 (by (try dsimp only at *); omega)
              clear zu
              refine (show WE _ [(0, .agg #[.int .i64 f, .slice a l.length c]), (1, .func (.func 47) #[] #[.pointer (some ⟨gs, 0, none⟩)]), (2, .pointer (some ⟨g2, 0, none⟩)), (4, .pointer (some ⟨g10, 0, none⟩)), (5, .pointer none), (6, .pointer (some ⟨g30, 0, none⟩)), (7, .int .i64 (((k : Nat) : Int))), (8, .pointer (some ⟨g99, 0, none⟩)), (11, .bool ((decide ((f : Int) < (0 : Int))))), (18, .bool false), (29, .bool ((decide ((0 : Int) < (((l.length : Nat) : Int) : Int))))), (36, .slice a l.length c), (37, .int .i64 (((l.length : Nat) : Int))), (38, .int .i64 (((k : Nat) : Int))), (39, .bool ((decide ((((k : Nat) : Int) : Int) < (((l.length : Nat) : Int) : Int)))))] w126 _ .normal from ?_) za (zh.sub ⟨rfl, rfl, rfl, rfl, rfl, rfl, rfl, rfl, rfl, rfl, rfl, rfl, rfl, rfl, rfl, trivial⟩)
              refine WE.blockNormal ?_
              refine WE.next ?_
              refine WC.region ?_
              refine WL.val (.int .i64 ((((k + 1) : Nat) : Int))) rfl rfl rfl (fun za zC zh zk => addb_3 rfl (zh.ev rfl) (zh.ev rfl) (wrap_eq (by omega) (by omega) (by omega)) zk) ?_
              refine WL.val (.int .i64 ((((k + 1) : Nat) : Int))) rfl rfl rfl (fun za zC zh zk => wp_move rfl (zh.ev rfl) zk) ?_
              refine WL.nil (WE.sub (K' := [(0, .agg #[.int .i64 f, .slice a l.length c]), (1, .func (.func 47) #[] #[.pointer (some ⟨gs, 0, none⟩)]), (2, .pointer (some ⟨g2, 0, none⟩)), (4, .pointer (some ⟨g10, 0, none⟩)), (5, .pointer none), (6, .pointer (some ⟨g30, 0, none⟩)), (7, .int .i64 (((k : Nat) : Int))), (8, .pointer (some ⟨g99, 0, none⟩)), (11, .bool ((decide ((f : Int) < (0 : Int))))), (18, .bool false), (29, .bool ((decide ((0 : Int) < (((l.length : Nat) : Int) : Int))))), (36, .slice a l.length c), (37, .int .i64 (((l.length : Nat) : Int))), (38, .int .i64 ((((k + 1) : Nat) : Int))), (39, .bool ((decide ((((k : Nat) : Int) : Int) < (((l.length : Nat) : Int) : Int)))))]) ⟨rfl, rfl, rfl, rfl, rfl, rfl, rfl, rfl, rfl, rfl, rfl, rfl, rfl, rfl, rfl, trivial⟩ ?_)
              refine WE.round (k + 1) ⟨rfl, rfl, rfl, rfl, rfl, rfl, rfl, rfl, rfl, rfl, rfl, rfl, trivial⟩ ?_ ?_
              · exact ⟨by omega, hb129, hB130, hB131, hB132, hB133, (by rw [← take_map (by omega)]; exact hG127)⟩
              · omega
          · have h91 : ¬ ((((k : Nat) : Int) : Int) < (((l.length : Nat) : Int) : Int)) := by simpa using h91
            refine WC.exit ?_
            refine WE.thenExit ?_
            refine WE.thenExit ?_
            refine WE.blockIs rfl ?_
            refine WE.next ?_
            refine WC.seq ?_
            refine WC.region ?_
            refine WL.val (.agg #[.int .i64 f, .slice ((some ⟨g57, 0, none⟩)) l.length l.length]) rfl rfl rfl (fun za zC zh zk => ld_32 rfl (zh.ev rfl) ((hB89.cell 0).trans rfl) ((hB89.cell 1).trans rfl) zk) ?_
            refine WL.step (post := fun _ w' => Upd g10 w84 w' ∧ Blk w' g10 32 #[.int .i64 f, .slice ((some ⟨g57, 0, none⟩)) l.length l.length]) rfl rfl rfl (fun za zC zh zk => st_32 rfl (zh.ev rfl) (zh.ev rfl) rfl rfl hB88 (by first | decide | simp) (fun v => zk v _ ⟨(Upd.at_ _ _ _ _).trans (Upd.at_ _ _ _ _), (hB88.set_ 0 _).set_ 1 _⟩)) ?_
            rintro v138 w135 ⟨hu136, hB137⟩
            have hb139 := upd_below hb85 hu136 (by omega)
            have hB140 := upd_blk hB86 hu136 (by omega)
            have hB141 := upd_blk hB87 hu136 (by omega)
            have hB142 := upd_blk hB89 hu136 (by omega)
            have ho143 := ho90.upd hu136 (by omega)
            refine WL.nil (WE.sub (K' := [(0, .agg #[.int .i64 f, .slice a l.length c]), (1, .func (.func 47) #[] #[.pointer (some ⟨gs, 0, none⟩)]), (2, .pointer (some ⟨g2, 0, none⟩)), (4, .pointer (some ⟨g10, 0, none⟩)), (5, .pointer none), (6, .pointer (some ⟨g30, 0, none⟩)), (11, .bool ((decide ((f : Int) < (0 : Int))))), (18, .bool false), (29, .bool ((decide ((0 : Int) < (((l.length : Nat) : Int) : Int))))), (36, .slice a l.length c), (37, .int .i64 (((l.length : Nat) : Int))), (38, .int .i64 (((k : Nat) : Int))), (39, .bool ((decide ((((k : Nat) : Int) : Int) < (((l.length : Nat) : Int) : Int)))))]) ⟨rfl, rfl, rfl, rfl, rfl, rfl, rfl, rfl, rfl, rfl, rfl, rfl, rfl, trivial⟩ ?_)
            refine WE.next ?_
            refine WC.ret ?_
            refine WE.retAny (v := .agg #[.int .i64 f, .slice ((some ⟨g57, 0, none⟩)) l.length l.length]) (fun za zh => ?_) ?_
            · have z0 : za.tmps[4]?.getD undef = .pointer (some ⟨g10, 0, none⟩) := by rw [← Array.getD_eq_getD_getElem?]; exact zh.knows 4 _ rfl
              have y0 : w135.cell? ⟨g10, 0, none⟩ = some (.int .i64 f) := ((hB137.cell 0).trans rfl)
              have y1 : w135.cell? ⟨g10, 1, none⟩ = some (.slice ((some ⟨g57, 0, none⟩)) l.length l.length) := ((hB137.cell 1).trans rfl)
              simp [results, Try.results46, z0, y0, y1, go_sem]
            · have z := ho143
              rw [List.take_of_length_le (by omega)] at z
              have hgz := (hb139).size
              exact ⟨_, rfl, by rw [app_none (fun _ => hf24)]; exact newT_mk hf (by simp) (Nat.le_refl _) (by unfold maxLen; omega) (z.inRow.mono (by decide) (fun b hb _ => by omega)), hb139⟩
      · have h55 : ¬ ((0 : Int) < (((l.length : Nat) : Int) : Int)) := by simpa using h55
        refine WC.skip ?_
        refine WE.next ?_
        refine WC.seq ?_
        refine WC.seq ?_
        refine WC.region ?_
        refine WL.val (.pointer (some ⟨g2, 1, none⟩)) rfl rfl rfl (fun za zC zh zk => fld_32_1 rfl (zh.ev rfl) zk) ?_
        refine WL.val (.slice a l.length c) rfl rfl rfl (fun za zC zh zk => ld_30 rfl (zh.ev rfl) ((hB52.cell 1).trans rfl) zk) ?_
        refine WL.val (.int .i64 (((l.length : Nat) : Int))) rfl rfl rfl (fun za zC zh zk => len_30 rfl (zh.ev rfl) zk) ?_
        refine WL.val (.int .i64 0) rfl rfl rfl (fun za zC zh zk => wp_move rfl (zh.ev rfl) zk) ?_
        refine WL.nil (WE.sub (K' := [(0, .agg #[.int .i64 f, .slice a l.length c]), (1, .func (.func 47) #[] #[.pointer (some ⟨gs, 0, none⟩)]), (2, .pointer (some ⟨g2, 0, none⟩)), (4, .pointer (some ⟨g10, 0, none⟩)), (5, .pointer none), (6, .pointer (some ⟨g30, 0, none⟩)), (11, .bool ((decide ((f : Int) < (0 : Int))))), (18, .bool false), (29, .bool ((decide ((0 : Int) < (((l.length : Nat) : Int) : Int))))), (36, .slice a l.length c), (37, .int .i64 (((l.length : Nat) : Int))), (38, .int .i64 0)]) ⟨rfl, rfl, rfl, rfl, rfl, rfl, rfl, rfl, rfl, rfl, rfl, rfl, trivial⟩ ?_)
        refine WE.next ?_
        refine WC.block ?_
        refine WC.loop (X := Unit) (fun _ => 0) (fun _ => [(0, .agg #[.int .i64 f, .slice a l.length c]), (1, .func (.func 47) #[] #[.pointer (some ⟨gs, 0, none⟩)]), (2, .pointer (some ⟨g2, 0, none⟩)), (4, .pointer (some ⟨g10, 0, none⟩)), (5, .pointer none), (6, .pointer (some ⟨g30, 0, none⟩)), (11, .bool ((decide ((f : Int) < (0 : Int))))), (18, .bool false), (29, .bool ((decide ((0 : Int) < (((l.length : Nat) : Int) : Int))))), (36, .slice a l.length c), (37, .int .i64 (((l.length : Nat) : Int))), (38, .int .i64 0)]) (fun _ w144 => True ∧ Below w.heap.size w w144 ∧ Below w20.heap.size w20 w144 ∧ Blk w144 gs 23 #[.slice sa s.length sc] ∧ Blk w144 g2 32 #[.int .i64 f, .slice a l.length c] ∧ Blk w144 g10 32 #[.int .i64 0, .slice none 0 0] ∧ Blk w144 g30 32 #[.int .i64 f, .slice none 0 0]) (()) ⟨rfl, rfl, rfl, rfl, rfl, rfl, rfl, rfl, rfl, rfl, rfl, rfl, trivial⟩ ?_ ?_
        · exact ⟨trivial, hb46, hb47, hB50, hB52, hB54, hB43⟩
        · rintro _ w144 ⟨_, hb145, hb146, hB147, hB148, hB149, hB150⟩
          refine WC.seq ?_
          refine WC.region ?_
          refine WL.val (.bool ((decide ((0 : Int) < (((l.length : Nat) : Int) : Int))))) rfl rfl rfl (fun za zC zh zk => lss_3 rfl (zh.ev rfl) (zh.ev rfl) zk) ?_
          refine WL.nil (WE.sub (K' := [(0, .agg #[.int .i64 f, .slice a l.length c]), (1, .func (.func 47) #[] #[.pointer (some ⟨gs, 0, none⟩)]), (2, .pointer (some ⟨g2, 0, none⟩)), (4, .pointer (some ⟨g10, 0, none⟩)), (5, .pointer none), (6, .pointer (some ⟨g30, 0, none⟩)), (11, .bool ((decide ((f : Int) < (0 : Int))))), (18, .bool false), (29, .bool ((decide ((0 : Int) < (((l.length : Nat) : Int) : Int))))), (36, .slice a l.length c), (37, .int .i64 (((l.length : Nat) : Int))), (38, .int .i64 0), (39, .bool ((decide ((0 : Int) < (((l.length : Nat) : Int) : Int)))))]) ⟨rfl, rfl, rfl, rfl, rfl, rfl, rfl, rfl, rfl, rfl, rfl, rfl, rfl, trivial⟩ ?_)
          refine WE.next ?_
          refine WC.seq ?_
          refine WC.condF rfl (decide_eq_false (by omega)) ?_
          refine WC.exit ?_
          refine WE.thenExit ?_
          refine WE.thenExit ?_
          refine WE.blockIs rfl ?_
          refine WE.next ?_
          refine WC.seq ?_
          refine WC.region ?_
          refine WL.val (.agg #[.int .i64 f, .slice none 0 0]) rfl rfl rfl (fun za zC zh zk => ld_32 rfl (zh.ev rfl) ((hB150.cell 0).trans rfl) ((hB150.cell 1).trans rfl) zk) ?_
          refine WL.step (post := fun _ w' => Upd g10 w144 w' ∧ Blk w' g10 32 #[.int .i64 f, .slice none 0 0]) rfl rfl rfl (fun za zC zh zk => st_32 rfl (zh.ev rfl) (zh.ev rfl) rfl rfl hB149 (by first | decide | simp) (fun v => zk v _ ⟨(Upd.at_ _ _ _ _).trans (Upd.at_ _ _ _ _), (hB149.set_ 0 _).set_ 1 _⟩)) ?_
          rintro v154 w151 ⟨hu152, hB153⟩
          have hb155 := upd_below hb145 hu152 (by omega)
          have hB156 := upd_blk hB147 hu152 (by omega)
          have hB157 := upd_blk hB148 hu152 (by omega)
          have hB158 := upd_blk hB150 hu152 (by omega)
          refine WL.nil (WE.sub (K' := [(0, .agg #[.int .i64 f, .slice a l.length c]), (1, .func (.func 47) #[] #[.pointer (some ⟨gs, 0, none⟩)]), (2, .pointer (some ⟨g2, 0, none⟩)), (4, .pointer (some ⟨g10, 0, none⟩)), (5, .pointer none), (6, .pointer (some ⟨g30, 0, none⟩)), (11, .bool ((decide ((f : Int) < (0 : Int))))), (18, .bool false), (29, .bool ((decide ((0 : Int) < (((l.length : Nat) : Int) : Int))))), (36, .slice a l.length c), (37, .int .i64 (((l.length : Nat) : Int))), (38, .int .i64 0), (39, .bool ((decide ((0 : Int) < (((l.length : Nat) : Int) : Int)))))]) ⟨rfl, rfl, rfl, rfl, rfl, rfl, rfl, rfl, rfl, rfl, rfl, rfl, rfl, trivial⟩ ?_)
          refine WE.next ?_
          refine WC.ret ?_
          refine WE.retAny (v := .agg #[.int .i64 f, .slice none 0 0]) (fun za zh => ?_) ?_
          · have z0 : za.tmps[4]?.getD undef = .pointer (some ⟨g10, 0, none⟩) := by rw [← Array.getD_eq_getD_getElem?]; exact zh.knows 4 _ rfl
            have y0 : w151.cell? ⟨g10, 0, none⟩ = some (.int .i64 f) := ((hB153.cell 0).trans rfl)
            have y1 : w151.cell? ⟨g10, 1, none⟩ = some (.slice none 0 0) := ((hB153.cell 1).trans rfl)
            simp [results, Try.results46, z0, y0, y1, go_sem]
          · have e : l = [] := List.length_eq_zero_iff.1 (by omega)
            subst e
            exact ⟨_, rfl, by rw [app_none (fun _ => hf24)]; exact newT_leaf hf, hb155⟩
    · rw [hf24] at hto21
      obtain ⟨b159, o160, a161, c162, rfl, h163, h164, h165⟩ := hto21
      refine WL.val (.pointer (some ⟨b159, o160, none⟩)) rfl rfl rfl (fun za zC zh zk => wp_assign rfl (zh.ev rfl) zk) ?_
      refine WL.nil (WE.sub (K' := [(0, .agg #[.int .i64 f, .slice a l.length c]), (1, .func (.func 47) #[] #[.pointer (some ⟨gs, 0, none⟩)]), (2, .pointer (some ⟨g2, 0, none⟩)), (4, .pointer (some ⟨g10, 0, none⟩)), (5, .pointer (some ⟨b159, o160, none⟩)), (11, .bool ((decide ((f : Int) < (0 : Int)))))]) ⟨rfl, rfl, rfl, rfl, rfl, rfl, trivial⟩ ?_)
      refine WE.next ?_
      refine WC.seq ?_
      refine WC.region ?_
      refine WL.val (.pointer (some ⟨b159, o160, none⟩)) rfl rfl rfl (fun za zC zh zk => wp_move rfl (zh.ev rfl) zk) ?_
      refine WL.val (.bool true) rfl rfl rfl (fun za zC zh zk => neqp_57 rfl (zh.ev rfl) (zh.ev rfl) zk) ?_
      refine WL.nil (WE.sub (K' := [(0, .agg #[.int .i64 f, .slice a l.length c]), (1, .func (.func 47) #[] #[.pointer (some ⟨gs, 0, none⟩)]), (2, .pointer (some ⟨g2, 0, none⟩)), (4, .pointer (some ⟨g10, 0, none⟩)), (5, .pointer (some ⟨b159, o160, none⟩)), (11, .bool ((decide ((f : Int) < (0 : Int))))), (18, .bool true)]) ⟨rfl, rfl, rfl, rfl, rfl, rfl, rfl, trivial⟩ ?_)
      refine WE.next ?_
      refine WC.condT rfl rfl ?_
      refine WC.seq ?_
      refine WC.region ?_
      refine WL.val (.pointer (some ⟨b159, o160, none⟩)) rfl rfl rfl (fun za zC zh zk => wp_move rfl (zh.ev rfl) zk) ?_
      refine WL.val (.pointer (some ⟨b159, o160, none⟩)) rfl rfl rfl (fun za zC zh zk => nilCheck_ rfl (zh.ev rfl) zk) ?_
      refine WL.val (.agg #[.int .i64 t23.f, .slice a161 t23.args.length c162]) rfl rfl rfl (fun za zC zh zk => ld_32 rfl (zh.ev rfl) h163 h164 zk) ?_
      have hl169 : gs < w20.heap.size := by have z1 := hB26.lt; have z2 := (hb22).size; omega
      have hl170 : g2 < w20.heap.size := by have z1 := hB18.lt; have z2 := (hb22).size; omega
      have hl171 : g10 < w20.heap.size := by have z1 := hB12.lt; have z2 := (hb22).size; omega
      have hb173 : Below w.heap.size w w20 := (bstep hb25 hb22)
      have hl172 : w.heap.size ≤ w20.heap.size := (hb173).size
      refine WL.call rfl rfl rfl (fun za zh zC => wp_call (by kernel_rfl) rfl (hv1 (zh.ev rfl))) (copy_any t23 _ _ (hs.found hf24) (IsT.below (Below.refl _ _) h165)) ?_
      rintro v166 w174 ⟨hn167, hb168⟩
      obtain ⟨_, a175, c176, rfl, _, _, _⟩ := hn167.form
      have hb178 : Below w9.heap.size w9 w174 := (bstep hb22 hb168)
      have hB177 := hB12.below hb178
      refine WL.step (post := fun _ w' => Upd g10 w174 w' ∧ Blk w' g10 32 #[.int .i64 t23.f, .slice a175 t23.args.length c176]) rfl rfl rfl (fun za zC zh zk => st_32 rfl (zh.ev rfl) (zh.ev rfl) rfl rfl hB177 (by first | decide | simp) (fun v => zk v _ ⟨(Upd.at_ _ _ _ _).trans (Upd.at_ _ _ _ _), (hB177.set_ 0 _).set_ 1 _⟩)) ?_
      rintro v182 w179 ⟨hu180, hB181⟩
      have hb183 : Below w.heap.size w w174 := (bstep hb25 hb178)
      have hb184 := upd_below hb183 hu180 (by omega)
      have hB185 := hB26.below hb178
      have hB186 := upd_blk hB185 hu180 (by omega)
      have hB187 := hB18.below hb178
      have hB188 := upd_blk hB187 hu180 (by omega)
      have ho189 := hn167.upd hu180 (by omega)
      refine WL.nil (WE.sub (K' := [(0, .agg #[.int .i64 f, .slice a l.length c]), (1, .func (.func 47) #[] #[.pointer (some ⟨gs, 0, none⟩)]), (2, .pointer (some ⟨g2, 0, none⟩)), (4, .pointer (some ⟨g10, 0, none⟩)), (5, .pointer (some ⟨b159, o160, none⟩)), (11, .bool ((decide ((f : Int) < (0 : Int))))), (18, .bool true)]) ⟨rfl, rfl, rfl, rfl, rfl, rfl, rfl, trivial⟩ ?_)
      refine WE.next ?_
      refine WC.ret ?_
      refine WE.thenRet ?_
      refine WE.retAny (v := .agg #[.int .i64 t23.f, .slice a175 t23.args.length c176]) (fun za zh => ?_) ?_
      · have z0 : za.tmps[4]?.getD undef = .pointer (some ⟨g10, 0, none⟩) := by rw [← Array.getD_eq_getD_getElem?]; exact zh.knows 4 _ rfl
        have y0 : w179.cell? ⟨g10, 0, none⟩ = some (.int .i64 t23.f) := ((hB181.cell 0).trans rfl)
        have y1 : w179.cell? ⟨g10, 1, none⟩ = some (.slice a175 t23.args.length c176) := ((hB181.cell 1).trans rfl)
        simp [results, Try.results46, z0, y0, y1, go_sem]
      · have z := ho189
        have hgz := (hb173).size
        exact ⟨_, rfl, by rw [app_some ‹_› hf24]; exact z.mono (fun b hb _ => by omega), hb184⟩
  · have h19 : ¬ ((f : Int) < (0 : Int)) := by simpa using h19
    refine WC.skip ?_
    refine WE.next ?_
    refine WC.seq ?_
    refine WC.region ?_
    refine WL.val (.pointer (some ⟨g2, 0, none⟩)) rfl rfl rfl (fun za zC zh zk => fld_32_0 rfl (zh.ev rfl) zk) ?_
    refine WL.val (.int .i64 f) rfl rfl rfl (fun za zC zh zk => ld_3 rfl (zh.ev rfl) ((hB18.cell 0).trans rfl) zk) ?_
    refine WL.val (.agg #[.int .i64 f, .slice none 0 0]) rfl rfl rfl (fun za zC zh zk => build_32_0 rfl (zh.ev rfl) zk) ?_
    refine WL.step (post := NewBlk w9 32 #[.int .i64 0, .slice none 0 0]) rfl rfl rfl (fun za zC zh zk => alloc_32 rfl (zk _ _ (newBlk _ _ _))) ?_
    rintro _ w190 ⟨g191, rfl, hg192, hB193, hb194, hz195⟩
    have hb196 : Below w.heap.size w w9 := (bstep hb5 hb13)
    have hl197 : gs < g191 := by have z1 := hgs.lt; have z2 := (hb196).size; omega
    have hl198 : g2 < g191 := by have z1 := hB18.lt; omega
    have hl199 : g10 < g191 := by have z1 := hB12.lt; omega
    have hl200 : w.heap.size ≤ g191 := by have z2 := (hb196).size; omega
    refine WL.step (post := fun _ w' => Upd g191 w190 w' ∧ Blk w' g191 32 #[.int .i64 f, .slice none 0 0]) rfl rfl rfl (fun za zC zh zk => st_32 rfl (zh.ev rfl) (zh.ev rfl) rfl rfl hB193 (by first | decide | simp) (fun v => zk v _ ⟨(Upd.at_ _ _ _ _).trans (Upd.at_ _ _ _ _), (hB193.set_ 0 _).set_ 1 _⟩)) ?_
    rintro v204 w201 ⟨hu202, hB203⟩
    have hb205 : Below w.heap.size w w190 := (bstep hb196 hb194)
    have hb206 := upd_below hb205 hu202 (by omega)
    have hB207 := hgs.below hb205
    have hB208 := upd_blk hB207 hu202 (by omega)
    have hB209 := hB18.below hb194
    have hB210 := upd_blk hB209 hu202 (by omega)
    have hB211 := hB12.below hb194
    have hB212 := upd_blk hB211 hu202 (by omega)
    refine WL.nil (WE.sub (K' := [(0, .agg #[.int .i64 f, .slice a l.length c]), (1, .func (.func 47) #[] #[.pointer (some ⟨gs, 0, none⟩)]), (2, .pointer (some ⟨g2, 0, none⟩)), (4, .pointer (some ⟨g10, 0, none⟩)), (6, .pointer (some ⟨g191, 0, none⟩)), (11, .bool ((decide ((f : Int) < (0 : Int)))))]) ⟨rfl, rfl, rfl, rfl, rfl, rfl, trivial⟩ ?_)
    refine WE.next ?_
    refine WC.seq ?_
    refine WC.seq ?_
    refine WC.region ?_
    refine WL.val (.pointer (some ⟨g2, 1, none⟩)) rfl rfl rfl (fun za zC zh zk => fld_32_1 rfl (zh.ev rfl) zk) ?_
    refine WL.val (.slice a l.length c) rfl rfl rfl (fun za zC zh zk => ld_30 rfl (zh.ev rfl) ((hB210.cell 1).trans rfl) zk) ?_
    refine WL.val (.int .i64 (((l.length : Nat) : Int))) rfl rfl rfl (fun za zC zh zk => len_30 rfl (zh.ev rfl) zk) ?_
    refine WL.val (.bool ((decide ((0 : Int) < (((l.length : Nat) : Int) : Int))))) rfl rfl rfl (fun za zC zh zk => gtr_3 rfl (zh.ev rfl) (zh.ev rfl) zk) ?_
    refine WL.nil (WE.sub (K' := [(0, .agg #[.int .i64 f, .slice a l.length c]), (1, .func (.func 47) #[] #[.pointer (some ⟨gs, 0, none⟩)]), (2, .pointer (some ⟨g2, 0, none⟩)), (4, .pointer (some ⟨g10, 0, none⟩)), (6, .pointer (some ⟨g191, 0, none⟩)), (11, .bool ((decide ((f : Int) < (0 : Int))))), (29, .bool ((decide ((0 : Int) < (((l.length : Nat) : Int) : Int)))))]) ⟨rfl, rfl, rfl, rfl, rfl, rfl, rfl, trivial⟩ ?_)
    refine WE.next ?_
    refine WC.cond rfl (fun h213 => ?_) (fun h213 => ?_)
    · have h213 : (0 : Int) < (((l.length : Nat) : Int) : Int) := by simpa using h213
      refine WC.region ?_
      refine WL.val (.pointer (some ⟨g2, 1, none⟩)) rfl rfl rfl (fun za zC zh zk => fld_32_1 rfl (zh.ev rfl) zk) ?_
      refine WL.val (.slice a l.length c) rfl rfl rfl (fun za zC zh zk => ld_30 rfl (zh.ev rfl) ((hB210.cell 1).trans rfl) zk) ?_
      refine WL.val (.int .i64 (((l.length : Nat) : Int))) rfl rfl rfl (fun za zC zh zk => len_30 rfl (zh.ev rfl) zk) ?_
      refine WL.step (post := fun v w' => ∃ g, v = .slice (some ⟨g, 0, none⟩) l.length l.length ∧ w201.heap.size = g ∧ Blk w' g 32 (madeCells (Value.cells (.agg #[.int .i64 0, .slice none 0 0])) (l.length * 2)) ∧ Below w201.heap.size w201 w') rfl rfl rfl (fun za zC zh zk => wp_mkE (z := .agg #[.int .i64 0, .slice none 0 0]) (size := 2) (bytes := 32) Try.underlying30 (by kernel_rfl) (by decide) rfl (zh.ev rfl) (zh.ev rfl) (by omega) (zk _ _ ⟨_, rfl, rfl, Blk.new' rfl, balloc _ _⟩)) ?_
      rintro _ w214 ⟨g215, rfl, hg216, hB217, hb218⟩
      have hl220 : gs < g215 := by have z1 := hB208.lt; omega
      have hl221 : g2 < g215 := by have z1 := hB210.lt; omega
      have hl222 : g10 < g215 := by have z1 := hB212.lt; omega
      have hl223 : g191 < g215 := by have z1 := hB203.lt; omega
      have hl224 : w.heap.size ≤ g215 := by have z2 := (hb206).size; omega
      have hM219 : MRow eltT w214 g215 g215 32 l.length (madeCells (Value.cells (.agg #[.int .i64 0, .slice none 0 0])) (l.length * 2)).toList [] := MRow.startT hB217 (Nat.le_refl _)
      refine WL.val (.pointer (some ⟨g191, 1, none⟩)) rfl rfl rfl (fun za zC zh zk => fld_32_1 rfl (zh.ev rfl) zk) ?_
      have hB225 := hB203.below hb218
      refine WL.step (post := fun _ w' => Upd g191 w214 w' ∧ Blk w' g191 32 #[.int .i64 f, .slice ((some ⟨g215, 0, none⟩)) l.length l.length]) rfl rfl rfl (fun za zC zh zk => st_30 rfl (zh.ev rfl) (zh.ev rfl) hB225 (by first | decide | simp) (fun v => zk v _ ⟨Upd.at_ _ _ _ _, hB225.set_ 1 _⟩)) ?_
      rintro v229 w226 ⟨hu227, hB228⟩
      have hb230 : Below w.heap.size w w214 := (bstep hb206 hb218)
      have hb231 := upd_below hb230 hu227 (by omega)
      have hB232 := hB208.below hb218
      have hB233 := upd_blk hB232 hu227 (by omega)
      have hB234 := hB210.below hb218
      have hB235 := upd_blk hB234 hu227 (by omega)
      have hB236 := hB212.below hb218
      have hB237 := upd_blk hB236 hu227 (by omega)
      have ho238 := hM219.upd hu227 (by omega)
      refine WL.nil (WE.sub (K' := [(0, .agg #[.int .i64 f, .slice a l.length c]), (1, .func (.func 47) #[] #[.pointer (some ⟨gs, 0, none⟩)]), (2, .pointer (some ⟨g2, 0, none⟩)), (4, .pointer (some ⟨g10, 0, none⟩)), (6, .pointer (some ⟨g191, 0, none⟩)), (11, .bool ((decide ((f : Int) < (0 : Int))))), (29, .bool ((decide ((0 : Int) < (((l.length : Nat) : Int) : Int)))))]) ⟨rfl, rfl, rfl, rfl, rfl, rfl, rfl, trivial⟩ ?_)
      refine WE.next ?_
      refine WC.seq ?_
      refine WC.seq ?_
      refine WC.region ?_
      refine WL.val (.pointer (some ⟨g2, 1, none⟩)) rfl rfl rfl (fun za zC zh zk => fld_32_1 rfl (zh.ev rfl) zk) ?_
      refine WL.val (.slice a l.length c) rfl rfl rfl (fun za zC zh zk => ld_30 rfl (zh.ev rfl) ((hB235.cell 1).trans rfl) zk) ?_
      refine WL.val (.int .i64 (((l.length : Nat) : Int))) rfl rfl rfl (fun za zC zh zk => len_30 rfl (zh.ev rfl) zk) ?_
      refine WL.val (.int .i64 0) rfl rfl rfl (fun za zC zh zk => wp_move rfl (zh.ev rfl) zk) ?_
      refine WL.nil (WE.sub (K' := [(0, .agg #[.int .i64 f, .slice a l.length c]), (1, .func (.func 47) #[] #[.pointer (some ⟨gs, 0, none⟩)]), (2, .pointer (some ⟨g2, 0, none⟩)), (4, .pointer (some ⟨g10, 0, none⟩)), (6, .pointer (some ⟨g191, 0, none⟩)), (11, .bool ((decide ((f : Int) < (0 : Int))))), (29, .bool ((decide ((0 : Int) < (((l.length : Nat) : Int) : Int))))), (36, .slice a l.length c), (37, .int .i64 (((l.length : Nat) : Int))), (38, .int .i64 0)]) ⟨rfl, rfl, rfl, rfl, rfl, rfl, rfl, rfl, rfl, rfl, trivial⟩ ?_)
      refine WE.next ?_
      refine WC.block ?_
      refine WC.loop (X := Nat) (fun k => l.length - k) (fun k => [(0, .agg #[.int .i64 f, .slice a l.length c]), (1, .func (.func 47) #[] #[.pointer (some ⟨gs, 0, none⟩)]), (2, .pointer (some ⟨g2, 0, none⟩)), (4, .pointer (some ⟨g10, 0, none⟩)), (6, .pointer (some ⟨g191, 0, none⟩)), (11, .bool ((decide ((f : Int) < (0 : Int))))), (29, .bool ((decide ((0 : Int) < (((l.length : Nat) : Int) : Int))))), (36, .slice a l.length c), (37, .int .i64 (((l.length : Nat) : Int))), (38, .int .i64 (((k : Nat) : Int)))]) (fun k w239 => k ≤ l.length ∧ Below w.heap.size w w239 ∧ Blk w239 gs 23 #[.slice sa s.length sc] ∧ Blk w239 g2 32 #[.int .i64 f, .slice a l.length c] ∧ Blk w239 g10 32 #[.int .i64 0, .slice none 0 0] ∧ Blk w239 g191 32 #[.int .i64 f, .slice ((some ⟨g215, 0, none⟩)) l.length l.length] ∧ MRow eltT (w239) g215 g215 32 l.length (madeCells (Value.cells (.agg #[.int .i64 0, .slice none 0 0])) (l.length * 2)).toList ((l.take k).map (T.app s))) 0 ⟨rfl, rfl, rfl, rfl, rfl, rfl, rfl, rfl, rfl, rfl, trivial⟩ ?_ ?_
      · exact ⟨Nat.zero_le _, hb231, hB233, hB235, hB237, hB228, ho238⟩
      · rintro k w239 ⟨hk, hb240, hB241, hB242, hB243, hB244, ho245⟩
        have hgl := ho245.lt
        refine WC.seq ?_
        refine WC.region ?_
        refine WL.val (.bool ((decide ((((k : Nat) : Int) : Int) < (((l.length : Nat) : Int) : Int))))) rfl rfl rfl (fun za zC zh zk => lss_3 rfl (zh.ev rfl) (zh.ev rfl) zk) ?_
        refine WL.nil (WE.sub (K' := [(0, .agg #[.int .i64 f, .slice a l.length c]), (1, .func (.func 47) #[] #[.pointer (some ⟨gs, 0, none⟩)]), (2, .pointer (some ⟨g2, 0, none⟩)), (4, .pointer (some ⟨g10, 0, none⟩)), (6, .pointer (some ⟨g191, 0, none⟩)), (11, .bool ((decide ((f : Int) < (0 : Int))))), (29, .bool ((decide ((0 : Int) < (((l.length : Nat) : Int) : Int))))), (36, .slice a l.length c), (37, .int .i64 (((l.length : Nat) : Int))), (38, .int .i64 (((k : Nat) : Int))), (39, .bool ((decide ((((k : Nat) : Int) : Int) < (((l.length : Nat) : Int) : Int)))))]) ⟨rfl, rfl, rfl, rfl, rfl, rfl, rfl, rfl, rfl, rfl, rfl, trivial⟩ ?_)
        refine WE.next ?_
        refine WC.seq ?_
        refine WC.cond rfl (fun h246 => ?_) (fun h246 => ?_)
        · have h246 : (((k : Nat) : Int) : Int) < (((l.length : Nat) : Int) : Int) := by simpa using h246
          refine WC.skip ?_
          refine WE.next ?_
          refine WC.seq ?_
          refine WC.block ?_
          refine WC.seq ?_
          refine WC.region ?_
          refine WL.val (.int .i64 (((k : Nat) : Int))) rfl rfl rfl (fun za zC zh zk => wp_move rfl (zh.ev rfl) zk) ?_
          obtain ⟨b247, o248, A249, C250, ha251, hc252⟩ := IsTs.open hl
          refine WL.val (.pointer (some ⟨b247, o248 + k * 2, none⟩)) rfl rfl rfl (fun za zC zh zk => ix_30 (k := k) rfl (zh.ev rfl) (ha251 k (by first | omega | (simp; omega))) (zh.ev rfl) (by first | omega | (simp; omega)) zk) ?_
          refine WL.val (.agg #[.int .i64 ((tget l k).f), .slice ((A249 k)) ((tget l k).args.length) ((C250 k))]) rfl rfl rfl (fun za zC zh zk => ld_32 rfl (zh.ev rfl) (bkeeps hb240 _ _ (hc252 k (by first | omega | (simp; omega))).1) (bkeeps hb240 _ _ (hc252 k (by first | omega | (simp; omega))).2.1) zk) ?_
          refine WL.step (post := NewBlk w239 32 #[.int .i64 0, .slice none 0 0]) rfl rfl rfl (fun za zC zh zk => alloc_32 rfl (zk _ _ (newBlk _ _ _))) ?_
          rintro _ w253 ⟨g254, rfl, hg255, hB256, hb257, hz258⟩
          have hl259 : gs < g254 := by have z1 := hB241.lt; omega
          have hl260 : g2 < g254 := by have z1 := hB242.lt; omega
          have hl261 : g10 < g254 := by have z1 := hB243.lt; omega
          have hl262 : g191 < g254 := by have z1 := hB244.lt; omega
          have hl263 : w.heap.size ≤ g254 := by have z2 := (hb240).size; omega
          have hl264 : w239.heap.size ≤ g254 := by omega
          refine WL.val (.int .i64 (((k : Nat) : Int))) rfl rfl rfl (fun za zC zh zk => wp_assign rfl (zh.ev rfl) zk) ?_
          refine WL.step (post := fun _ w' => Upd g254 w253 w' ∧ Blk w' g254 32 #[.int .i64 ((tget l k).f), .slice ((A249 k)) ((tget l k).args.length) ((C250 k))]) rfl rfl rfl (fun za zC zh zk => st_32 rfl (zh.ev rfl) (zh.ev rfl) rfl rfl hB256 (by first | decide | simp) (fun v => zk v _ ⟨(Upd.at_ _ _ _ _).trans (Upd.at_ _ _ _ _), (hB256.set_ 0 _).set_ 1 _⟩)) ?_
          rintro v268 w265 ⟨hu266, hB267⟩
          have hb269 : Below w.heap.size w w253 := (bstep hb240 hb257)
          have hb270 := upd_below hb269 hu266 (by omega)
          have hb271 := upd_below hb257 hu266 (by omega)
          have hB272 := hB241.below hb257
          have hB273 := upd_blk hB272 hu266 (by omega)
          have hB274 := hB242.below hb257
          have hB275 := upd_blk hB274 hu266 (by omega)
          have hB276 := hB243.below hb257
          have hB277 := upd_blk hB276 hu266 (by omega)
          have hB278 := hB244.below hb257
          have hB279 := upd_blk hB278 hu266 (by omega)
          refine WL.nil (WE.sub (K' := [(0, .agg #[.int .i64 f, .slice a l.length c]), (1, .func (.func 47) #[] #[.pointer (some ⟨gs, 0, none⟩)]), (2, .pointer (some ⟨g2, 0, none⟩)), (4, .pointer (some ⟨g10, 0, none⟩)), (6, .pointer (some ⟨g191, 0, none⟩)), (7, .int .i64 (((k : Nat) : Int))), (8, .pointer (some ⟨g254, 0, none⟩)), (11, .bool ((decide ((f : Int) < (0 : Int))))), (29, .bool ((decide ((0 : Int) < (((l.length : Nat) : Int) : Int))))), (36, .slice a l.length c), (37, .int .i64 (((l.length : Nat) : Int))), (38, .int .i64 (((k : Nat) : Int))), (39, .bool ((decide ((((k : Nat) : Int) : Int) < (((l.length : Nat) : Int) : Int)))))]) ⟨rfl, rfl, rfl, rfl, rfl, rfl, rfl, rfl, rfl, rfl, rfl, rfl, rfl, trivial⟩ ?_)
          refine WE.next ?_
          have ho280 := ho245.below hb271
          have hSlt : ∀ b, (fun b => b = g215) b → b < w265.heap.size := fun b e => e ▸ ho280.lt
          have hgl : g215 < w265.heap.size := ho280.lt
          refine WC.tail1 (S := ((fun b => b = g215))) [(true, .val (.pointer (some ⟨g191, 1, none⟩))), (true, .val (.slice ((some ⟨g215, 0, none⟩)) l.length l.length)), (true, .val (.int .i64 (((k : Nat) : Int)))), (true, .val (.agg #[.int .i64 ((tget l k).f), .slice ((A249 k)) ((tget l k).args.length) ((C250 k))])), (true, .val (.func (.func 47) #[] #[.pointer (some ⟨gs, 0, none⟩)])), (true, .mem (fun v w' => NewT w265 w' (((tget l k).app s)) v) (fun v w w' hc h => InT.chg h hc (fun b hb hs => by have z := hSlt b hs; omega))), (true, .val (.pointer (some ⟨g215, 0 + k * 2, none⟩))), (true, .val undef)] [(0, .agg #[.int .i64 f, .slice a l.length c]), (1, .func (.func 47) #[] #[.pointer (some ⟨gs, 0, none⟩)]), (2, .pointer (some ⟨g2, 0, none⟩)), (4, .pointer (some ⟨g10, 0, none⟩)), (6, .pointer (some ⟨g191, 0, none⟩)), (7, .int .i64 (((k : Nat) : Int))), (8, .pointer (some ⟨g254, 0, none⟩)), (11, .bool ((decide ((f : Int) < (0 : Int))))), (29, .bool ((decide ((0 : Int) < (((l.length : Nat) : Int) : Int))))), (36, .slice a l.length c), (37, .int .i64 (((l.length : Nat) : Int))), (38, .int .i64 (((k : Nat) : Int))), (39, .bool ((decide ((((k : Nat) : Int) : Int) < (((l.length : Nat) : Int) : Int)))))] 7 (fun w => MRow eltT w g215 g215 32 l.length (madeCells (Value.cells (.agg #[.int .i64 0, .slice none 0 0])) (l.length * 2)).toList (((l.take k).map (T.app s) ++ [(tget l k).app s]))) (fun w w' hb h => h.below hb) ⟨rfl, rfl, rfl, rfl, rfl, rfl, rfl, rfl, rfl, rfl, rfl, rfl, rfl, trivial⟩ (by kernel_rfl) (by kernel_rfl) (by kernel_rfl) (by kernel_rfl) ?_ ?_
          · refine ⟨.inl ⟨rfl, true, .none rfl, (fun gg b h => by cases h), fun h w => optUndef h, fun zβ za zw zc => ?_⟩, ?_⟩
            · exact fld_32_1 rfl (zc.kn.ev rfl) ⟨_, rfl, Below.refl _ _, optDef zβ rfl⟩
            refine ⟨.inl ⟨rfl, true, .none rfl, (fun gg b h => by cases h), fun h w => optUndef h, fun zβ za zw zc => ?_⟩, ?_⟩
            · exact ld_30 rfl ((show za.eval (.tmp 43) = za.tmps.getD 43 undef from rfl).trans (optSVal (zc.dep 0 43 (by kernel_rfl) (by decide)) rfl rfl)) (bkeeps (zc.early (by kernel_rfl)) _ _ ((hB279.cell 1).trans rfl)) ⟨_, rfl, Below.refl _ _, optDef zβ rfl⟩
            refine ⟨.inl ⟨rfl, true, .none rfl, (fun gg b h => by cases h), fun h w => optUndef h, fun zβ za zw zc => ?_⟩, ?_⟩
            · exact wp_move rfl (zc.kn.ev rfl) ⟨_, rfl, Below.refl _ _, optDef zβ rfl⟩
            refine ⟨.inl ⟨rfl, true, .none rfl, (fun gg b h => by cases h), fun h w => optUndef h, fun zβ za zw zc => ?_⟩, ?_⟩
            · exact ld_32 rfl (zc.kn.ev rfl) (bkeeps (zc.early (by kernel_rfl)) _ _ ((hB267.cell 0).trans rfl)) (bkeeps (zc.early (by kernel_rfl)) _ _ ((hB267.cell 1).trans rfl)) ⟨_, rfl, Below.refl _ _, optDef zβ rfl⟩
            refine ⟨.inl ⟨rfl, true, .none rfl, (fun gg b h => by cases h), fun h w => optUndef h, fun zβ za zw zc => ?_⟩, ?_⟩
            · exact wp_move rfl (zc.kn.ev rfl) ⟨_, rfl, Below.refl _ _, optDef zβ rfl⟩
            refine ⟨.inl ⟨rfl, true, .none rfl, (fun gg b h => by cases h), fun h w => optUndef h, fun zβ za zw zc => ?_⟩, ?_⟩
            · exact wp_call (by kernel_rfl) rfl (hv2 ((show za.eval (.tmp 46) = za.tmps.getD 46 undef from rfl).trans (optSVal (zc.dep 3 46 (by kernel_rfl) (by decide)) rfl rfl)) ((show za.eval (.tmp 47) = za.tmps.getD 47 undef from rfl).trans (optSVal (zc.dep 4 47 (by kernel_rfl) (by decide)) rfl rfl))) (ih _ (tget_mem (by omega)) _ _ (size_at (by omega) hz) (IsT.below (bstep hb270 (zc.early (by kernel_rfl))) (hc252 k (by first | omega | (simp; omega))).2.2) (hs.below (bstep hb270 (zc.early (by kernel_rfl)))) (hB273.below (zc.early (by kernel_rfl)))) (fun v w' h => ⟨v, rfl, h.2, optDef zβ (InT.mono (fun b hb _ => Nat.le_trans (zc.early (by kernel_rfl)).size hb) h.1)⟩)
            refine ⟨.inl ⟨rfl, true, .none rfl, (fun gg b h => by cases h), fun h w => optUndef h, fun zβ za zw zc => ?_⟩, ?_⟩
            · exact ix_30 (k := k) rfl ((show za.eval (.tmp 44) = za.tmps.getD 44 undef from rfl).trans (optSVal (zc.dep 1 44 (by kernel_rfl) (by decide)) rfl rfl)) rfl ((show za.eval (.tmp 45) = za.tmps.getD 45 undef from rfl).trans (optSVal (zc.dep 2 45 (by kernel_rfl) (by decide)) rfl rfl)) (by first | omega | (simp; omega)) ⟨_, rfl, Below.refl _ _, optDef zβ rfl⟩
            refine ⟨.inr ⟨rfl, rfl, fun za zw zc => ?_⟩, ?_⟩
            · have zv := (optSMem (zc.dep 5 48 (by kernel_rfl) (by decide)) rfl rfl)
              obtain ⟨_, a1, c1, e1, _⟩ := zv.form
              rw [e1] at zv
              have zm := ho280.below zc.below
              obtain ⟨cs, hB, hsz⟩ := zm.blkT (k := k) (by simp; omega) (by omega)
              exact st_32 rfl ((show za.eval (.tmp 49) = za.tmps.getD 49 undef from rfl).trans (optSVal (zc.dep 6 49 (by kernel_rfl) (by decide)) rfl rfl)) ((show za.eval (.tmp 48) = za.tmps.getD 48 undef from rfl).trans e1) rfl rfl hB hsz (fun v => ⟨v, rfl, zm.storeT (k := k) (by simp; omega) (by omega) (zv.mono (fun b hb _ => by (try dsimp only at *); omega)), .ofUpd ((Upd.at_ _ _ _ _).trans (Upd.at_ _ _ _ _)) rfl⟩)
            exact trivial
          · intro za w281 zh hG282 hc283 zu
            have hb284 := chg_below hb270 hc283 (fun b hb => (by (try dsimp only at *); omega))
            have hB285 := chg_blk hB273 hc283 (by (try dsimp only at *); omega)
            have hB286 := chg_blk hB275 hc283 (by (try dsimp only at *); omega)
            have hB287 := chg_blk hB277 hc283 (by (try dsimp only at *); omega)
            have hB288 := chg_blk hB279 hc283 (by (try dsimp only at *); omega)
            have hB289 := chg_blk hB267 hc283 (by (try dsimp only at *); omega)
            clear zu
            refine (show WE _ [(0, .agg #[.int .i64 f, .slice a l.length c]), (1, .func (.func 47) #[] #[.pointer (some ⟨gs, 0, none⟩)]), (2, .pointer (some ⟨g2, 0, none⟩)), (4, .pointer (some ⟨g10, 0, none⟩)), (6, .pointer (some ⟨g191, 0, none⟩)), (7, .int .i64 (((k : Nat) : Int))), (8, .pointer (some ⟨g254, 0, none⟩)), (11, .bool ((decide ((f : Int) < (0 : Int))))), (29, .bool ((decide ((0 : Int) < (((l.length : Nat) : Int) : Int))))), (36, .slice a l.length c), (37, .int .i64 (((l.length : Nat) : Int))), (38, .int .i64 (((k : Nat) : Int))), (39, .bool ((decide ((((k : Nat) : Int) : Int) < (((l.length : Nat) : Int) : Int)))))] w281 _ .normal from ?_) za (zh.sub ⟨rfl, rfl, rfl, rfl, rfl, rfl, rfl, rfl, rfl, rfl, rfl, rfl, rfl, trivial⟩)
            refine WE.blockNormal ?_
            refine WE.next ?_
            refine WC.region ?_
            refine WL.val (.int .i64 ((((k + 1) : Nat) : Int))) rfl rfl rfl (fun za zC zh zk => addb_3 rfl (zh.ev rfl) (zh.ev rfl) (wrap_eq (by omega) (by omega) (by omega)) zk) ?_
            refine WL.val (.int .i64 ((((k + 1) : Nat) : Int))) rfl rfl rfl (fun za zC zh zk => wp_move rfl (zh.ev rfl) zk) ?_
            refine WL.nil (WE.sub (K' := [(0, .agg #[.int .i64 f, .slice a l.length c]), (1, .func (.func 47) #[] #[.pointer (some ⟨gs, 0, none⟩)]), (2, .pointer (some ⟨g2, 0, none⟩)), (4, .pointer (some ⟨g10, 0, none⟩)), (6, .pointer (some ⟨g191, 0, none⟩)), (7, .int .i64 (((k : Nat) : Int))), (8, .pointer (some ⟨g254, 0, none⟩)), (11, .bool ((decide ((f : Int) < (0 : Int))))), (29, .bool ((decide ((0 : Int) < (((l.length : Nat) : Int) : Int))))), (36, .slice a l.length c), (37, .int .i64 (((l.length : Nat) : Int))), (38, .int .i64 ((((k + 1) : Nat) : Int))), (39, .bool ((decide ((((k : Nat) : Int) : Int) < (((l.length : Nat) : Int) : Int)))))]) ⟨rfl, rfl, rfl, rfl, rfl, rfl, rfl, rfl, rfl, rfl, rfl, rfl, rfl, trivial⟩ ?_)
            refine WE.round (k + 1) ⟨rfl, rfl, rfl, rfl, rfl, rfl, rfl, rfl, rfl, rfl, trivial⟩ ?_ ?_
            · exact ⟨by omega, hb284, hB285, hB286, hB287, hB288, (by rw [← take_map (by omega)]; exact hG282)⟩
            · omega
        · have h246 : ¬ ((((k : Nat) : Int) : Int) < (((l.length : Nat) : Int) : Int)) := by simpa using h246
          refine WC.exit ?_
          refine WE.thenExit ?_
          refine WE.thenExit ?_
          refine WE.blockIs rfl ?_
          refine WE.next ?_
          refine WC.seq ?_
          refine WC.region ?_
          refine WL.val (.agg #[.int .i64 f, .slice ((some ⟨g215, 0, none⟩)) l.length l.length]) rfl rfl rfl (fun za zC zh zk => ld_32 rfl (zh.ev rfl) ((hB244.cell 0).trans rfl) ((hB244.cell 1).trans rfl) zk) ?_
          refine WL.step (post := fun _ w' => Upd g10 w239 w' ∧ Blk w' g10 32 #[.int .i64 f, .slice ((some ⟨g215, 0, none⟩)) l.length l.length]) rfl rfl rfl (fun za zC zh zk => st_32 rfl (zh.ev rfl) (zh.ev rfl) rfl rfl hB243 (by first | decide | simp) (fun v => zk v _ ⟨(Upd.at_ _ _ _ _).trans (Upd.at_ _ _ _ _), (hB243.set_ 0 _).set_ 1 _⟩)) ?_
          rintro v293 w290 ⟨hu291, hB292⟩
          have hb294 := upd_below hb240 hu291 (by omega)
          have hB295 := upd_blk hB241 hu291 (by omega)
          have hB296 := upd_blk hB242 hu291 (by omega)
          have hB297 := upd_blk hB244 hu291 (by omega)
          have ho298 := ho245.upd hu291 (by omega)
          refine WL.nil (WE.sub (K' := [(0, .agg #[.int .i64 f, .slice a l.length c]), (1, .func (.func 47) #[] #[.pointer (some ⟨gs, 0, none⟩)]), (2, .pointer (some ⟨g2, 0, none⟩)), (4, .pointer (some ⟨g10, 0, none⟩)), (6, .pointer (some ⟨g191, 0, none⟩)), (11, .bool ((decide ((f : Int) < (0 : Int))))), (29, .bool ((decide ((0 : Int) < (((l.length : Nat) : Int) : Int))))), (36, .slice a l.length c), (37, .int .i64 (((l.length : Nat) : Int))), (38, .int .i64 (((k : Nat) : Int))), (39, .bool ((decide ((((k : Nat) : Int) : Int) < (((l.length : Nat) : Int) : Int)))))]) ⟨rfl, rfl, rfl, rfl, rfl, rfl, rfl, rfl, rfl, rfl, rfl, trivial⟩ ?_)
          refine WE.next ?_
          refine WC.ret ?_
          refine WE.retAny (v := .agg #[.int .i64 f, .slice ((some ⟨g215, 0, none⟩)) l.length l.length]) (fun za zh => ?_) ?_
          · have z0 : za.tmps[4]?.getD undef = .pointer (some ⟨g10, 0, none⟩) := by rw [← Array.getD_eq_getD_getElem?]; exact zh.knows 4 _ rfl
            have y0 : w290.cell? ⟨g10, 0, none⟩ = some (.int .i64 f) := ((hB292.cell 0).trans rfl)
            have y1 : w290.cell? ⟨g10, 1, none⟩ = some (.slice ((some ⟨g215, 0, none⟩)) l.length l.length) := ((hB292.cell 1).trans rfl)
            simp [results, Try.results46, z0, y0, y1, go_sem]
          · have z := ho298
            rw [List.take_of_length_le (by omega)] at z
            have hgz := (hb294).size
            exact ⟨_, rfl, by rw [app_none (fun h => absurd h ‹_›)]; exact newT_mk hf (by simp) (Nat.le_refl _) (by unfold maxLen; omega) (z.inRow.mono (by decide) (fun b hb _ => by omega)), hb294⟩
    · have h213 : ¬ ((0 : Int) < (((l.length : Nat) : Int) : Int)) := by simpa using h213
      refine WC.skip ?_
      refine WE.next ?_
      refine WC.seq ?_
      refine WC.seq ?_
      refine WC.region ?_
      refine WL.val (.pointer (some ⟨g2, 1, none⟩)) rfl rfl rfl (fun za zC zh zk => fld_32_1 rfl (zh.ev rfl) zk) ?_
      refine WL.val (.slice a l.length c) rfl rfl rfl (fun za zC zh zk => ld_30 rfl (zh.ev rfl) ((hB210.cell 1).trans rfl) zk) ?_
      refine WL.val (.int .i64 (((l.length : Nat) : Int))) rfl rfl rfl (fun za zC zh zk => len_30 rfl (zh.ev rfl) zk) ?_
      refine WL.val (.int .i64 0) rfl rfl rfl (fun za zC zh zk => wp_move rfl (zh.ev rfl) zk) ?_
      refine WL.nil (WE.sub (K' := [(0, .agg #[.int .i64 f, .slice a l.length c]), (1, .func (.func 47) #[] #[.pointer (some ⟨gs, 0, none⟩)]), (2, .pointer (some ⟨g2, 0, none⟩)), (4, .pointer (some ⟨g10, 0, none⟩)), (6, .pointer (some ⟨g191, 0, none⟩)), (11, .bool ((decide ((f : Int) < (0 : Int))))), (29, .bool ((decide ((0 : Int) < (((l.length : Nat) : Int) : Int))))), (36, .slice a l.length c), (37, .int .i64 (((l.length : Nat) : Int))), (38, .int .i64 0)]) ⟨rfl, rfl, rfl, rfl, rfl, rfl, rfl, rfl, rfl, rfl, trivial⟩ ?_)
      refine WE.next ?_
      refine WC.block ?_
      refine WC.loop (X := Unit) (fun _ => 0) (fun _ => [(0, .agg #[.int .i64 f, .slice a l.length c]), (1, .func (.func 47) #[] #[.pointer (some ⟨gs, 0, none⟩)]), (2, .pointer (some ⟨g2, 0, none⟩)), (4, .pointer (some ⟨g10, 0, none⟩)), (6, .pointer (some ⟨g191, 0, none⟩)), (11, .bool ((decide ((f : Int) < (0 : Int))))), (29, .bool ((decide ((0 : Int) < (((l.length : Nat) : Int) : Int))))), (36, .slice a l.length c), (37, .int .i64 (((l.length : Nat) : Int))), (38, .int .i64 0)]) (fun _ w299 => True ∧ Below w.heap.size w w299 ∧ Blk w299 gs 23 #[.slice sa s.length sc] ∧ Blk w299 g2 32 #[.int .i64 f, .slice a l.length c] ∧ Blk w299 g10 32 #[.int .i64 0, .slice none 0 0] ∧ Blk w299 g191 32 #[.int .i64 f, .slice none 0 0]) (()) ⟨rfl, rfl, rfl, rfl, rfl, rfl, rfl, rfl, rfl, rfl, trivial⟩ ?_ ?_
      · exact ⟨trivial, hb206, hB208, hB210, hB212, hB203⟩
      · rintro _ w299 ⟨_, hb300, hB301, hB302, hB303, hB304⟩
        refine WC.seq ?_
        refine WC.region ?_
        refine WL.val (.bool ((decide ((0 : Int) < (((l.length : Nat) : Int) : Int))))) rfl rfl rfl (fun za zC zh zk => lss_3 rfl (zh.ev rfl) (zh.ev rfl) zk) ?_
        refine WL.nil (WE.sub (K' := [(0, .agg #[.int .i64 f, .slice a l.length c]), (1, .func (.func 47) #[] #[.pointer (some ⟨gs, 0, none⟩)]), (2, .pointer (some ⟨g2, 0, none⟩)), (4, .pointer (some ⟨g10, 0, none⟩)), (6, .pointer (some ⟨g191, 0, none⟩)), (11, .bool ((decide ((f : Int) < (0 : Int))))), (29, .bool ((decide ((0 : Int) < (((l.length : Nat) : Int) : Int))))), (36, .slice a l.length c), (37, .int .i64 (((l.length : Nat) : Int))), (38, .int .i64 0), (39, .bool ((decide ((0 : Int) < (((l.length : Nat) : Int) : Int)))))]) ⟨rfl, rfl, rfl, rfl, rfl, rfl, rfl, rfl, rfl, rfl, rfl, trivial⟩ ?_)
        refine WE.next ?_
        refine WC.seq ?_
        refine WC.condF rfl (decide_eq_false (by omega)) ?_
        refine WC.exit ?_
        refine WE.thenExit ?_
        refine WE.thenExit ?_
        refine WE.blockIs rfl ?_
        refine WE.next ?_
        refine WC.seq ?_
        refine WC.region ?_
        refine WL.val (.agg #[.int .i64 f, .slice none 0 0]) rfl rfl rfl (fun za zC zh zk => ld_32 rfl (zh.ev rfl) ((hB304.cell 0).trans rfl) ((hB304.cell 1).trans rfl) zk) ?_
        refine WL.step (post := fun _ w' => Upd g10 w299 w' ∧ Blk w' g10 32 #[.int .i64 f, .slice none 0 0]) rfl rfl rfl (fun za zC zh zk => st_32 rfl (zh.ev rfl) (zh.ev rfl) rfl rfl hB303 (by first | decide | simp) (fun v => zk v _ ⟨(Upd.at_ _ _ _ _).trans (Upd.at_ _ _ _ _), (hB303.set_ 0 _).set_ 1 _⟩)) ?_
        rintro v308 w305 ⟨hu306, hB307⟩
        have hb309 := upd_below hb300 hu306 (by omega)
        have hB310 := upd_blk hB301 hu306 (by omega)
        have hB311 := upd_blk hB302 hu306 (by omega)
        have hB312 := upd_blk hB304 hu306 (by omega)
        refine WL.nil (WE.sub (K' := [(0, .agg #[.int .i64 f, .slice a l.length c]), (1, .func (.func 47) #[] #[.pointer (some ⟨gs, 0, none⟩)]), (2, .pointer (some ⟨g2, 0, none⟩)), (4, .pointer (some ⟨g10, 0, none⟩)), (6, .pointer (some ⟨g191, 0, none⟩)), (11, .bool ((decide ((f : Int) < (0 : Int))))), (29, .bool ((decide ((0 : Int) < (((l.length : Nat) : Int) : Int))))), (36, .slice a l.length c), (37, .int .i64 (((l.length : Nat) : Int))), (38, .int .i64 0), (39, .bool ((decide ((0 : Int) < (((l.length : Nat) : Int) : Int)))))]) ⟨rfl, rfl, rfl, rfl, rfl, rfl, rfl, rfl, rfl, rfl, rfl, trivial⟩ ?_)
        refine WE.next ?_
        refine WC.ret ?_
        refine WE.retAny (v := .agg #[.int .i64 f, .slice none 0 0]) (fun za zh => ?_) ?_
        · have z0 : za.tmps[4]?.getD undef = .pointer (some ⟨g10, 0, none⟩) := by rw [← Array.getD_eq_getD_getElem?]; exact zh.knows 4 _ rfl
          have y0 : w305.cell? ⟨g10, 0, none⟩ = some (.int .i64 f) := ((hB307.cell 0).trans rfl)
          have y1 : w305.cell? ⟨g10, 1, none⟩ = some (.slice none 0 0) := ((hB307.cell 1).trans rfl)
          simp [results, Try.results46, z0, y0, y1, go_sem]
        · have e : l = [] := List.length_eq_zero_iff.1 (by omega)
          subst e
          exact ⟨_, rfl, by rw [app_none (fun h => absurd h ‹_›)]; exact newT_leaf hf, hb309⟩

end Go.Proofs.Ytgechlgdnnpoeaa
