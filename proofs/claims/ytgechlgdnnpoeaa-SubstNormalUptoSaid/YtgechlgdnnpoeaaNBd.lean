/- Loops over functions, and functions that hand out one thing after the other. -/
import Derived.Test.YtgechlgdnnpoeaaNBc
import Derived.Test.YtgechlgdnnpoeaaNBa

/- What becomes of terms, by a substitution. -/
namespace Go.Proofs.Ytgechlgdnnpoeaa
open Go.RowKit Go

mutual
def T.app (s : List Bd) : T → T
  | .mk f l => match (if f < 0 then subFind s (-1 - f) else none) with
    | some t => t
    | none => .mk f (T.appL s l)
def T.appL (s : List Bd) : List T → List T
  | [] => []
  | t :: r => t.app s :: T.appL s r
end
theorem T.appL_eq (s : List Bd) : ∀ l : List T, T.appL s l = l.map (T.app s)
  | [] => rfl
  | t :: r => by rw [T.appL, T.appL_eq s r]; rfl
theorem app_some {s : List Bd} {f : Int} {l : List T} {t : T} (hf : f < 0) (h : subFind s (-1 - f) = some t) : (T.mk f l).app s = t := by
  simp only [T.app, if_pos hf, h]
theorem app_none {s : List Bd} {f : Int} {l : List T} (h : f < 0 → subFind s (-1 - f) = none) : (T.mk f l).app s = .mk f (l.map (T.app s)) := by
  have : (if f < 0 then subFind s (-1 - f) else none) = none := by
    split
    · exact h ‹_›
    · rfl
  simp only [T.app, this, T.appL_eq]
theorem take_map {s : List Bd} {l : List T} {k : Nat} (h : k < l.length) : (l.take k).map (T.app s) ++ [(tget l k).app s] = (l.take (k + 1)).map (T.app s) := by
  rw [List.take_succ_eq_append_getElem h, List.map_append, tget_lt h]; rfl
theorem subFind_mem {s : List Bd} {m : Int} {t : T} (h : subFind s m = some t) : ∃ b ∈ s, b.t = t := by
  unfold subFind at h
  obtain ⟨b, hb, rfl⟩ := Option.map_eq_some_iff.1 h
  exact ⟨b, List.mem_of_find?_eq_some hb, rfl⟩
/-- A substitution that came in: it lies in memory, is no longer than that, its terms are no larger. -/
structure IsSub (w : World) (s : List Bd) (a : Option Addr) (c : Nat) : Prop where
  rows : IsBs w s a
  len : s.length ≤ c
  cap : c ≤ maxLen
  small : s.length ≤ 4294967296
  parts : ∀ b ∈ s, b.t.size ≤ 4294967296
theorem IsSub.below {w w' : World} {s : List Bd} {a : Option Addr} {c : Nat} (h : IsSub w s a c) (hb : Below w.heap.size w w') : IsSub w' s a c := ⟨h.rows.below hb, h.len, h.cap, h.small, h.parts⟩
theorem IsSub.found {w : World} {s : List Bd} {a : Option Addr} {c : Nat} (h : IsSub w s a c) {m : Int} {t : T} (hf : subFind s m = some t) : t.size ≤ 4294967296 := by
  obtain ⟨b, hb, rfl⟩ := subFind_mem hf; exact h.parts b hb
set_option maxRecDepth 100000 in
theorem apply1_any (s : List Bd) (m : Int) (w : World) (a : Option Addr) (c g : Nat) (hs : IsSub w s a c) (hg : Blk w g 23 #[.slice a s.length c]) : Calls Try.prog 47 #[.int .i64 m, .pointer (some ⟨g, 0, none⟩)] w (Ret fun v' w' => IsTo w' (subFind s m) v' ∧ Below w.heap.size w w') := by
  have hgl := hg.lt
  refine Calls.walk (l := [.int .i64 m, .pointer (some ⟨g, 0, none⟩)]) Try.func47 rfl (by kernel_rfl) ?_
  refine WC.sub (K' := [(0, .int .i64 m), (1, .pointer (some ⟨g, 0, none⟩))]) ⟨rfl, rfl, trivial⟩ ?_
  refine WC.seq ?_
  refine WC.region ?_
  refine WL.val (.pointer none) rfl rfl rfl (fun za zC zh zk => wp_assign rfl (zh.ev rfl) zk) ?_
  refine WL.nil (WE.sub (K' := [(0, .int .i64 m), (1, .pointer (some ⟨g, 0, none⟩)), (3, .pointer none)]) ⟨rfl, rfl, rfl, trivial⟩ ?_)
  refine WE.next ?_
  refine WC.seq ?_
  refine WC.region ?_
  refine WL.val (.slice a s.length c) rfl rfl rfl (fun za zC zh zk => ld_23 rfl (zh.ev rfl) ((hg.cell 0).trans rfl) zk) ?_
  refine WL.val (.int .i64 m) rfl rfl rfl (fun za zC zh zk => wp_move rfl (zh.ev rfl) zk) ?_
  refine WL.call rfl rfl rfl (fun za zh zC => wp_call (by kernel_rfl) rfl (hv2 (zh.ev rfl) (zh.ev rfl))) ((find_any s m _ _ _ hs.len hs.cap hs.small (hs.below (Below.refl _ _)).rows)) ?_
  rintro u w1 ⟨hu, hbu⟩
  refine WL.val (u) rfl rfl rfl (fun za zC zh zk => wp_assign rfl (zh.ev rfl) zk) ?_
  refine WL.nil (WE.sub (K' := [(0, .int .i64 m), (1, .pointer (some ⟨g, 0, none⟩)), (3, u)]) ⟨rfl, rfl, rfl, trivial⟩ ?_)
  refine WE.next ?_
  refine WC.ret ?_
  refine WE.ret1 rfl rfl ?_
  exact ⟨_, rfl, hu, hbu⟩

set_option maxRecDepth 100000 in
theorem each_any (s : List Bd) (sa : Option Addr) (sc gs : Nat) : ∀ (t : T) (w : World) (v : Value), t.size ≤ 4294967296 → IsT w t v → IsSub w s sa sc → Blk w gs 23 #[.slice sa s.length sc] → Calls Try.prog 46 #[v, .func (.func 47) #[] #[.pointer (some ⟨gs, 0, none⟩)]] w (Ret fun v' w' => NewT w w' (t.app s) v' ∧ Below w.heap.size w w') := by
  refine T.ind (fun f l ih => ?_)
  intro w v hz hv hs hgs
  have hlen := len_le_sizeL l
  have hz' := hz
  simp only [T.size] at hz'
  obtain ⟨hf, a, c, rfl, hc, hm, hl⟩ := hv
  have hf' := hf
  unfold I64 at hf'
  have hgl := hgs.lt
  refine Calls.walk (l := [.agg #[.int .i64 f, .slice a l.length c], .func (.func 47) #[] #[.pointer (some ⟨gs, 0, none⟩)]]) Try.func46 rfl (by kernel_rfl) ?_
  refine WC.sub (K' := [(0, .agg #[.int .i64 f, .slice a l.length c]), (1, .func (.func 47) #[] #[.pointer (some ⟨gs, 0, none⟩)])]) ⟨rfl, rfl, trivial⟩ ?_
  refine WC.seq ?_
  refine WC.region ?_
  refine WL.step (post := NewBlk w 32 #[.int .i64 f, .slice a l.length c]) rfl rfl rfl (fun za zC zh zk => box_32 rfl (zh.ev rfl) (zk _ _ (newBlk _ _ _))) ?_
  rintro _ w1 ⟨g2, rfl, hg3, hB4, hb5, hz6⟩
  have hl7 : gs < g2 := by have z1 := hgs.lt; omega
  have hl8 : w.heap.size ≤ g2 := by omega
  refine WL.step (post := NewBlk w1 32 #[.int .i64 0, .slice none 0 0]) rfl rfl rfl (fun za zC zh zk => alloc_32 rfl (zk _ _ (newBlk _ _ _))) ?_
  rintro _ w9 ⟨g10, rfl, hg11, hB12, hb13, hz14⟩
  have hl15 : gs < g10 := by have z1 := hgs.lt; have z2 := (hb5).size; omega
  have hl16 : g2 < g10 := by have z1 := hB4.lt; omega
  have hl17 : w.heap.size ≤ g10 := by have z2 := (hb5).size; omega
  refine WL.nil (WE.sub (K' := [(0, .agg #[.int .i64 f, .slice a l.length c]), (1, .func (.func 47) #[] #[.pointer (some ⟨gs, 0, none⟩)]), (2, .pointer (some ⟨g2, 0, none⟩)), (4, .pointer (some ⟨g10, 0, none⟩))]) ⟨rfl, rfl, rfl, rfl, trivial⟩ ?_)
  refine WE.next ?_
  refine WC.seq ?_
  refine WC.seq ?_
  refine WC.region ?_
  refine WL.val (.pointer (some ⟨g2, 0, none⟩)) rfl rfl rfl (fun za zC zh zk => fld_32_0 rfl (zh.ev rfl) zk) ?_
  have hB18 := hB4.below hb13
  refine WL.val (.int .i64 f) rfl rfl rfl (fun za zC zh zk => ld_3 rfl (zh.ev rfl) ((hB18.cell 0).trans rfl) zk) ?_
  refine WL.val (.bool ((decide ((f : Int) < (0 : Int))))) rfl rfl rfl (fun za zC zh zk => lss_3 rfl (zh.ev rfl) (zh.ev rfl) zk) ?_
  refine WL.nil (WE.sub (K' := [(0, .agg #[.int .i64 f, .slice a l.length c]), (1, .func (.func 47) #[] #[.pointer (some ⟨gs, 0, none⟩)]), (2, .pointer (some ⟨g2, 0, none⟩)), (4, .pointer (some ⟨g10, 0, none⟩)), (11, .bool ((decide ((f : Int) < (0 : Int)))))]) ⟨rfl, rfl, rfl, rfl, rfl, trivial⟩ ?_)
  refine WE.next ?_
  refine WC.cond rfl (fun h19 => ?_) (fun h19 => ?_)
  · have h19 : (f : Int) < (0 : Int) := by simpa using h19
    refine WC.seq ?_
    refine WC.region ?_
    refine WL.val (.func (.func 47) #[] #[.pointer (some ⟨gs, 0, none⟩)]) rfl rfl rfl (fun za zC zh zk => wp_move rfl (zh.ev rfl) zk) ?_
    refine WL.val (.pointer (some ⟨g2, 0, none⟩)) rfl rfl rfl (fun za zC zh zk => fld_32_0 rfl (zh.ev rfl) zk) ?_
    refine WL.val (.int .i64 f) rfl rfl rfl (fun za zC zh zk => ld_3 rfl (zh.ev rfl) ((hB18.cell 0).trans rfl) zk) ?_
    refine WL.val (.int .i64 ((-1 - f))) rfl rfl rfl (fun za zC zh zk => subb_3 rfl (zh.ev rfl) (zh.ev rfl) (wrap_eq rfl (by omega) (by omega)) zk) ?_
    have hb25 : Below w.heap.size w w9 := (bstep hb5 hb13)
    have hB26 := hgs.below hb25
    refine WL.call rfl rfl rfl (fun za zh zC => wp_callv (by kernel_rfl) rfl (zh.ev rfl) (hv1 (zh.ev rfl))) (apply1_any s (-1 - f) _ _ _ gs (hs.below hb25) hB26) ?_
    rintro v27 w20 ⟨hto21, hb22⟩
    rcases hf24 : subFind s (-1 - f) with _ | t23
    · rw [hf24] at hto21
      obtain rfl : v27 = .pointer none := hto21
      refine WL.val (.pointer none) rfl rfl rfl (fun za zC zh zk => wp_assign rfl (zh.ev rfl) zk) ?_
      refine WL.nil (WE.sub (K' := [(0, .agg #[.int .i64 f, .slice a l.length c]), (1, .func (.func 47) #[] #[.pointer (some ⟨gs, 0, none⟩)]), (2, .pointer (some ⟨g2, 0, none⟩)), (4, .pointer (some ⟨g10, 0, none⟩)), (5, .pointer none), (11, .bool ((decide ((f : Int) < (0 : Int)))))]) ⟨rfl, rfl, rfl, rfl, rfl, rfl, trivial⟩ ?_)
      refine WE.next ?_
      refine WC.seq ?_
      refine WC.region ?_
      refine WL.val (.pointer none) rfl rfl rfl (fun za zC zh zk => wp_move rfl (zh.ev rfl) zk) ?_
      refine WL.val (.bool false) rfl rfl rfl (fun za zC zh zk => neqn_57 rfl (zh.ev rfl) (zh.ev rfl) zk) ?_
      refine WL.nil (WE.sub (K' := [(0, .agg #[.int .i64 f, .slice a l.length c]), (1, .func (.func 47) #[] #[.pointer (some ⟨gs, 0, none⟩)]), (2, .pointer (some ⟨g2, 0, none⟩)), (4, .pointer (some ⟨g10, 0, none⟩)), (5, .pointer none), (11, .bool ((decide ((f : Int) < (0 : Int))))), (18, .bool false)]) ⟨rfl, rfl, rfl, rfl, rfl, rfl, rfl, trivial⟩ ?_)
      refine WE.next ?_
      refine WC.condF rfl rfl ?_
      refine WC.skip ?_
      refine WE.next ?_
      refine WC.seq ?_
      refine WC.region ?_
      refine WL.val (.pointer (some ⟨g2, 0, none⟩)) rfl rfl rfl (fun za zC zh zk => fld_32_0 rfl (zh.ev rfl) zk) ?_
      have hB28 := hB18.below hb22
      refine WL.val (.int .i64 f) rfl rfl rfl (fun za zC zh zk => ld_3 rfl (zh.ev rfl) ((hB28.cell 0).trans rfl) zk) ?_
      refine WL.val (.agg #[.int .i64 f, .slice none 0 0]) rfl rfl rfl (fun za zC zh zk => build_32_0 rfl (zh.ev rfl) zk) ?_
      refine WL.step (post := NewBlk w20 32 #[.int .i64 0, .slice none 0 0]) rfl rfl rfl (fun za zC zh zk => alloc_32 rfl (zk _ _ (newBlk _ _ _))) ?_
      rintro _ w29 ⟨g30, rfl, hg31, hB32, hb33, hz34⟩
      have hl35 : gs < g30 := by have z1 := hB26.lt; have z2 := (hb22).size; omega
      have hl36 : g2 < g30 := by have z1 := hB28.lt; omega
      have hl37 : g10 < g30 := by have z1 := hB12.lt; have z2 := (hb22).size; omega
      have hb38 : Below w.heap.size w w20 := (bstep hb25 hb22)
      have hl39 : w.heap.size ≤ g30 := by have z2 := (hb38).size; omega
      have hl40 : w20.heap.size ≤ g30 := by omega
      refine WL.step (post := fun _ w' => Upd g30 w29 w' ∧ Blk w' g30 32 #[.int .i64 f, .slice none 0 0]) rfl rfl rfl (fun za zC zh zk => st_32 rfl (zh.ev rfl) (zh.ev rfl) rfl rfl hB32 (by first | decide | simp) (fun v => zk v _ ⟨(Upd.at_ _ _ _ _).trans (Upd.at_ _ _ _ _), (hB32.set_ 0 _).set_ 1 _⟩)) ?_
      rintro v44 w41 ⟨hu42, hB43⟩
      have hb45 : Below w.heap.size w w29 := (bstep hb38 hb33)
      have hb46 := upd_below hb45 hu42 (by omega)
      have hb47 := upd_below hb33 hu42 (by omega)
      have hb49 : Below w9.heap.size w9 w29 := (bstep hb22 hb33)
      have hB48 := hB26.below hb49
      have hB50 := upd_blk hB48 hu42 (by omega)
      have hB51 := hB28.below hb33
      have hB52 := upd_blk hB51 hu42 (by omega)
      have hB53 := hB12.below hb49
      have hB54 := upd_blk hB53 hu42 (by omega)
      refine WL.nil (WE.sub (K' := [(0, .agg #[.int .i64 f, .slice a l.length c]), (1, .func (.func 47) #[] #[.pointer (some ⟨gs, 0, none⟩)]), (2, .pointer (some ⟨g2, 0, none⟩)), (4, .pointer (some ⟨g10, 0, none⟩)), (5, .pointer none), (6, .pointer (some ⟨g30, 0, none⟩)), (11, .bool ((decide ((f : Int) < (0 : Int))))), (18, .bool false)]) ⟨rfl, rfl, rfl, rfl, rfl, rfl, rfl, rfl, trivial⟩ ?_)
      refine WE.next ?_
      refine WC.seq ?_
      refine WC.seq ?_
      refine WC.region ?_
      refine WL.val (.pointer (some ⟨g2, 1, none⟩)) rfl rfl rfl (fun za zC zh zk => fld_32_1 rfl (zh.ev rfl) zk) ?_
      refine WL.val (.slice a l.length c) rfl rfl rfl (fun za zC zh zk => ld_30 rfl (zh.ev rfl) ((hB52.cell 1).trans rfl) zk) ?_
      refine WL.val (.int .i64 (((l.length : Nat) : Int))) rfl rfl rfl (fun za zC zh zk => len_30 rfl (zh.ev rfl) zk) ?_
      refine WL.val (.bool ((decide ((0 : Int) < (((l.length : Nat) : Int) : Int))))) rfl rfl rfl (fun za zC zh zk => gtr_3 rfl (zh.ev rfl) (zh.ev rfl) zk) ?_
      refine WL.nil (WE.sub (K' := [(0, .agg #[.int .i64 f, .slice a l.length c]), (1, .func (.func 47) #[] #[.pointer (some ⟨gs, 0, none⟩)]), (2, .pointer (some ⟨g2, 0, none⟩)), (4, .pointer (some ⟨g10, 0, none⟩)), (5, .pointer none), (6, .pointer (some ⟨g30, 0, none⟩)), (11, .bool ((decide ((f : Int) < (0 : Int))))), (18, .bool false), (29, .bool ((decide ((0 : Int) < (((l.length : Nat) : Int) : Int)))))]) ⟨rfl, rfl, rfl, rfl, rfl, rfl, rfl, rfl, rfl, trivial⟩ ?_)
      refine WE.next ?_
      refine WC.cond rfl (fun h55 => ?_) (fun h55 => ?_)
      · have h55 : (0 : Int) < (((l.length : Nat) : Int) : Int) := by simpa using h55
        refine WC.region ?_
        refine WL.val (.pointer (some ⟨g2, 1, none⟩)) rfl rfl rfl (fun za zC zh zk => fld_32_1 rfl (zh.ev rfl) zk) ?_
        refine WL.val (.slice a l.length c) rfl rfl rfl (fun za zC zh zk => ld_30 rfl (zh.ev rfl) ((hB52.cell 1).trans rfl) zk) ?_
        refine WL.val (.int .i64 (((l.length : Nat) : Int))) rfl rfl rfl (fun za zC zh zk => len_30 rfl (zh.ev rfl) zk) ?_
        refine WL.step (post := fun v w' => ∃ g, v = .slice (some ⟨g, 0, none⟩) l.length l.length ∧ w41.heap.size = g ∧ Blk w' g 32 (madeCells (Value.cells (.agg #[.int .i64 0, .slice none 0 0])) (l.length * 2)) ∧ Below w41.heap.size w41 w') rfl rfl rfl (fun za zC zh zk => wp_mkE (z := .agg #[.int .i64 0, .slice none 0 0]) (size := 2) (bytes := 32) Try.underlying30 (by kernel_rfl) (by decide) rfl (zh.ev rfl) (zh.ev rfl) (by omega) (zk _ _ ⟨_, rfl, rfl, Blk.new' rfl, balloc _ _⟩)) ?_
        rintro _ w56 ⟨g57, rfl, hg58, hB59, hb60⟩
        have hl62 : gs < g57 := by have z1 := hB50.lt; omega
        have hl63 : g2 < g57 := by have z1 := hB52.lt; omega
        have hl64 : g10 < g57 := by have z1 := hB54.lt; omega
        have hl65 : g30 < g57 := by have z1 := hB43.lt; omega
        have hl66 : w.heap.size ≤ g57 := by have z2 := (hb46).size; omega
        have hl67 : w20.heap.size ≤ g57 := by have z2 := (hb47).size; omega
        have hM61 : MRow eltT w56 g57 g57 32 l.length (madeCells (Value.cells (.agg #[.int .i64 0, .slice none 0 0])) (l.length * 2)).toList [] := MRow.startT hB59 (Nat.le_refl _)
        refine WL.val (.pointer (some ⟨g30, 1, none⟩)) rfl rfl rfl (fun za zC zh zk => fld_32_1 rfl (zh.ev rfl) zk) ?_
        have hB68 := hB43.below hb60
        refine WL.step (post := fun _ w' => Upd g30 w56 w' ∧ Blk w' g30 32 #[.int .i64 f, .slice ((some ⟨g57, 0, none⟩)) l.length l.length]) rfl rfl rfl (fun za zC zh zk => st_30 rfl (zh.ev rfl) (zh.ev rfl) hB68 (by first | decide | simp) (fun v => zk v _ ⟨Upd.at_ _ _ _ _, hB68.set_ 1 _⟩)) ?_
        rintro v72 w69 ⟨hu70, hB71⟩
        have hb73 : Below w.heap.size w w56 := (bstep hb46 hb60)
        have hb74 : Below w20.heap.size w20 w56 := (bstep hb47 hb60)
        have hb75 := upd_below hb73 hu70 (by omega)
        have hb76 := upd_below hb74 hu70 (by omega)
        have hB77 := hB50.below hb60
        have hB78 := upd_blk hB77 hu70 (by omega)
        have hB79 := hB52.below hb60
        have hB80 := upd_blk hB79 hu70 (by omega)
        have hB81 := hB54.below hb60
        have hB82 := upd_blk hB81 hu70 (by omega)
        have ho83 := hM61.upd hu70 (by omega)
        refine WL.nil (WE.sub (K' := [(0, .agg #[.int .i64 f, .slice a l.length c]), (1, .func (.func 47) #[] #[.pointer (some ⟨gs, 0, none⟩)]), (2, .pointer (some ⟨g2, 0, none⟩)), (4, .pointer (some ⟨g10, 0, none⟩)), (5, .pointer none), (6, .pointer (some ⟨g30, 0, none⟩)), (11, .bool ((decide ((f : Int) < (0 : Int))))), (18, .bool false), (29, .bool ((decide ((0 : Int) < (((l.length : Nat) : Int) : Int)))))]) ⟨rfl, rfl, rfl, rfl, rfl, rfl, rfl, rfl, rfl, trivial⟩ ?_)
        refine WE.next ?_
        refine WC.seq ?_
        refine WC.seq ?_
        refine WC.region ?_
        refine WL.val (.pointer (some ⟨g2, 1, none⟩)) rfl rfl rfl (fun za zC zh zk => fld_32_1 rfl (zh.ev rfl) zk) ?_
        refine WL.val (.slice a l.length c) rfl rfl rfl (fun za zC zh zk => ld_30 rfl (zh.ev rfl) ((hB80.cell 1).trans rfl) zk) ?_
        refine WL.val (.int .i64 (((l.length : Nat) : Int))) rfl rfl rfl (fun za zC zh zk => len_30 rfl (zh.ev rfl) zk) ?_
        refine WL.val (.int .i64 0) rfl rfl rfl (fun za zC zh zk => wp_move rfl (zh.ev rfl) zk) ?_
        refine WL.nil (WE.sub (K' := [(0, .agg #[.int .i64 f, .slice a l.length c]), (1, .func (.func 47) #[] #[.pointer (some ⟨gs, 0, none⟩)]), (2, .pointer (some ⟨g2, 0, none⟩)), (4, .pointer (some ⟨g10, 0, none⟩)), (5, .pointer none), (6, .pointer (some ⟨g30, 0, none⟩)), (11, .bool ((decide ((f : Int) < (0 : Int))))), (18, .bool false), (29, .bool ((decide ((0 : Int) < (((l.length : Nat) : Int) : Int))))), (36, .slice a l.length c), (37, .int .i64 (((l.length : Nat) : Int))), (38, .int .i64 0)]) ⟨rfl, rfl, rfl, rfl, rfl, rfl, rfl, rfl, rfl, rfl, rfl, rfl, trivial⟩ ?_)
        refine WE.next ?_
        refine WC.block ?_
        refine WC.loop (X := Nat) (fun k => l.length - k) (fun k => [(0, .agg #[.int .i64 f, .slice a l.length c]), (1, .func (.func 47) #[] #[.pointer (some ⟨gs, 0, none⟩)]), (2, .pointer (some ⟨g2, 0, none⟩)), (4, .pointer (some ⟨g10, 0, none⟩)), (5, .pointer none), (6, .pointer (some ⟨g30, 0, none⟩)), (11, .bool ((decide ((f : Int) < (0 : Int))))), (18, .bool false), (29, .bool ((decide ((0 : Int) < (((l.length : Nat) : Int) : Int))))), (36, .slice a l.length c), (37, .int .i64 (((l.length : Nat) : Int))), (38, .int .i64 (((k : Nat) : Int)))]) (fun k w84 => k ≤ l.length ∧ Below w.heap.size w w84 ∧ Blk w84 gs 23 #[.slice sa s.length sc] ∧ Blk w84 g2 32 #[.int .i64 f, .slice a l.length c] ∧ Blk w84 g10 32 #[.int .i64 0, .slice none 0 0] ∧ Blk w84 g30 32 #[.int .i64 f, .slice ((some ⟨g57, 0, none⟩)) l.length l.length] ∧ MRow eltT (w84) g57 g57 32 l.length (madeCells (Value.cells (.agg #[.int .i64 0, .slice none 0 0])) (l.length * 2)).toList ((l.take k).map (T.app s))) 0 ⟨rfl, rfl, rfl, rfl, rfl, rfl, rfl, rfl, rfl, rfl, rfl, rfl, trivial⟩ ?_ ?_
        · exact ⟨Nat.zero_le _, hb75, hB78, hB80, hB82, hB71, ho83⟩
        · rintro k w84 ⟨hk, hb85, hB86, hB87, hB88, hB89, ho90⟩
          have hgl := ho90.lt
          refine WC.seq ?_
          refine WC.region ?_
          refine WL.val (.bool ((decide ((((k : Nat) : Int) : Int) < (((l.length : Nat) : Int) : Int))))) rfl rfl rfl (fun za zC zh zk => lss_3 rfl (zh.ev rfl) (zh.ev rfl) zk) ?_
          refine WL.nil (WE.sub (K' := [(0, .agg #[.int .i64 f, .slice a l.length c]), (1, .func (.func 47) #[] #[.pointer (some ⟨gs, 0, none⟩)]), (2, .pointer (some ⟨g2, 0, none⟩)), (4, .pointer (some ⟨g10, 0, none⟩)), (5, .pointer none), (6, .pointer (some ⟨g30, 0, none⟩)), (11, .bool ((decide ((f : Int) < (0 : Int))))), (18, .bool false), (29, .bool ((decide ((0 : Int) < (((l.length : Nat) : Int) : Int))))), (36, .slice a l.length c), (37, .int .i64 (((l.length : Nat) : Int))), (38, .int .i64 (((k : Nat) : Int))), (39, .bool ((decide ((((k : Nat) : Int) : Int) < (((l.length : Nat) : Int) : Int)))))]) ⟨rfl, rfl, rfl, rfl, rfl, rfl, rfl, rfl, rfl, rfl, rfl, rfl, rfl, trivial⟩ ?_)
          refine WE.next ?_
          refine WC.seq ?_
          refine WC.cond rfl (fun h91 => ?_) (fun h91 => ?_)
          · have h91 : (((k : Nat) : Int) : Int) < (((l.length : Nat) : Int) : Int) := by simpa using h91
            refine WC.skip ?_
            refine WE.next ?_
            refine WC.seq ?_
            refine WC.block ?_
            refine WC.seq ?_
            refine WC.region ?_
            refine WL.val (.int .i64 (((k : Nat) : Int))) rfl rfl rfl (fun za zC zh zk => wp_move rfl (zh.ev rfl) zk) ?_
            obtain ⟨b92, o93, A94, C95, ha96, hc97⟩ := IsTs.open hl
            refine WL.val (.pointer (some ⟨b92, o93 + k * 2, none⟩)) rfl rfl rfl (fun za zC zh zk => ix_30 (k := k) rfl (zh.ev rfl) (ha96 k (by first | omega | (simp; omega))) (zh.ev rfl) (by first | omega | (simp; omega)) zk) ?_
            refine WL.val (.agg #[.int .i64 ((tget l k).f), .slice ((A94 k)) ((tget l k).args.length) ((C95 k))]) rfl rfl rfl (fun za zC zh zk => ld_32 rfl (zh.ev rfl) (bkeeps hb85 _ _ (hc97 k (by first | omega | (simp; omega))).1) (bkeeps hb85 _ _ (hc97 k (by first | omega | (simp; omega))).2.1) zk) ?_
            refine WL.step (post := NewBlk w84 32 #[.int .i64 0, .slice none 0 0]) rfl rfl rfl (fun za zC zh zk => alloc_32 rfl (zk _ _ (newBlk _ _ _))) ?_
            rintro _ w98 ⟨g99, rfl, hg100, hB101, hb102, hz103⟩
            have hl104 : gs < g99 := by have z1 := hB86.lt; omega
            have hl105 : g2 < g99 := by have z1 := hB87.lt; omega
            have hl106 : g10 < g99 := by have z1 := hB88.lt; omega
            have hl107 : g30 < g99 := by have z1 := hB89.lt; omega
            have hl108 : w.heap.size ≤ g99 := by have z2 := (hb85).size; omega
            have hl109 : w84.heap.size ≤ g99 := by omega
            refine WL.val (.int .i64 (((k : Nat) : Int))) rfl rfl rfl (fun za zC zh zk => wp_assign rfl (zh.ev rfl) zk) ?_
            refine WL.step (post := fun _ w' => Upd g99 w98 w' ∧ Blk w' g99 32 #[.int .i64 ((tget l k).f), .slice ((A94 k)) ((tget l k).args.length) ((C95 k))]) rfl rfl rfl (fun za zC zh zk => st_32 rfl (zh.ev rfl) (zh.ev rfl) rfl rfl hB101 (by first | decide | simp) (fun v => zk v _ ⟨(Upd.at_ _ _ _ _).trans (Upd.at_ _ _ _ _), (hB101.set_ 0 _).set_ 1 _⟩)) ?_
            rintro v113 w110 ⟨hu111, hB112⟩
            have hb114 : Below w.heap.size w w98 := (bstep hb85 hb102)
            have hb115 := upd_below hb114 hu111 (by omega)
            have hb116 := upd_below hb102 hu111 (by omega)
            have hB117 := hB86.below hb102
            have hB118 := upd_blk hB117 hu111 (by omega)
            have hB119 := hB87.below hb102
            have hB120 := upd_blk hB119 hu111 (by omega)
            have hB121 := hB88.below hb102
            have hB122 := upd_blk hB121 hu111 (by omega)
            have hB123 := hB89.below hb102
            have hB124 := upd_blk hB123 hu111 (by omega)
            refine WL.nil (WE.sub (K' := [(0, .agg #[.int .i64 f, .slice a l.length c]), (1, .func (.func 47) #[] #[.pointer (some ⟨gs, 0, none⟩)]), (2, .pointer (some ⟨g2, 0, none⟩)), (4, .pointer (some ⟨g10, 0, none⟩)), (5, .pointer none), (6, .pointer (some ⟨g30, 0, none⟩)), (7, .int .i64 (((k : Nat) : Int))), (8, .pointer (some ⟨g99, 0, none⟩)), (11, .bool ((decide ((f : Int) < (0 : Int))))), (18, .bool false), (29, .bool ((decide ((0 : Int) < (((l.length : Nat) : Int) : Int))))), (36, .slice a l.length c), (37, .int .i64 (((l.length : Nat) : Int))), (38, .int .i64 (((k : Nat) : Int))), (39, .bool ((decide ((((k : Nat) : Int) : Int) < (((l.length : Nat) : Int) : Int)))))]) ⟨rfl, rfl, rfl, rfl, rfl, rfl, rfl, rfl, rfl, rfl, rfl, rfl, rfl, rfl, rfl, trivial⟩ ?_)
            refine WE.next ?_
            have ho125 := ho90.below hb116
            have hSlt : ∀ b, (fun b => b = g57) b → b < w110.heap.size := fun b e => e ▸ ho125.lt
            have hgl : g57 < w110.heap.size := ho125.lt
            refine WC.tail1 (S := ((fun b => b = g57))) [(true, .val (.pointer (some ⟨g30, 1, none⟩))), (true, .val (.slice ((some ⟨g57, 0, none⟩)) l.length l.length)), (true, .val (.int .i64 (((k : Nat) : Int)))), (true, .val (.agg #[.int .i64 ((tget l k).f), .slice ((A94 k)) ((tget l k).args.length) ((C95 k))])), (true, .val (.func (.func 47) #[] #[.pointer (some ⟨gs, 0, none⟩)])), (true, .mem (fun v w' => NewT w110 w' (((tget l k).app s)) v) (fun v w w' hc h => InT.chg h hc (fun b hb hs => by have z := hSlt b hs; omega))), (true, .val (.pointer (some ⟨g57, 0 + k * 2, none⟩))), (true, .val undef)] [(0, .agg #[.int .i64 f, .slice a l.length c]), (1, .func (.func 47) #[] #[.pointer (some ⟨gs, 0, none⟩)]), (2, .pointer (some ⟨g2, 0, none⟩)), (4, .pointer (some ⟨g10, 0, none⟩)), (5, .pointer none), (6, .pointer (some ⟨g30, 0, none⟩)), (7, .int .i64 (((k : Nat) : Int))), (8, .pointer (some ⟨g99, 0, none⟩)), (11, .bool ((decide ((f : Int) < (0 : Int))))), (18, .bool false), (29, .bool ((decide ((0 : Int) < (((l.length : Nat) : Int) : Int))))), (36, .slice a l.length c), (37, .int .i64 (((l.length : Nat) : Int))), (38, .int .i64 (((k : Nat) : Int))), (39, .bool ((decide ((((k : Nat) : Int) : Int) < (((l.length : Nat) : Int) : Int)))))] 7 (fun w => MRow eltT w g57 g57 32 l.length (madeCells (Value.cells (.agg #[.int .i64 0, .slice none 0 0])) (l.length * 2)).toList (((l.take k).map (T.app s) ++ [(tget l k).app s]))) (fun w w' hb h => h.below hb) ⟨rfl, rfl, rfl, rfl, rfl, rfl, rfl, rfl, rfl, rfl, rfl, rfl, rfl, rfl, rfl, trivial⟩ (by kernel_rfl) (by kernel_rfl) (by kernel_rfl) (by kernel_rfl) ?_ ?_
            · refine ⟨.inl ⟨rfl, true, .none rfl, (fun gg b h => by cases h), fun h w => optUndef h, fun zβ za zw zc => ?_⟩, ?_⟩
              · exact fld_32_1 rfl (zc.kn.ev rfl) ⟨_, rfl, Below.refl _ _, optDef zβ rfl⟩
              refine ⟨.inl ⟨rfl, true, .none rfl, (fun gg b h => by cases h), fun h w => optUndef h, fun zβ za zw zc => ?_⟩, ?_⟩
              · exact ld_30 rfl ((show za.eval (.tmp 43) = za.tmps.getD 43 undef from rfl).trans (optSVal (zc.dep 0 43 (by kernel_rfl) (by decide)) rfl rfl)) (bkeeps (zc.early (by kernel_rfl)) _ _ ((hB124.cell 1).trans rfl)) ⟨_, rfl, Below.refl _ _, optDef zβ rfl⟩
              refine ⟨.inl ⟨rfl, true, .none rfl, (fun gg b h => by cases h), fun h w => optUndef h, fun zβ za zw zc => ?_⟩, ?_⟩
              · exact wp_move rfl (zc.kn.ev rfl) ⟨_, rfl, Below.refl _ _, optDef zβ rfl⟩
              refine ⟨.inl ⟨rfl, true, .none rfl, (fun gg b h => by cases h), fun h w => optUndef h, fun zβ za zw zc => ?_⟩, ?_⟩
              · exact ld_32 rfl (zc.kn.ev rfl) (bkeeps (zc.early (by kernel_rfl)) _ _ ((hB112.cell 0).trans rfl)) (bkeeps (zc.early (by kernel_rfl)) _ _ ((hB112.cell 1).trans rfl)) ⟨_, rfl, Below.refl _ _, optDef zβ rfl⟩
              refine ⟨.inl ⟨rfl, true, .none rfl, (fun gg b h => by cases h), fun h w => optUndef h, fun zβ za zw zc => ?_⟩, ?_⟩
              · exact wp_move rfl (zc.kn.ev rfl) ⟨_, rfl, Below.refl _ _, optDef zβ rfl⟩
              refine ⟨.inl ⟨rfl, true, .none rfl, (fun gg b h => by cases h), fun h w => optUndef h, fun zβ za zw zc => ?_⟩, ?_⟩
              · exact wp_call (by kernel_rfl) rfl (hv2 ((show za.eval (.tmp 46) = za.tmps.getD 46 undef from rfl).trans (optSVal (zc.dep 3 46 (by kernel_rfl) (by decide)) rfl rfl)) ((show za.eval (.tmp 47) = za.tmps.getD 47 undef from rfl).trans (optSVal (zc.dep 4 47 (by kernel_rfl) (by decide)) rfl rfl))) (ih _ (tget_mem (by omega)) _ _ (size_at (by omega) hz) (IsT.below (bstep hb115 (zc.early (by kernel_rfl))) (hc97 k (by first | omega | (simp; omega))).2.2) (hs.below (bstep hb115 (zc.early (by kernel_rfl)))) (hB118.below (zc.early (by kernel_rfl)))) (fun v w' h => ⟨v, rfl, h.2, optDef zβ (InT.mono (fun b hb _ => Nat.le_trans (zc.early (by kernel_rfl)).size hb) h.1)⟩)
              refine ⟨.inl ⟨rfl, true, .none rfl, (fun gg b h => by cases h), fun h w => optUndef h, fun zβ za zw zc => ?_⟩, ?_⟩
              · exact ix_30 (k := k) rfl ((show za.eval (.tmp 44) = za.tmps.getD 44 undef from rfl).trans (optSVal (zc.dep 1 44 (by kernel_rfl) (by decide)) rfl rfl)) rfl ((show za.eval (.tmp 45) = za.tmps.getD 45 undef from rfl).trans (optSVal (zc.dep 2 45 (by kernel_rfl) (by decide)) rfl rfl)) (by first | omega | (simp; omega)) ⟨_, rfl, Below.refl _ _, optDef zβ rfl⟩
              refine ⟨.inr ⟨rfl, rfl, fun za zw zc => ?_⟩, ?_⟩
              · have zv := (optSMem (zc.dep 5 48 (by kernel_rfl) (by decide)) rfl rfl)
                obtain ⟨_, a1, c1, e1, _⟩ := zv.form
                rw [e1] at zv
                have zm := ho125.below zc.below
                obtain ⟨cs, hB, hsz⟩ := zm.blkT (k := k) (by simp; omega) (by omega)
                exact st_32 rfl ((show za.eval (.tmp 49) = za.tmps.getD 49 undef from rfl).trans (optSVal (zc.dep 6 49 (by kernel_rfl) (by decide)) rfl rfl)) ((show za.eval (.tmp 48) = za.tmps.getD 48 undef from rfl).trans e1) rfl rfl hB hsz (fun v => ⟨v, rfl, zm.storeT (k := k) (by simp; omega) (by omega) (zv.mono (fun b hb _ => by (try dsimp only at *); omega)), .ofUpd ((Upd.at_ _ _ _ _).trans (Upd.at_ _ _ _ _)) rfl⟩)
              exact trivial
            · intro za w126 zh hG127 hc128 zu
              have hb129 := chg_below hb115 hc128 (fun b hb => (by (try dsimp only at *); omega))
              have hB130 := chg_blk hB118 hc128 (by (try dsimp only at *); omega)
              have hB131 := chg_blk hB120 hc128 (by (try dsimp only at *); omega)
              have hB132 := chg_blk hB122 hc128 (by (try dsimp only at *); omega)
              have hB133 := chg_blk hB124 hc128 (by (try dsimp only at *); omega)
              have hB134 := chg_blk hB112 hc128 (by (try dsimp only at *); omega)
              clear zu
              refine (show WE _ [(0, .agg #[.int .i64 f, .slice a l.length c]), (1, .func (.func 47) #[] #[.pointer (some ⟨gs, 0, none⟩)]), (2, .pointer (some ⟨g2, 0, none⟩)), (4, .pointer (some ⟨g10, 0, none⟩)), (5, .pointer none), (6, .pointer (some ⟨g30, 0, none⟩)), (7, .int .i64 (((k : Nat) : Int))), (8, .pointer (some ⟨g99, 0, none⟩)), (11, .bool ((decide ((f : Int) < (0 : Int))))), (18, .bool false), (29, .bool ((decide ((0 : Int) < (((l.length : Nat) : Int) : Int))))), (36, .slice a l.length c), (37, .int .i64 (((l.length : Nat) : Int))), (38, .int .i64 (((k : Nat) : Int))), (39, .bool ((decide ((((k : Nat) : Int) : Int) < (((l.length : Nat) : Int) : Int)))))] w126 _ .normal from ?_) za (zh.sub ⟨rfl, rfl, rfl, rfl, rfl, rfl, rfl, rfl, rfl, rfl, rfl, rfl, rfl, rfl, rfl, trivial⟩)
              refine WE.blockNormal ?_
              refine WE.next ?_
              refine WC.region ?_
              refine WL.val (.int .i64 ((((k + 1) : Nat) : Int))) rfl rfl rfl (fun za zC zh zk => addb_3 rfl (zh.ev rfl) (zh.ev rfl) (wrap_eq (by omega) (by omega) (by omega)) zk) ?_
              refine WL.val (.int .i64 ((((k + 1) : Nat) : Int))) rfl rfl rfl (fun za zC zh zk => wp_move rfl (zh.ev rfl) zk) ?_
              refine WL.nil (WE.sub (K' := [(0, .agg #[.int .i64 f, .slice a l.length c]), (1, .func (.func 47) #[] #[.pointer (some ⟨gs, 0, none⟩)]), (2, .pointer (some ⟨g2, 0, none⟩)), (4, .pointer (some ⟨g10, 0, none⟩)), (5, .pointer none), (6, .pointer (some ⟨g30, 0, none⟩)), (7, .int .i64 (((k : Nat) : Int))), (8, .pointer (some ⟨g99, 0, none⟩)), (11, .bool ((decide ((f : Int) < (0 : Int))))), (18, .bool false), (29, .bool ((decide ((0 : Int) < (((l.length : Nat) : Int) : Int))))), (36, .slice a l.length c), (37, .int .i64 (((l.length : Nat) : Int))), (38, .int .i64 ((((k + 1) : Nat) : Int))), (39, .bool ((decide ((((k : Nat) : Int) : Int) < (((l.length : Nat) : Int) : Int)))))]) ⟨rfl, rfl, rfl, rfl, rfl, rfl, rfl, rfl, rfl, rfl, rfl, rfl, rfl, rfl, rfl, trivial⟩ ?_)
              refine WE.round (k + 1) ⟨rfl, rfl, rfl, rfl, rfl, rfl, rfl, rfl, rfl, rfl, rfl, rfl, trivial⟩ ?_ ?_
              · exact ⟨by omega, hb129, hB130, hB131, hB132, hB133, (by rw [← take_map (by omega)]; exact hG127)⟩
              · omega
          · have h91 : ¬ ((((k : Nat) : Int) : Int) < (((l.length : Nat) : Int) : Int)) := by simpa using h91
            refine WC.exit ?_
            refine WE.thenExit ?_
            refine WE.thenExit ?_
            refine WE.blockIs rfl ?_
            refine WE.next ?_
            refine WC.seq ?_
            refine WC.region ?_
            refine WL.val (.agg #[.int .i64 f, .slice ((some ⟨g57, 0, none⟩)) l.length l.length]) rfl rfl rfl (fun za zC zh zk => ld_32 rfl (zh.ev rfl) ((hB89.cell 0).trans rfl) ((hB89.cell 1).trans rfl) zk) ?_
            refine WL.step (post := fun _ w' => Upd g10 w84 w' ∧ Blk w' g10 32 #[.int .i64 f, .slice ((some ⟨g57, 0, none⟩)) l.length l.length]) rfl rfl rfl (fun za zC zh zk => st_32 rfl (zh.ev rfl) (zh.ev rfl) rfl rfl hB88 (by first | decide | simp) (fun v => zk v _ ⟨(Upd.at_ _ _ _ _).trans (Upd.at_ _ _ _ _), (hB88.set_ 0 _).set_ 1 _⟩)) ?_
            rintro v138 w135 ⟨hu136, hB137⟩
            have hb139 := upd_below hb85 hu136 (by omega)
            have hB140 := upd_blk hB86 hu136 (by omega)
            have hB141 := upd_blk hB87 hu136 (by omega)
            have hB142 := upd_blk hB89 hu136 (by omega)
            have ho143 := ho90.upd hu136 (by omega)
            refine WL.nil (WE.sub (K' := [(0, .agg #[.int .i64 f, .slice a l.length c]), (1, .func (.func 47) #[] #[.pointer (some ⟨gs, 0, none⟩)]), (2, .pointer (some ⟨g2, 0, none⟩)), (4, .pointer (some ⟨g10, 0, none⟩)), (5, .pointer none), (6, .pointer (some ⟨g30, 0, none⟩)), (11, .bool ((decide ((f : Int) < (0 : Int))))), (18, .bool false), (29, .bool ((decide ((0 : Int) < (((l.length : Nat) : Int) : Int))))), (36, .slice a l.length c), (37, .int .i64 (((l.length : Nat) : Int))), (38, .int .i64 (((k : Nat) : Int))), (39, .bool ((decide ((((k : Nat) : Int) : Int) < (((l.length : Nat) : Int) : Int)))))]) ⟨rfl, rfl, rfl, rfl, rfl, rfl, rfl, rfl, rfl, rfl, rfl, rfl, rfl, trivial⟩ ?_)
            refine WE.next ?_
            refine WC.ret ?_
            refine WE.retAny (v := .agg #[.int .i64 f, .slice ((some ⟨g57, 0, none⟩)) l.length l.length]) (fun za zh => ?_) ?_
            · have z0 : za.tmps[4]?.getD undef = .pointer (some ⟨g10, 0, none⟩) := by rw [← Array.getD_eq_getD_getElem?]; exact zh.knows 4 _ rfl
              have y0 : w135.cell? ⟨g10, 0, none⟩ = some (.int .i64 f) := ((hB137.cell 0).trans rfl)
              have y1 : w135.cell? ⟨g10, 1, none⟩ = some (.slice ((some ⟨g57, 0, none⟩)) l.length l.length) := ((hB137.cell 1).trans rfl)
              simp [results, Try.results46, z0, y0, y1, go_sem]
            · have z := ho143
              rw [List.take_of_length_le (by omega)] at z
              have hgz := (hb139).size
              exact ⟨_, rfl, by rw [app_none (fun _ => hf24)]; exact newT_mk hf (by simp) (Nat.le_refl _) (by unfold maxLen; omega) (z.inRow.mono (by decide) (fun b hb _ => by omega)), hb139⟩
      · have h55 : ¬ ((0 : Int) < (((l.length : Nat) : Int) : Int)) := by simpa using h55
        refine WC.skip ?_
        refine WE.next ?_
        refine WC.seq ?_
        refine WC.seq ?_
        refine WC.region ?_
        refine WL.val (.pointer (some ⟨g2, 1, none⟩)) rfl rfl rfl (fun za zC zh zk => fld_32_1 rfl (zh.ev rfl) zk) ?_
        refine WL.val (.slice a l.length c) rfl rfl rfl (fun za zC zh zk => ld_30 rfl (zh.ev rfl) ((hB52.cell 1).trans rfl) zk) ?_
        refine WL.val (.int .i64 (((l.length : Nat) : Int))) rfl rfl rfl (fun za zC zh zk => len_30 rfl (zh.ev rfl) zk) ?_
        refine WL.val (.int .i64 0) rfl rfl rfl (fun za zC zh zk => wp_move rfl (zh.ev rfl) zk) ?_
        refine WL.nil (WE.sub (K' := [(0, .agg #[.int .i64 f, .slice a l.length c]), (1, .func (.func 47) #[] #[.pointer (some ⟨gs, 0, none⟩)]), (2, .pointer (some ⟨g2, 0, none⟩)), (4, .pointer (some ⟨g10, 0, none⟩)), (5, .pointer none), (6, .pointer (some ⟨g30, 0, none⟩)), (11, .bool ((decide ((f : Int) < (0 : Int))))), (18, .bool false), (29, .bool ((decide ((0 : Int) < (((l.length : Nat) : Int) : Int))))), (36, .slice a l.length c), (37, .int .i64 (((l.length : Nat) : Int))), (38, .int .i64 0)]) ⟨rfl, rfl, rfl, rfl, rfl, rfl, rfl, rfl, rfl, rfl, rfl, rfl, trivial⟩ ?_)
        refine WE.next ?_
        refine WC.block ?_
        refine WC.loop (X := Unit) (fun _ => 0) (fun _ => [(0, .agg #[.int .i64 f, .slice a l.length c]), (1, .func (.func 47) #[] #[.pointer (some ⟨gs, 0, none⟩)]), (2, .pointer (some ⟨g2, 0, none⟩)), (4, .pointer (some ⟨g10, 0, none⟩)), (5, .pointer none), (6, .pointer (some ⟨g30, 0, none⟩)), (11, .bool ((decide ((f : Int) < (0 : Int))))), (18, .bool false), (29, .bool ((decide ((0 : Int) < (((l.length : Nat) : Int) : Int))))), (36, .slice a l.length c), (37, .int .i64 (((l.length : Nat) : Int))), (38, .int .i64 0)]) (fun _ w144 => True ∧ Below w.heap.size w w144 ∧ Below w20.heap.size w20 w144 ∧ Blk w144 gs 23 #[.slice sa s.length sc] ∧ Blk w144 g2 32 #[.int .i64 f, .slice a l.length c] ∧ Blk w144 g10 32 #[.int .i64 0, .slice none 0 0] ∧ Blk w144 g30 32 #[.int .i64 f, .slice none 0 0]) (()) ⟨rfl, rfl, rfl, rfl, rfl, rfl, rfl, rfl, rfl, rfl, rfl, rfl, trivial⟩ ?_ ?_
        · exact ⟨trivial, hb46, hb47, hB50, hB52, hB54, hB43⟩
        · rintro _ w144 ⟨_, hb145, hb146, hB147, hB148, hB149, hB150⟩
          refine WC.seq ?_
          refine WC.region ?_
          refine WL.val (.bool ((decide ((0 : Int) < (((l.length : Nat) : Int) : Int))))) rfl rfl rfl (fun za zC zh zk => lss_3 rfl (zh.ev rfl) (zh.ev rfl) zk) ?_
          refine WL.nil (WE.sub (K' := [(0, .agg #[.int .i64 f, .slice a l.length c]), (1, .func (.func 47) #[] #[.pointer (some ⟨gs, 0, none⟩)]), (2, .pointer (some ⟨g2, 0, none⟩)), (4, .pointer (some ⟨g10, 0, none⟩)), (5, .pointer none), (6, .pointer (some ⟨g30, 0, none⟩)), (11, .bool ((decide ((f : Int) < (0 : Int))))), (18, .bool false), (29, .bool ((decide ((0 : Int) < (((l.length : Nat) : Int) : Int))))), (36, .slice a l.length c), (37, .int .i64 (((l.length : Nat) : Int))), (38, .int .i64 0), (39, .bool ((decide ((0 : Int) < (((l.length : Nat) : Int) : Int)))))]) ⟨rfl, rfl, rfl, rfl, rfl, rfl, rfl, rfl, rfl, rfl, rfl, rfl, rfl, trivial⟩ ?_)
          refine WE.next ?_
          refine WC.seq ?_
          refine WC.condF rfl (decide_eq_false (by omega)) ?_
          refine WC.exit ?_
          refine WE.thenExit ?_
          refine WE.thenExit ?_
          refine WE.blockIs rfl ?_
          refine WE.next ?_
          refine WC.seq ?_
          refine WC.region ?_
          refine WL.val (.agg #[.int .i64 f, .slice none 0 0]) rfl rfl rfl (fun za zC zh zk => ld_32 rfl (zh.ev rfl) ((hB150.cell 0).trans rfl) ((hB150.cell 1).trans rfl) zk) ?_
          refine WL.step (post := fun _ w' => Upd g10 w144 w' ∧ Blk w' g10 32 #[.int .i64 f, .slice none 0 0]) rfl rfl rfl (fun za zC zh zk => st_32 rfl (zh.ev rfl) (zh.ev rfl) rfl rfl hB149 (by first | decide | simp) (fun v => zk v _ ⟨(Upd.at_ _ _ _ _).trans (Upd.at_ _ _ _ _), (hB149.set_ 0 _).set_ 1 _⟩)) ?_
          rintro v154 w151 ⟨hu152, hB153⟩
          have hb155 := upd_below hb145 hu152 (by omega)
          have hB156 := upd_blk hB147 hu152 (by omega)
          have hB157 := upd_blk hB148 hu152 (by omega)
          have hB158 := upd_blk hB150 hu152 (by omega)
          refine WL.nil (WE.sub (K' := [(0, .agg #[.int .i64 f, .slice a l.length c]), (1, .func (.func 47) #[] #[.pointer (some ⟨gs, 0, none⟩)]), (2, .pointer (some ⟨g2, 0, none⟩)), (4, .pointer (some ⟨g10, 0, none⟩)), (5, .pointer none), (6, .pointer (some ⟨g30, 0, none⟩)), (11, .bool ((decide ((f : Int) < (0 : Int))))), (18, .bool false), (29, .bool ((decide ((0 : Int) < (((l.length : Nat) : Int) : Int))))), (36, .slice a l.length c), (37, .int .i64 (((l.length : Nat) : Int))), (38, .int .i64 0), (39, .bool ((decide ((0 : Int) < (((l.length : Nat) : Int) : Int)))))]) ⟨rfl, rfl, rfl, rfl, rfl, rfl, rfl, rfl, rfl, rfl, rfl, rfl, rfl, trivial⟩ ?_)
          refine WE.next ?_
          refine WC.ret ?_
          refine WE.retAny (v := .agg #[.int .i64 f, .slice none 0 0]) (fun za zh => ?_) ?_
          · have z0 : za.tmps[4]?.getD undef = .pointer (some ⟨g10, 0, none⟩) := by rw [← Array.getD_eq_getD_getElem?]; exact zh.knows 4 _ rfl
            have y0 : w151.cell? ⟨g10, 0, none⟩ = some (.int .i64 f) := ((hB153.cell 0).trans rfl)
            have y1 : w151.cell? ⟨g10, 1, none⟩ = some (.slice none 0 0) := ((hB153.cell 1).trans rfl)
            simp [results, Try.results46, z0, y0, y1, go_sem]
          · have e : l = [] := List.length_eq_zero_iff.1 (by omega)
            subst e
            exact ⟨_, rfl, by rw [app_none (fun _ => hf24)]; exact newT_leaf hf, hb155⟩
    · rw [hf24] at hto21
      obtain ⟨b159, o160, a161, c162, rfl, h163, h164, h165⟩ := hto21
      refine WL.val (.pointer (some ⟨b159, o160, none⟩)) rfl rfl rfl (fun za zC zh zk => wp_assign rfl (zh.ev rfl) zk) ?_
      refine WL.nil (WE.sub (K' := [(0, .agg #[.int .i64 f, .slice a l.length c]), (1, .func (.func 47) #[] #[.pointer (some ⟨gs, 0, none⟩)]), (2, .pointer (some ⟨g2, 0, none⟩)), (4, .pointer (some ⟨g10, 0, none⟩)), (5, .pointer (some ⟨b159, o160, none⟩)), (11, .bool ((decide ((f : Int) < (0 : Int)))))]) ⟨rfl, rfl, rfl, rfl, rfl, rfl, trivial⟩ ?_)
      refine WE.next ?_
      refine WC.seq ?_
      refine WC.region ?_
      refine WL.val (.pointer (some ⟨b159, o160, none⟩)) rfl rfl rfl (fun za zC zh zk => wp_move rfl (zh.ev rfl) zk) ?_
      refine WL.val (.bool true) rfl rfl rfl (fun za zC zh zk => neqp_57 rfl (zh.ev rfl) (zh.ev rfl) zk) ?_
      refine WL.nil (WE.sub (K' := [(0, .agg #[.int .i64 f, .slice a l.length c]), (1, .func (.func 47) #[] #[.pointer (some ⟨gs, 0, none⟩)]), (2, .pointer (some ⟨g2, 0, none⟩)), (4, .pointer (some ⟨g10, 0, none⟩)), (5, .pointer (some ⟨b159, o160, none⟩)), (11, .bool ((decide ((f : Int) < (0 : Int))))), (18, .bool true)]) ⟨rfl, rfl, rfl, rfl, rfl, rfl, rfl, trivial⟩ ?_)
      refine WE.next ?_
      refine WC.condT rfl rfl ?_
      refine WC.seq ?_
      refine WC.region ?_
      refine WL.val (.pointer (some ⟨b159, o160, none⟩)) rfl rfl rfl (fun za zC zh zk => wp_move rfl (zh.ev rfl) zk) ?_
      refine WL.val (.pointer (some ⟨b159, o160, none⟩)) rfl rfl rfl (fun za zC zh zk => nilCheck_ rfl (zh.ev rfl) zk) ?_
      refine WL.val (.agg #[.int .i64 t23.f, .slice a161 t23.args.length c162]) rfl rfl rfl (fun za zC zh zk => ld_32 rfl (zh.ev rfl) h163 h164 zk) ?_
      have hl169 : gs < w20.heap.size := by have z1 := hB26.lt; have z2 := (hb22).size; omega
      have hl170 : g2 < w20.heap.size := by have z1 := hB18.lt; have z2 := (hb22).size; omega
      have hl171 : g10 < w20.heap.size := by have z1 := hB12.lt; have z2 := (hb22).size; omega
      have hb173 : Below w.heap.size w w20 := (bstep hb25 hb22)
      have hl172 : w.heap.size ≤ w20.heap.size := (hb173).size
      refine WL.call rfl rfl rfl (fun za zh zC => wp_call (by kernel_rfl) rfl (hv1 (zh.ev rfl))) (copy_any t23 _ _ (hs.found hf24) (IsT.below (Below.refl _ _) h165)) ?_
      rintro v166 w174 ⟨hn167, hb168⟩
      obtain ⟨_, a175, c176, rfl, _, _, _⟩ := hn167.form
      have hb178 : Below w9.heap.size w9 w174 := (bstep hb22 hb168)
      have hB177 := hB12.below hb178
      refine WL.step (post := fun _ w' => Upd g10 w174 w' ∧ Blk w' g10 32 #[.int .i64 t23.f, .slice a175 t23.args.length c176]) rfl rfl rfl (fun za zC zh zk => st_32 rfl (zh.ev rfl) (zh.ev rfl) rfl rfl hB177 (by first | decide | simp) (fun v => zk v _ ⟨(Upd.at_ _ _ _ _).trans (Upd.at_ _ _ _ _), (hB177.set_ 0 _).set_ 1 _⟩)) ?_
      rintro v182 w179 ⟨hu180, hB181⟩
      have hb183 : Below w.heap.size w w174 := (bstep hb25 hb178)
      have hb184 := upd_below hb183 hu180 (by omega)
      have hB185 := hB26.below hb178
      have hB186 := upd_blk hB185 hu180 (by omega)
      have hB187 := hB18.below hb178
      have hB188 := upd_blk hB187 hu180 (by omega)
      have ho189 := hn167.upd hu180 (by omega)
      refine WL.nil (WE.sub (K' := [(0, .agg #[.int .i64 f, .slice a l.length c]), (1, .func (.func 47) #[] #[.pointer (some ⟨gs, 0, none⟩)]), (2, .pointer (some ⟨g2, 0, none⟩)), (4, .pointer (some ⟨g10, 0, none⟩)), (5, .pointer (some ⟨b159, o160, none⟩)), (11, .bool ((decide ((f : Int) < (0 : Int))))), (18, .bool true)]) ⟨rfl, rfl, rfl, rfl, rfl, rfl, rfl, trivial⟩ ?_)
      refine WE.next ?_
      refine WC.ret ?_
      refine WE.thenRet ?_
      refine WE.retAny (v := .agg #[.int .i64 t23.f, .slice a175 t23.args.length c176]) (fun za zh => ?_) ?_
      · have z0 : za.tmps[4]?.getD undef = .pointer (some ⟨g10, 0, none⟩) := by rw [← Array.getD_eq_getD_getElem?]; exact zh.knows 4 _ rfl
        have y0 : w179.cell? ⟨g10, 0, none⟩ = some (.int .i64 t23.f) := ((hB181.cell 0).trans rfl)
        have y1 : w179.cell? ⟨g10, 1, none⟩ = some (.slice a175 t23.args.length c176) := ((hB181.cell 1).trans rfl)
        simp [results, Try.results46, z0, y0, y1, go_sem]
      · have z := ho189
        have hgz := (hb173).size
        exact ⟨_, rfl, by rw [app_some ‹_› hf24]; exact z.mono (fun b hb _ => by omega), hb184⟩
  · have h19 : ¬ ((f : Int) < (0 : Int)) := by simpa using h19
    refine WC.skip ?_
    refine WE.next ?_
    refine WC.seq ?_
    refine WC.region ?_
    refine WL.val (.pointer (some ⟨g2, 0, none⟩)) rfl rfl rfl (fun za zC zh zk => fld_32_0 rfl (zh.ev rfl) zk) ?_
    refine WL.val (.int .i64 f) rfl rfl rfl (fun za zC zh zk => ld_3 rfl (zh.ev rfl) ((hB18.cell 0).trans rfl) zk) ?_
    refine WL.val (.agg #[.int .i64 f, .slice none 0 0]) rfl rfl rfl (fun za zC zh zk => build_32_0 rfl (zh.ev rfl) zk) ?_
    refine WL.step (post := NewBlk w9 32 #[.int .i64 0, .slice none 0 0]) rfl rfl rfl (fun za zC zh zk => alloc_32 rfl (zk _ _ (newBlk _ _ _))) ?_
    rintro _ w190 ⟨g191, rfl, hg192, hB193, hb194, hz195⟩
    have hb196 : Below w.heap.size w w9 := (bstep hb5 hb13)
    have hl197 : gs < g191 := by have z1 := hgs.lt; have z2 := (hb196).size; omega
    have hl198 : g2 < g191 := by have z1 := hB18.lt; omega
    have hl199 : g10 < g191 := by have z1 := hB12.lt; omega
    have hl200 : w.heap.size ≤ g191 := by have z2 := (hb196).size; omega
    refine WL.step (post := fun _ w' => Upd g191 w190 w' ∧ Blk w' g191 32 #[.int .i64 f, .slice none 0 0]) rfl rfl rfl (fun za zC zh zk => st_32 rfl (zh.ev rfl) (zh.ev rfl) rfl rfl hB193 (by first | decide | simp) (fun v => zk v _ ⟨(Upd.at_ _ _ _ _).trans (Upd.at_ _ _ _ _), (hB193.set_ 0 _).set_ 1 _⟩)) ?_
    rintro v204 w201 ⟨hu202, hB203⟩
    have hb205 : Below w.heap.size w w190 := (bstep hb196 hb194)
    have hb206 := upd_below hb205 hu202 (by omega)
    have hB207 := hgs.below hb205
    have hB208 := upd_blk hB207 hu202 (by omega)
    have hB209 := hB18.below hb194
    have hB210 := upd_blk hB209 hu202 (by omega)
    have hB211 := hB12.below hb194
    have hB212 := upd_blk hB211 hu202 (by omega)
    refine WL.nil (WE.sub (K' := [(0, .agg #[.int .i64 f, .slice a l.length c]), (1, .func (.func 47) #[] #[.pointer (some ⟨gs, 0, none⟩)]), (2, .pointer (some ⟨g2, 0, none⟩)), (4, .pointer (some ⟨g10, 0, none⟩)), (6, .pointer (some ⟨g191, 0, none⟩)), (11, .bool ((decide ((f : Int) < (0 : Int)))))]) ⟨rfl, rfl, rfl, rfl, rfl, rfl, trivial⟩ ?_)
    refine WE.next ?_
    refine WC.seq ?_
    refine WC.seq ?_
    refine WC.region ?_
    refine WL.val (.pointer (some ⟨g2, 1, none⟩)) rfl rfl rfl (fun za zC zh zk => fld_32_1 rfl (zh.ev rfl) zk) ?_
    refine WL.val (.slice a l.length c) rfl rfl rfl (fun za zC zh zk => ld_30 rfl (zh.ev rfl) ((hB210.cell 1).trans rfl) zk) ?_
    refine WL.val (.int .i64 (((l.length : Nat) : Int))) rfl rfl rfl (fun za zC zh zk => len_30 rfl (zh.ev rfl) zk) ?_
    refine WL.val (.bool ((decide ((0 : Int) < (((l.length : Nat) : Int) : Int))))) rfl rfl rfl (fun za zC zh zk => gtr_3 rfl (zh.ev rfl) (zh.ev rfl) zk) ?_
    refine WL.nil (WE.sub (K' := [(0, .agg #[.int .i64 f, .slice a l.length c]), (1, .func (.func 47) #[] #[.pointer (some ⟨gs, 0, none⟩)]), (2, .pointer (some ⟨g2, 0, none⟩)), (4, .pointer (some ⟨g10, 0, none⟩)), (6, .pointer (some ⟨g191, 0, none⟩)), (11, .bool ((decide ((f : Int) < (0 : Int))))), (29, .bool ((decide ((0 : Int) < (((l.length : Nat) : Int) : Int)))))]) ⟨rfl, rfl, rfl, rfl, rfl, rfl, rfl, trivial⟩ ?_)
    refine WE.next ?_
    refine WC.cond rfl (fun h213 => ?_) (fun h213 => ?_)
    · have h213 : (0 : Int) < (((l.length : Nat) : Int) : Int) := by simpa using h213
      refine WC.region ?_
      refine WL.val (.pointer (some ⟨g2, 1, none⟩)) rfl rfl rfl (fun za zC zh zk => fld_32_1 rfl (zh.ev rfl) zk) ?_
      refine WL.val (.slice a l.length c) rfl rfl rfl (fun za zC zh zk => ld_30 rfl (zh.ev rfl) ((hB210.cell 1).trans rfl) zk) ?_
      refine WL.val (.int .i64 (((l.length : Nat) : Int))) rfl rfl rfl (fun za zC zh zk => len_30 rfl (zh.ev rfl) zk) ?_
      refine WL.step (post := fun v w' => ∃ g, v = .slice (some ⟨g, 0, none⟩) l.length l.length ∧ w201.heap.size = g ∧ Blk w' g 32 (madeCells (Value.cells (.agg #[.int .i64 0, .slice none 0 0])) (l.length * 2)) ∧ Below w201.heap.size w201 w') rfl rfl rfl (fun za zC zh zk => wp_mkE (z := .agg #[.int .i64 0, .slice none 0 0]) (size := 2) (bytes := 32) Try.underlying30 (by kernel_rfl) (by decide) rfl (zh.ev rfl) (zh.ev rfl) (by omega) (zk _ _ ⟨_, rfl, rfl, Blk.new' rfl, balloc _ _⟩)) ?_
      rintro _ w214 ⟨g215, rfl, hg216, hB217, hb218⟩
      have hl220 : gs < g215 := by have z1 := hB208.lt; omega
      have hl221 : g2 < g215 := by have z1 := hB210.lt; omega
      have hl222 : g10 < g215 := by have z1 := hB212.lt; omega
      have hl223 : g191 < g215 := by have z1 := hB203.lt; omega
      have hl224 : w.heap.size ≤ g215 := by have z2 := (hb206).size; omega
      have hM219 : MRow eltT w214 g215 g215 32 l.length (madeCells (Value.cells (.agg #[.int .i64 0, .slice none 0 0])) (l.length * 2)).toList [] := MRow.startT hB217 (Nat.le_refl _)
      refine WL.val (.pointer (some ⟨g191, 1, none⟩)) rfl rfl rfl (fun za zC zh zk => fld_32_1 rfl (zh.ev rfl) zk) ?_
      have hB225 := hB203.below hb218
      refine WL.step (post := fun _ w' => Upd g191 w214 w' ∧ Blk w' g191 32 #[.int .i64 f, .slice ((some ⟨g215, 0, none⟩)) l.length l.length]) rfl rfl rfl (fun za zC zh zk => st_30 rfl (zh.ev rfl) (zh.ev rfl) hB225 (by first | decide | simp) (fun v => zk v _ ⟨Upd.at_ _ _ _ _, hB225.set_ 1 _⟩)) ?_
      rintro v229 w226 ⟨hu227, hB228⟩
      have hb230 : Below w.heap.size w w214 := (bstep hb206 hb218)
      have hb231 := upd_below hb230 hu227 (by omega)
      have hB232 := hB208.below hb218
      have hB233 := upd_blk hB232 hu227 (by omega)
      have hB234 := hB210.below hb218
      have hB235 := upd_blk hB234 hu227 (by omega)
      have hB236 := hB212.below hb218
      have hB237 := upd_blk hB236 hu227 (by omega)
      have ho238 := hM219.upd hu227 (by omega)
      refine WL.nil (WE.sub (K' := [(0, .agg #[.int .i64 f, .slice a l.length c]), (1, .func (.func 47) #[] #[.pointer (some ⟨gs, 0, none⟩)]), (2, .pointer (some ⟨g2, 0, none⟩)), (4, .pointer (some ⟨g10, 0, none⟩)), (6, .pointer (some ⟨g191, 0, none⟩)), (11, .bool ((decide ((f : Int) < (0 : Int))))), (29, .bool ((decide ((0 : Int) < (((l.length : Nat) : Int) : Int)))))]) ⟨rfl, rfl, rfl, rfl, rfl, rfl, rfl, trivial⟩ ?_)
      refine WE.next ?_
      refine WC.seq ?_
      refine WC.seq ?_
      refine WC.region ?_
      refine WL.val (.pointer (some ⟨g2, 1, none⟩)) rfl rfl rfl (fun za zC zh zk => fld_32_1 rfl (zh.ev rfl) zk) ?_
      refine WL.val (.slice a l.length c) rfl rfl rfl (fun za zC zh zk => ld_30 rfl (zh.ev rfl) ((hB235.cell 1).trans rfl) zk) ?_
      refine WL.val (.int .i64 (((l.length : Nat) : Int))) rfl rfl rfl (fun za zC zh zk => len_30 rfl (zh.ev rfl) zk) ?_
      refine WL.val (.int .i64 0) rfl rfl rfl (fun za zC zh zk => wp_move rfl (zh.ev rfl) zk) ?_
      refine WL.nil (WE.sub (K' := [(0, .agg #[.int .i64 f, .slice a l.length c]), (1, .func (.func 47) #[] #[.pointer (some ⟨gs, 0, none⟩)]), (2, .pointer (some ⟨g2, 0, none⟩)), (4, .pointer (some ⟨g10, 0, none⟩)), (6, .pointer (some ⟨g191, 0, none⟩)), (11, .bool ((decide ((f : Int) < (0 : Int))))), (29, .bool ((decide ((0 : Int) < (((l.length : Nat) : Int) : Int))))), (36, .slice a l.length c), (37, .int .i64 (((l.length : Nat) : Int))), (38, .int .i64 0)]) ⟨rfl, rfl, rfl, rfl, rfl, rfl, rfl, rfl, rfl, rfl, trivial⟩ ?_)
      refine WE.next ?_
      refine WC.block ?_
      refine WC.loop (X := Nat) (fun k => l.length - k) (fun k => [(0, .agg #[.int .i64 f, .slice a l.length c]), (1, .func (.func 47) #[] #[.pointer (some ⟨gs, 0, none⟩)]), (2, .pointer (some ⟨g2, 0, none⟩)), (4, .pointer (some ⟨g10, 0, none⟩)), (6, .pointer (some ⟨g191, 0, none⟩)), (11, .bool ((decide ((f : Int) < (0 : Int))))), (29, .bool ((decide ((0 : Int) < (((l.length : Nat) : Int) : Int))))), (36, .slice a l.length c), (37, .int .i64 (((l.length : Nat) : Int))), (38, .int .i64 (((k : Nat) : Int)))]) (fun k w239 => k ≤ l.length ∧ Below w.heap.size w w239 ∧ Blk w239 gs 23 #[.slice sa s.length sc] ∧ Blk w239 g2 32 #[.int .i64 f, .slice a l.length c] ∧ Blk w239 g10 32 #[.int .i64 0, .slice none 0 0] ∧ Blk w239 g191 32 #[.int .i64 f, .slice ((some ⟨g215, 0, none⟩)) l.length l.length] ∧ MRow eltT (w239) g215 g215 32 l.length (madeCells (Value.cells (.agg #[.int .i64 0, .slice none 0 0])) (l.length * 2)).toList ((l.take k).map (T.app s))) 0 ⟨rfl, rfl, rfl, rfl, rfl, rfl, rfl, rfl, rfl, rfl, trivial⟩ ?_ ?_
      · exact ⟨Nat.zero_le _, hb231, hB233, hB235, hB237, hB228, ho238⟩
      · rintro k w239 ⟨hk, hb240, hB241, hB242, hB243, hB244, ho245⟩
        have hgl := ho245.lt
        refine WC.seq ?_
        refine WC.region ?_
        refine WL.val (.bool ((decide ((((k : Nat) : Int) : Int) < (((l.length : Nat) : Int) : Int))))) rfl rfl rfl (fun za zC zh zk => lss_3 rfl (zh.ev rfl) (zh.ev rfl) zk) ?_
        refine WL.nil (WE.sub (K' := [(0, .agg #[.int .i64 f, .slice a l.length c]), (1, .func (.func 47) #[] #[.pointer (some ⟨gs, 0, none⟩)]), (2, .pointer (some ⟨g2, 0, none⟩)), (4, .pointer (some ⟨g10, 0, none⟩)), (6, .pointer (some ⟨g191, 0, none⟩)), (11, .bool ((decide ((f : Int) < (0 : Int))))), (29, .bool ((decide ((0 : Int) < (((l.length : Nat) : Int) : Int))))), (36, .slice a l.length c), (37, .int .i64 (((l.length : Nat) : Int))), (38, .int .i64 (((k : Nat) : Int))), (39, .bool ((decide ((((k : Nat) : Int) : Int) < (((l.length : Nat) : Int) : Int)))))]) ⟨rfl, rfl, rfl, rfl, rfl, rfl, rfl, rfl, rfl, rfl, rfl, trivial⟩ ?_)
        refine WE.next ?_
        refine WC.seq ?_
        refine WC.cond rfl (fun h246 => ?_) (fun h246 => ?_)
        · have h246 : (((k : Nat) : Int) : Int) < (((l.length : Nat) : Int) : Int) := by simpa using h246
          refine WC.skip ?_
          refine WE.next ?_
          refine WC.seq ?_
          refine WC.block ?_
          refine WC.seq ?_
          refine WC.region ?_
          refine WL.val (.int .i64 (((k : Nat) : Int))) rfl rfl rfl (fun za zC zh zk => wp_move rfl (zh.ev rfl) zk) ?_
          obtain ⟨b247, o248, A249, C250, ha251, hc252⟩ := IsTs.open hl
          refine WL.val (.pointer (some ⟨b247, o248 + k * 2, none⟩)) rfl rfl rfl (fun za zC zh zk => ix_30 (k := k) rfl (zh.ev rfl) (ha251 k (by first | omega | (simp; omega))) (zh.ev rfl) (by first | omega | (simp; omega)) zk) ?_
          refine WL.val (.agg #[.int .i64 ((tget l k).f), .slice ((A249 k)) ((tget l k).args.length) ((C250 k))]) rfl rfl rfl (fun za zC zh zk => ld_32 rfl (zh.ev rfl) (bkeeps hb240 _ _ (hc252 k (by first | omega | (simp; omega))).1) (bkeeps hb240 _ _ (hc252 k (by first | omega | (simp; omega))).2.1) zk) ?_
          refine WL.step (post := NewBlk w239 32 #[.int .i64 0, .slice none 0 0]) rfl rfl rfl (fun za zC zh zk => alloc_32 rfl (zk _ _ (newBlk _ _ _))) ?_
          rintro _ w253 ⟨g254, rfl, hg255, hB256, hb257, hz258⟩
          have hl259 : gs < g254 := by have z1 := hB241.lt; omega
          have hl260 : g2 < g254 := by have z1 := hB242.lt; omega
          have hl261 : g10 < g254 := by have z1 := hB243.lt; omega
          have hl262 : g191 < g254 := by have z1 := hB244.lt; omega
          have hl263 : w.heap.size ≤ g254 := by have z2 := (hb240).size; omega
          have hl264 : w239.heap.size ≤ g254 := by omega
          refine WL.val (.int .i64 (((k : Nat) : Int))) rfl rfl rfl (fun za zC zh zk => wp_assign rfl (zh.ev rfl) zk) ?_
          refine WL.step (post := fun _ w' => Upd g254 w253 w' ∧ Blk w' g254 32 #[.int .i64 ((tget l k).f), .slice ((A249 k)) ((tget l k).args.length) ((C250 k))]) rfl rfl rfl (fun za zC zh zk => st_32 rfl (zh.ev rfl) (zh.ev rfl) rfl rfl hB256 (by first | decide | simp) (fun v => zk v _ ⟨(Upd.at_ _ _ _ _).trans (Upd.at_ _ _ _ _), (hB256.set_ 0 _).set_ 1 _⟩)) ?_
          rintro v268 w265 ⟨hu266, hB267⟩
          have hb269 : Below w.heap.size w w253 := (bstep hb240 hb257)
          have hb270 := upd_below hb269 hu266 (by omega)
          have hb271 := upd_below hb257 hu266 (by omega)
          have hB272 := hB241.below hb257
          have hB273 := upd_blk hB272 hu266 (by omega)
          have hB274 := hB242.below hb257
          have hB275 := upd_blk hB274 hu266 (by omega)
          have hB276 := hB243.below hb257
          have hB277 := upd_blk hB276 hu266 (by omega)
          have hB278 := hB244.below hb257
          have hB279 := upd_blk hB278 hu266 (by omega)
          refine WL.nil (WE.sub (K' := [(0, .agg #[.int .i64 f, .slice a l.length c]), (1, .func (.func 47) #[] #[.pointer (some ⟨gs, 0, none⟩)]), (2, .pointer (some ⟨g2, 0, none⟩)), (4, .pointer (some ⟨g10, 0, none⟩)), (6, .pointer (some ⟨g191, 0, none⟩)), (7, .int .i64 (((k : Nat) : Int))), (8, .pointer (some ⟨g254, 0, none⟩)), (11, .bool ((decide ((f : Int) < (0 : Int))))), (29, .bool ((decide ((0 : Int) < (((l.length : Nat) : Int) : Int))))), (36, .slice a l.length c), (37, .int .i64 (((l.length : Nat) : Int))), (38, .int .i64 (((k : Nat) : Int))), (39, .bool ((decide ((((k : Nat) : Int) : Int) < (((l.length : Nat) : Int) : Int)))))]) ⟨rfl, rfl, rfl, rfl, rfl, rfl, rfl, rfl, rfl, rfl, rfl, rfl, rfl, trivial⟩ ?_)
          refine WE.next ?_
          have ho280 := ho245.below hb271
          have hSlt : ∀ b, (fun b => b = g215) b → b < w265.heap.size := fun b e => e ▸ ho280.lt
          have hgl : g215 < w265.heap.size := ho280.lt
          refine WC.tail1 (S := ((fun b => b = g215))) [(true, .val (.pointer (some ⟨g191, 1, none⟩))), (true, .val (.slice ((some ⟨g215, 0, none⟩)) l.length l.length)), (true, .val (.int .i64 (((k : Nat) : Int)))), (true, .val (.agg #[.int .i64 ((tget l k).f), .slice ((A249 k)) ((tget l k).args.length) ((C250 k))])), (true, .val (.func (.func 47) #[] #[.pointer (some ⟨gs, 0, none⟩)])), (true, .mem (fun v w' => NewT w265 w' (((tget l k).app s)) v) (fun v w w' hc h => InT.chg h hc (fun b hb hs => by have z := hSlt b hs; omega))), (true, .val (.pointer (some ⟨g215, 0 + k * 2, none⟩))), (true, .val undef)] [(0, .agg #[.int .i64 f, .slice a l.length c]), (1, .func (.func 47) #[] #[.pointer (some ⟨gs, 0, none⟩)]), (2, .pointer (some ⟨g2, 0, none⟩)), (4, .pointer (some ⟨g10, 0, none⟩)), (6, .pointer (some ⟨g191, 0, none⟩)), (7, .int .i64 (((k : Nat) : Int))), (8, .pointer (some ⟨g254, 0, none⟩)), (11, .bool ((decide ((f : Int) < (0 : Int))))), (29, .bool ((decide ((0 : Int) < (((l.length : Nat) : Int) : Int))))), (36, .slice a l.length c), (37, .int .i64 (((l.length : Nat) : Int))), (38, .int .i64 (((k : Nat) : Int))), (39, .bool ((decide ((((k : Nat) : Int) : Int) < (((l.length : Nat) : Int) : Int)))))] 7 (fun w => MRow eltT w g215 g215 32 l.length (madeCells (Value.cells (.agg #[.int .i64 0, .slice none 0 0])) (l.length * 2)).toList (((l.take k).map (T.app s) ++ [(tget l k).app s]))) (fun w w' hb h => h.below hb) ⟨rfl, rfl, rfl, rfl, rfl, rfl, rfl, rfl, rfl, rfl, rfl, rfl, rfl, trivial⟩ (by kernel_rfl) (by kernel_rfl) (by kernel_rfl) (by kernel_rfl) ?_ ?_
          · refine ⟨.inl ⟨rfl, true, .none rfl, (fun gg b h => by cases h), fun h w => optUndef h, fun zβ za zw zc => ?_⟩, ?_⟩
            · exact fld_32_1 rfl (zc.kn.ev rfl) ⟨_, rfl, Below.refl _ _, optDef zβ rfl⟩
            refine ⟨.inl ⟨rfl, true, .none rfl, (fun gg b h => by cases h), fun h w => optUndef h, fun zβ za zw zc => ?_⟩, ?_⟩
            · exact ld_30 rfl ((show za.eval (.tmp 43) = za.tmps.getD 43 undef from rfl).trans (optSVal (zc.dep 0 43 (by kernel_rfl) (by decide)) rfl rfl)) (bkeeps (zc.early (by kernel_rfl)) _ _ ((hB279.cell 1).trans rfl)) ⟨_, rfl, Below.refl _ _, optDef zβ rfl⟩
            refine ⟨.inl ⟨rfl, true, .none rfl, (fun gg b h => by cases h), fun h w => optUndef h, fun zβ za zw zc => ?_⟩, ?_⟩
            · exact wp_move rfl (zc.kn.ev rfl) ⟨_, rfl, Below.refl _ _, optDef zβ rfl⟩
            refine ⟨.inl ⟨rfl, true, .none rfl, (fun gg b h => by cases h), fun h w => optUndef h, fun zβ za zw zc => ?_⟩, ?_⟩
            · exact ld_32 rfl (zc.kn.ev rfl) (bkeeps (zc.early (by kernel_rfl)) _ _ ((hB267.cell 0).trans rfl)) (bkeeps (zc.early (by kernel_rfl)) _ _ ((hB267.cell 1).trans rfl)) ⟨_, rfl, Below.refl _ _, optDef zβ rfl⟩
            refine ⟨.inl ⟨rfl, true, .none rfl, (fun gg b h => by cases h), fun h w => optUndef h, fun zβ za zw zc => ?_⟩, ?_⟩
            · exact wp_move rfl (zc.kn.ev rfl) ⟨_, rfl, Below.refl _ _, optDef zβ rfl⟩
            refine ⟨.inl ⟨rfl, true, .none rfl, (fun gg b h => by cases h), fun h w => optUndef h, fun zβ za zw zc => ?_⟩, ?_⟩
            · exact wp_call (by kernel_rfl) rfl (hv2 ((show za.eval (.tmp 46) = za.tmps.getD 46 undef from rfl).trans (optSVal (zc.dep 3 46 (by kernel_rfl) (by decide)) rfl rfl)) ((show za.eval (.tmp 47) = za.tmps.getD 47 undef from rfl).trans (optSVal (zc.dep 4 47 (by kernel_rfl) (by decide)) rfl rfl))) (ih _ (tget_mem (by omega)) _ _ (size_at (by omega) hz) (IsT.below (bstep hb270 (zc.early (by kernel_rfl))) (hc252 k (by first | omega | (simp; omega))).2.2) (hs.below (bstep hb270 (zc.early (by kernel_rfl)))) (hB273.below (zc.early (by kernel_rfl)))) (fun v w' h => ⟨v, rfl, h.2, optDef zβ (InT.mono (fun b hb _ => Nat.le_trans (zc.early (by kernel_rfl)).size hb) h.1)⟩)
            refine ⟨.inl ⟨rfl, true, .none rfl, (fun gg b h => by cases h), fun h w => optUndef h, fun zβ za zw zc => ?_⟩, ?_⟩
            · exact ix_30 (k := k) rfl ((show za.eval (.tmp 44) = za.tmps.getD 44 undef from rfl).trans (optSVal (zc.dep 1 44 (by kernel_rfl) (by decide)) rfl rfl)) rfl ((show za.eval (.tmp 45) = za.tmps.getD 45 undef from rfl).trans (optSVal (zc.dep 2 45 (by kernel_rfl) (by decide)) rfl rfl)) (by first | omega | (simp; omega)) ⟨_, rfl, Below.refl _ _, optDef zβ rfl⟩
            refine ⟨.inr ⟨rfl, rfl, fun za zw zc => ?_⟩, ?_⟩
            · have zv := (optSMem (zc.dep 5 48 (by kernel_rfl) (by decide)) rfl rfl)
              obtain ⟨_, a1, c1, e1, _⟩ := zv.form
              rw [e1] at zv
              have zm := ho280.below zc.below
              obtain ⟨cs, hB, hsz⟩ := zm.blkT (k := k) (by simp; omega) (by omega)
              exact st_32 rfl ((show za.eval (.tmp 49) = za.tmps.getD 49 undef from rfl).trans (optSVal (zc.dep 6 49 (by kernel_rfl) (by decide)) rfl rfl)) ((show za.eval (.tmp 48) = za.tmps.getD 48 undef from rfl).trans e1) rfl rfl hB hsz (fun v => ⟨v, rfl, zm.storeT (k := k) (by simp; omega) (by omega) (zv.mono (fun b hb _ => by (try dsimp only at *); omega)), .ofUpd ((Upd.at_ _ _ _ _).trans (Upd.at_ _ _ _ _)) rfl⟩)
            exact trivial
          · intro za w281 zh hG282 hc283 zu
            have hb284 := chg_below hb270 hc283 (fun b hb => (by (try dsimp only at *); omega))
            have hB285 := chg_blk hB273 hc283 (by (try dsimp only at *); omega)
            have hB286 := chg_blk hB275 hc283 (by (try dsimp only at *); omega)
            have hB287 := chg_blk hB277 hc283 (by (try dsimp only at *); omega)
            have hB288 := chg_blk hB279 hc283 (by (try dsimp only at *); omega)
            have hB289 := chg_blk hB267 hc283 (by (try dsimp only at *); omega)
            clear zu
            refine (show WE _ [(0, .agg #[.int .i64 f, .slice a l.length c]), (1, .func (.func 47) #[] #[.pointer (some ⟨gs, 0, none⟩)]), (2, .pointer (some ⟨g2, 0, none⟩)), (4, .pointer (some ⟨g10, 0, none⟩)), (6, .pointer (some ⟨g191, 0, none⟩)), (7, .int .i64 (((k : Nat) : Int))), (8, .pointer (some ⟨g254, 0, none⟩)), (11, .bool ((decide ((f : Int) < (0 : Int))))), (29, .bool ((decide ((0 : Int) < (((l.length : Nat) : Int) : Int))))), (36, .slice a l.length c), (37, .int .i64 (((l.length : Nat) : Int))), (38, .int .i64 (((k : Nat) : Int))), (39, .bool ((decide ((((k : Nat) : Int) : Int) < (((l.length : Nat) : Int) : Int)))))] w281 _ .normal from ?_) za (zh.sub ⟨rfl, rfl, rfl, rfl, rfl, rfl, rfl, rfl, rfl, rfl, rfl, rfl, rfl, trivial⟩)
            refine WE.blockNormal ?_
            refine WE.next ?_
            refine WC.region ?_
            refine WL.val (.int .i64 ((((k + 1) : Nat) : Int))) rfl rfl rfl (fun za zC zh zk => addb_3 rfl (zh.ev rfl) (zh.ev rfl) (wrap_eq (by omega) (by omega) (by omega)) zk) ?_
            refine WL.val (.int .i64 ((((k + 1) : Nat) : Int))) rfl rfl rfl (fun za zC zh zk => wp_move rfl (zh.ev rfl) zk) ?_
            refine WL.nil (WE.sub (K' := [(0, .agg #[.int .i64 f, .slice a l.length c]), (1, .func (.func 47) #[] #[.pointer (some ⟨gs, 0, none⟩)]), (2, .pointer (some ⟨g2, 0, none⟩)), (4, .pointer (some ⟨g10, 0, none⟩)), (6, .pointer (some ⟨g191, 0, none⟩)), (7, .int .i64 (((k : Nat) : Int))), (8, .pointer (some ⟨g254, 0, none⟩)), (11, .bool ((decide ((f : Int) < (0 : Int))))), (29, .bool ((decide ((0 : Int) < (((l.length : Nat) : Int) : Int))))), (36, .slice a l.length c), (37, .int .i64 (((l.length : Nat) : Int))), (38, .int .i64 ((((k + 1) : Nat) : Int))), (39, .bool ((decide ((((k : Nat) : Int) : Int) < (((l.length : Nat) : Int) : Int)))))]) ⟨rfl, rfl, rfl, rfl, rfl, rfl, rfl, rfl, rfl, rfl, rfl, rfl, rfl, trivial⟩ ?_)
            refine WE.round (k + 1) ⟨rfl, rfl, rfl, rfl, rfl, rfl, rfl, rfl, rfl, rfl, trivial⟩ ?_ ?_
            · exact ⟨by omega, hb284, hB285, hB286, hB287, hB288, (by rw [← take_map (by omega)]; exact hG282)⟩
            · omega
        · have h246 : ¬ ((((k : Nat) : Int) : Int) < (((l.length : Nat) : Int) : Int)) := by simpa using h246
          refine WC.exit ?_
          refine WE.thenExit ?_
          refine WE.thenExit ?_
          refine WE.blockIs rfl ?_
          refine WE.next ?_
          refine WC.seq ?_
          refine WC.region ?_
          refine WL.val (.agg #[.int .i64 f, .slice ((some ⟨g215, 0, none⟩)) l.length l.length]) rfl rfl rfl (fun za zC zh zk => ld_32 rfl (zh.ev rfl) ((hB244.cell 0).trans rfl) ((hB244.cell 1).trans rfl) zk) ?_
          refine WL.step (post := fun _ w' => Upd g10 w239 w' ∧ Blk w' g10 32 #[.int .i64 f, .slice ((some ⟨g215, 0, none⟩)) l.length l.length]) rfl rfl rfl (fun za zC zh zk => st_32 rfl (zh.ev rfl) (zh.ev rfl) rfl rfl hB243 (by first | decide | simp) (fun v => zk v _ ⟨(Upd.at_ _ _ _ _).trans (Upd.at_ _ _ _ _), (hB243.set_ 0 _).set_ 1 _⟩)) ?_
          rintro v293 w290 ⟨hu291, hB292⟩
          have hb294 := upd_below hb240 hu291 (by omega)
          have hB295 := upd_blk hB241 hu291 (by omega)
          have hB296 := upd_blk hB242 hu291 (by omega)
          have hB297 := upd_blk hB244 hu291 (by omega)
          have ho298 := ho245.upd hu291 (by omega)
          refine WL.nil (WE.sub (K' := [(0, .agg #[.int .i64 f, .slice a l.length c]), (1, .func (.func 47) #[] #[.pointer (some ⟨gs, 0, none⟩)]), (2, .pointer (some ⟨g2, 0, none⟩)), (4, .pointer (some ⟨g10, 0, none⟩)), (6, .pointer (some ⟨g191, 0, none⟩)), (11, .bool ((decide ((f : Int) < (0 : Int))))), (29, .bool ((decide ((0 : Int) < (((l.length : Nat) : Int) : Int))))), (36, .slice a l.length c), (37, .int .i64 (((l.length : Nat) : Int))), (38, .int .i64 (((k : Nat) : Int))), (39, .bool ((decide ((((k : Nat) : Int) : Int) < (((l.length : Nat) : Int) : Int)))))]) ⟨rfl, rfl, rfl, rfl, rfl, rfl, rfl, rfl, rfl, rfl, rfl, trivial⟩ ?_)
          refine WE.next ?_
          refine WC.ret ?_
          refine WE.retAny (v := .agg #[.int .i64 f, .slice ((some ⟨g215, 0, none⟩)) l.length l.length]) (fun za zh => ?_) ?_
          · have z0 : za.tmps[4]?.getD undef = .pointer (some ⟨g10, 0, none⟩) := by rw [← Array.getD_eq_getD_getElem?]; exact zh.knows 4 _ rfl
            have y0 : w290.cell? ⟨g10, 0, none⟩ = some (.int .i64 f) := ((hB292.cell 0).trans rfl)
            have y1 : w290.cell? ⟨g10, 1, none⟩ = some (.slice ((some ⟨g215, 0, none⟩)) l.length l.length) := ((hB292.cell 1).trans rfl)
            simp [results, Try.results46, z0, y0, y1, go_sem]
          · have z := ho298
            rw [List.take_of_length_le (by omega)] at z
            have hgz := (hb294).size
            exact ⟨_, rfl, by rw [app_none (fun h => absurd h ‹_›)]; exact newT_mk hf (by simp) (Nat.le_refl _) (by unfold maxLen; omega) (z.inRow.mono (by decide) (fun b hb _ => by omega)), hb294⟩
    · have h213 : ¬ ((0 : Int) < (((l.length : Nat) : Int) : Int)) := by simpa using h213
      refine WC.skip ?_
      refine WE.next ?_
      refine WC.seq ?_
      refine WC.seq ?_
      refine WC.region ?_
      refine WL.val (.pointer (some ⟨g2, 1, none⟩)) rfl rfl rfl (fun za zC zh zk => fld_32_1 rfl (zh.ev rfl) zk) ?_
      refine WL.val (.slice a l.length c) rfl rfl rfl (fun za zC zh zk => ld_30 rfl (zh.ev rfl) ((hB210.cell 1).trans rfl) zk) ?_
      refine WL.val (.int .i64 (((l.length : Nat) : Int))) rfl rfl rfl (fun za zC zh zk => len_30 rfl (zh.ev rfl) zk) ?_
      refine WL.val (.int .i64 0) rfl rfl rfl (fun za zC zh zk => wp_move rfl (zh.ev rfl) zk) ?_
      refine WL.nil (WE.sub (K' := [(0, .agg #[.int .i64 f, .slice a l.length c]), (1, .func (.func 47) #[] #[.pointer (some ⟨gs, 0, none⟩)]), (2, .pointer (some ⟨g2, 0, none⟩)), (4, .pointer (some ⟨g10, 0, none⟩)), (6, .pointer (some ⟨g191, 0, none⟩)), (11, .bool ((decide ((f : Int) < (0 : Int))))), (29, .bool ((decide ((0 : Int) < (((l.length : Nat) : Int) : Int))))), (36, .slice a l.length c), (37, .int .i64 (((l.length : Nat) : Int))), (38, .int .i64 0)]) ⟨rfl, rfl, rfl, rfl, rfl, rfl, rfl, rfl, rfl, rfl, trivial⟩ ?_)
      refine WE.next ?_
      refine WC.block ?_
      refine WC.loop (X := Unit) (fun _ => 0) (fun _ => [(0, .agg #[.int .i64 f, .slice a l.length c]), (1, .func (.func 47) #[] #[.pointer (some ⟨gs, 0, none⟩)]), (2, .pointer (some ⟨g2, 0, none⟩)), (4, .pointer (some ⟨g10, 0, none⟩)), (6, .pointer (some ⟨g191, 0, none⟩)), (11, .bool ((decide ((f : Int) < (0 : Int))))), (29, .bool ((decide ((0 : Int) < (((l.length : Nat) : Int) : Int))))), (36, .slice a l.length c), (37, .int .i64 (((l.length : Nat) : Int))), (38, .int .i64 0)]) (fun _ w299 => True ∧ Below w.heap.size w w299 ∧ Blk w299 gs 23 #[.slice sa s.length sc] ∧ Blk w299 g2 32 #[.int .i64 f, .slice a l.length c] ∧ Blk w299 g10 32 #[.int .i64 0, .slice none 0 0] ∧ Blk w299 g191 32 #[.int .i64 f, .slice none 0 0]) (()) ⟨rfl, rfl, rfl, rfl, rfl, rfl, rfl, rfl, rfl, rfl, trivial⟩ ?_ ?_
      · exact ⟨trivial, hb206, hB208, hB210, hB212, hB203⟩
      · rintro _ w299 ⟨_, hb300, hB301, hB302, hB303, hB304⟩
        refine WC.seq ?_
        refine WC.region ?_
        refine WL.val (.bool ((decide ((0 : Int) < (((l.length : Nat) : Int) : Int))))) rfl rfl rfl (fun za zC zh zk => lss_3 rfl (zh.ev rfl) (zh.ev rfl) zk) ?_
        refine WL.nil (WE.sub (K' := [(0, .agg #[.int .i64 f, .slice a l.length c]), (1, .func (.func 47) #[] #[.pointer (some ⟨gs, 0, none⟩)]), (2, .pointer (some ⟨g2, 0, none⟩)), (4, .pointer (some ⟨g10, 0, none⟩)), (6, .pointer (some ⟨g191, 0, none⟩)), (11, .bool ((decide ((f : Int) < (0 : Int))))), (29, .bool ((decide ((0 : Int) < (((l.length : Nat) : Int) : Int))))), (36, .slice a l.length c), (37, .int .i64 (((l.length : Nat) : Int))), (38, .int .i64 0), (39, .bool ((decide ((0 : Int) < (((l.length : Nat) : Int) : Int)))))]) ⟨rfl, rfl, rfl, rfl, rfl, rfl, rfl, rfl, rfl, rfl, rfl, trivial⟩ ?_)
        refine WE.next ?_
        refine WC.seq ?_
        refine WC.condF rfl (decide_eq_false (by omega)) ?_
        refine WC.exit ?_
        refine WE.thenExit ?_
        refine WE.thenExit ?_
        refine WE.blockIs rfl ?_
        refine WE.next ?_
        refine WC.seq ?_
        refine WC.region ?_
        refine WL.val (.agg #[.int .i64 f, .slice none 0 0]) rfl rfl rfl (fun za zC zh zk => ld_32 rfl (zh.ev rfl) ((hB304.cell 0).trans rfl) ((hB304.cell 1).trans rfl) zk) ?_
        refine WL.step (post := fun _ w' => Upd g10 w299 w' ∧ Blk w' g10 32 #[.int .i64 f, .slice none 0 0]) rfl rfl rfl (fun za zC zh zk => st_32 rfl (zh.ev rfl) (zh.ev rfl) rfl rfl hB303 (by first | decide | simp) (fun v => zk v _ ⟨(Upd.at_ _ _ _ _).trans (Upd.at_ _ _ _ _), (hB303.set_ 0 _).set_ 1 _⟩)) ?_
        rintro v308 w305 ⟨hu306, hB307⟩
        have hb309 := upd_below hb300 hu306 (by omega)
        have hB310 := upd_blk hB301 hu306 (by omega)
        have hB311 := upd_blk hB302 hu306 (by omega)
        have hB312 := upd_blk hB304 hu306 (by omega)
        refine WL.nil (WE.sub (K' := [(0, .agg #[.int .i64 f, .slice a l.length c]), (1, .func (.func 47) #[] #[.pointer (some ⟨gs, 0, none⟩)]), (2, .pointer (some ⟨g2, 0, none⟩)), (4, .pointer (some ⟨g10, 0, none⟩)), (6, .pointer (some ⟨g191, 0, none⟩)), (11, .bool ((decide ((f : Int) < (0 : Int))))), (29, .bool ((decide ((0 : Int) < (((l.length : Nat) : Int) : Int))))), (36, .slice a l.length c), (37, .int .i64 (((l.length : Nat) : Int))), (38, .int .i64 0), (39, .bool ((decide ((0 : Int) < (((l.length : Nat) : Int) : Int)))))]) ⟨rfl, rfl, rfl, rfl, rfl, rfl, rfl, rfl, rfl, rfl, rfl, trivial⟩ ?_)
        refine WE.next ?_
        refine WC.ret ?_
        refine WE.retAny (v := .agg #[.int .i64 f, .slice none 0 0]) (fun za zh => ?_) ?_
        · have z0 : za.tmps[4]?.getD undef = .pointer (some ⟨g10, 0, none⟩) := by rw [← Array.getD_eq_getD_getElem?]; exact zh.knows 4 _ rfl
          have y0 : w305.cell? ⟨g10, 0, none⟩ = some (.int .i64 f) := ((hB307.cell 0).trans rfl)
          have y1 : w305.cell? ⟨g10, 1, none⟩ = some (.slice none 0 0) := ((hB307.cell 1).trans rfl)
          simp [results, Try.results46, z0, y0, y1, go_sem]
        · have e : l = [] := List.length_eq_zero_iff.1 (by omega)
          subst e
          exact ⟨_, rfl, by rw [app_none (fun h => absurd h ‹_›)]; exact newT_leaf hf, hb309⟩

end Go.Proofs.Ytgechlgdnnpoeaa

/- Terms compared, as a plain function. -/
namespace Go.Proofs.Ytgechlgdnnpoeaa

namespace T
mutual
def same : T → T → Bool
  | .mk f l, .mk g k => (f == g) && sameL l k
def sameL : List T → List T → Bool
  | [], [] => true
  | a :: r, b :: q => same a b && sameL r q
  | [], _ :: _ => false
  | _ :: _, [] => false
end

mutual
theorem same_iff : ∀ (s t : T), same s t = true ↔ s = t
  | .mk f l, .mk g k => by
    rw [same, Bool.and_eq_true, sameL_iff l k, beq_iff_eq]
    simp
theorem sameL_iff : ∀ (l k : List T), sameL l k = true ↔ l = k
  | [], [] => by simp [sameL]
  | a :: r, b :: q => by rw [sameL, Bool.and_eq_true, same_iff a b, sameL_iff r q]; simp
  | [], _ :: _ => by simp [sameL]
  | _ :: _, [] => by simp [sameL]
end

theorem same_refl (s : T) : same s s = true := (same_iff s s).2 rfl
theorem same_symm (s t : T) : same s t = same t s := by
  rw [Bool.eq_iff_iff, same_iff, same_iff]; exact ⟨Eq.symm, Eq.symm⟩

mutual
def cmp : T → T → Int
  | .mk f l, .mk g k => if f ≠ g then (if f < 0 ∧ g < 0 then (if g < f then -1 else 1) else if f < g then -1 else 1) else cmpL l k
def cmpL : List T → List T → Int
  | [], [] => 0
  | a :: r, b :: q => if cmp a b = 0 then cmpL r q else cmp a b
  | [], _ :: _ => -1
  | _ :: _, [] => 1
end

mutual
theorem cmp_zero : ∀ (s t : T), cmp s t = 0 ↔ s = t
  | .mk f l, .mk g k => by
    rw [cmp]
    have h := cmpL_zero l k
    by_cases hfg : f = g
    · subst hfg; simp [h]
    · rw [if_pos (by simpa using hfg)]
      simp only [T.mk.injEq, hfg, false_and, iff_false]
      (repeat' split) <;> simp
theorem cmpL_zero : ∀ (l k : List T), cmpL l k = 0 ↔ l = k
  | [], [] => by simp [cmpL]
  | a :: r, b :: q => by
    rw [cmpL]
    have h1 := cmp_zero a b
    have h2 := cmpL_zero r q
    by_cases h : cmp a b = 0
    · rw [if_pos h, h2, h1.1 h]; simp
    · rw [if_neg h]
      simp only [h, false_iff, List.cons.injEq, not_and]
      intro e; exact absurd (h1.2 e) h
  | [], _ :: _ => by simp [cmpL]
  | _ :: _, [] => by simp [cmpL]
end

theorem cmp_same (s t : T) : if same s t = true then cmp s t = 0 else ¬ cmp s t = 0 := by
  by_cases h : s = t
  · rw [if_pos ((same_iff s t).2 h)]; exact (cmp_zero s t).2 h
  · rw [if_neg (fun e => h ((same_iff s t).1 e))]; exact fun e => h ((cmp_zero s t).1 e)

theorem cmpL_drop (l q : List T) (k : Nat) (h : k < l.length) (h' : k < q.length) : cmpL (l.drop k) (q.drop k) = if cmp l[k] q[k] = 0 then cmpL (l.drop (k + 1)) (q.drop (k + 1)) else cmp l[k] q[k] := by
  rw [List.drop_eq_getElem_cons h, List.drop_eq_getElem_cons h', cmpL]
theorem cmpL_long (l q : List T) (k : Nat) (h : k < l.length) (h' : q.length ≤ k) : cmpL (l.drop k) (q.drop k) = 1 := by
  rw [List.drop_eq_getElem_cons h, List.drop_eq_nil_of_le h', cmpL]
theorem cmpL_short (l q : List T) (h : l.length < q.length) : cmpL (l.drop l.length) (q.drop l.length) = -1 := by
  rw [List.drop_eq_getElem_cons h, List.drop_eq_nil_of_le (Nat.le_refl _), cmpL]
theorem cmpL_end (l q : List T) (h : q.length ≤ l.length) : cmpL (l.drop l.length) (q.drop l.length) = 0 := by
  rw [List.drop_eq_nil_of_le h, List.drop_eq_nil_of_le (Nat.le_refl _), cmpL]
end T

end Go.Proofs.Ytgechlgdnnpoeaa

/- Terms that are the same: the program's way. -/
namespace Go.Proofs.Ytgechlgdnnpoeaa
open Go.RowKit Go.Sort Go

theorem T.sameL_len : ∀ (l q : List T), l.length ≠ q.length → T.sameL l q = false
  | [], [], h => absurd rfl h
  | _ :: r, _ :: q, h => by rw [T.sameL, T.sameL_len r q (by simpa using h), Bool.and_false]
  | [], _ :: _, _ => rfl
  | _ :: _, [], _ => rfl
theorem T.sameL_drop (l q : List T) (k : Nat) (h : k < l.length) (h' : k < q.length) : T.sameL (l.drop k) (q.drop k) = (T.same l[k] q[k] && T.sameL (l.drop (k + 1)) (q.drop (k + 1))) := by
  rw [List.drop_eq_getElem_cons h, List.drop_eq_getElem_cons h', T.sameL]
theorem T.sameL_end (l q : List T) (h : l.length = q.length) : T.sameL (l.drop l.length) (q.drop l.length) = true := by
  rw [List.drop_eq_nil_of_le (Nat.le_refl _), List.drop_eq_nil_of_le (by omega), T.sameL]

theorem equalFunc_any (l q : List T) (ih : ∀ a ∈ l, ∀ (t : T) (w : World) (v u : Value), IsT w a v → IsT w t u →
      Calls Try.prog 50 #[v, u] w fun e w' => e = .returned (.bool (T.same a t)) ∧ Below w.heap.size w w')
    (w : World) (a a' : Option Addr) (c c' : Nat) (hc : l.length ≤ c) (_hc' : q.length ≤ c') (hm : c ≤ maxLen) (_hm' : c' ≤ maxLen) (hl : IsTs w l a 0) (hq : IsTs w q a' 0) :
    Calls Try.prog 66 #[.slice a l.length c, .slice a' q.length c', .func (.func 50) #[] #[]] w fun e w' => e = .returned (.bool (T.sameL l q)) ∧ Below w.heap.size w w' := by
  unfold maxLen at hm
  by_cases hlen : l.length = q.length
  · have hne : ((l.length : Int) != (q.length : Int)) = false := by simp [hlen]
    have HL := Lib.hid hlen
    go_enter Try.func66, Try.ntmps66
    clear hlen
    go_wp2_with fail
    go_loopw [17] (fun i wr => ∃ (k : Nat), k ≤ l.length ∧ i = .int .i64 k ∧ Hid (T.sameL l q = T.sameL (l.drop k) (q.drop k)) ∧ Below w.heap.size w wr) (fun i _ => l.length - (intOf i).toNat)
    case atStart => exact ⟨0, Nat.zero_le _, rfl, rfl, Below.refl _ _⟩
    case round =>
      obtain ⟨k, hk, rfl, hx, hw⟩ := hrel
      by_cases hlt : k < l.length
      · have hlq : k < q.length := by have := HL.out; omega
        obtain ⟨b1, o1, a1, c1, rfl, g1, g2, h3⟩ := hl.at_ hw k hlt
        obtain ⟨b2, o2, a2, c2, rfl, g3, g4, h4⟩ := hq.at_ hw k hlq
        have IH := fun w v u => ih l[k] (List.getElem_mem hlt) q[k] w v u
        have q5 := T.sameL_drop l q k hlt hlq
        have g3 := calloc g3
        have g4 := calloc g4
        cases hz : T.same l[k] q[k] with
        | true =>
          rw [hz] at IH
          have Hh3 := Lib.hid h3
          have Hh4 := Lib.hid h4
          have Hhw := Lib.hid hw
          have Hq5 := Lib.hid q5
          have Hhx := Lib.hid hx
          have Hhz := Lib.hid hz
          clear h3 h4 hw q5 hx hz
          clear ih hl hq
          go_wp2_with (go_at_call 50; refine (IH _ _ _ (Hh3.out.below (balloc2 _ _ _)) (Hh4.out.below (balloc2 _ _ _))).mono ?_; rintro e w' ⟨rfl, hb'⟩)
          go_roundw
          case rel => exact ⟨k + 1, by omega, by go_num, by unfold Hid; rw [Hhx.out, Hq5.out, Hhz.out, Bool.true_and], bstep (bstep Hhw.out (balloc2 _ _ _)) hb'⟩
          case measure => simp [intOf]; omega
        | false =>
          rw [hz] at IH
          have Hh3 := Lib.hid h3
          have Hh4 := Lib.hid h4
          have Hhw := Lib.hid hw
          have Hq5 := Lib.hid q5
          have Hhx := Lib.hid hx
          have Hhz := Lib.hid hz
          clear h3 h4 hw q5 hx hz
          clear ih hl hq
          go_wp2_with (go_at_call 50; refine (IH _ _ _ (Hh3.out.below (balloc2 _ _ _)) (Hh4.out.below (balloc2 _ _ _))).mono ?_; rintro e w' ⟨rfl, hb'⟩)
          go_ret
          exact ⟨rbool (by rw [Hhx.out, Hq5.out, Hhz.out, Bool.false_and]), bstep (bstep Hhw.out (balloc2 _ _ _)) hb'⟩
      · obtain rfl : k = l.length := by omega
        have Q := Lib.hid (T.sameL_end l q HL.out)
        have Hhw := Lib.hid hw
        have Hhx := Lib.hid hx
        clear hw hx
        clear ih hl hq
        go_wp2_with fail
        go_ret
        exact ⟨rbool (by rw [Hhx.out, Q.out]), Hhw.out⟩
  · have hne : ((l.length : Int) != (q.length : Int)) = true := by simpa using fun h => hlen (by omega)
    have E := Lib.hid (T.sameL_len l q hlen)
    clear ih hl hq hlen
    go_enter Try.func66, Try.ntmps66
    go_wp2_with fail
    go_ret
    exact ⟨rbool E.out, Below.refl _ _⟩

theorem same_any (s : T) : ∀ (t : T) (w : World) (v u : Value), IsT w s v → IsT w t u →
    Calls Try.prog 50 #[v, u] w fun e w' => e = .returned (.bool (T.same s t)) ∧ Below w.heap.size w w' := by
  induction s using T.ind with
  | h f l ih =>
  intro t w v u hv hu
  obtain ⟨g, q⟩ := t
  obtain ⟨_, a, c, rfl, hc, hm, hl⟩ := hv
  obtain ⟨_, a', c', rfl, hc', hm', hq⟩ := hu
  have EF := fun (w' : World) hb => equalFunc_any l q ih w' a a' c c' hc hc' hm hm' (IsTs.below (w := w) (w' := w') hb hl) (hq.below hb)
  clear ih hl hq
  by_cases hfg : f = g
  · have hne : (f == g) = true := by simpa using hfg
    have E := Lib.hid (show T.same (.mk f l) (.mk g q) = T.sameL l q by rw [T.same, hne, Bool.true_and])
    subst hfg
    go_enter Try.func50, Try.ntmps50
    go_wp2_with (go_at_call 66; refine (EF _ (balloc2 _ _ _)).mono ?_; rintro e w' ⟨rfl, hb'⟩)
    go_ret
    exact ⟨rbool E.out, bstep (balloc2 _ _ _) hb'⟩
  · have hne : (f == g) = false := by simpa using hfg
    have E := Lib.hid (show T.same (.mk f l) (.mk g q) = false by rw [T.same, hne, Bool.false_and])
    clear hfg
    go_enter Try.func50, Try.ntmps50
    go_wp2_with fail
    go_ret
    exact ⟨rbool E.out, balloc2 _ _ _⟩

end Go.Proofs.Ytgechlgdnnpoeaa

namespace Go.Proofs.Ytgechlgdnnpoeaa
open Go.RowKit Go

section
variable {P : Program}
theorem wpIn_n {r : Option Nat} {n m : Nat} {c : Code} {Q : Exit → Act → World → Prop} {a : Act} {w : World} (h : c.wpIn (fen r) n P Q a w) : c.wpIn (fen r) m P Q a w := fun b k cs hro hb _ => h b k cs hro hb (fen_room _ _)
theorem callB_enters {F : FuncId} (hF : callB P F = true) (args : Array Value) (w : World) : (callFunc F args).run P w = .ok (.enter F args) w := by
  unfold callB at hF
  split at hF
  · rename_i fn hfn
    simp only [Bool.and_eq_true, Bool.not_eq_true'] at hF
    have hp : (Sem.run P program w) = .ok P w := rfl
    simp only [callFunc, Sem.run_bind, Sem.run_pure, Result.andThen_ok, hp, hfn, hF.1, hF.2, Bool.false_eq_true, if_false]
  · simp at hF
end

/-! ### Operations behind guards, one after the other -/
section
variable {P : Program} {n : Fr} {K K' : Known} {w : World} {ops : Array Oper} {o : Oper} {rest : List Oper} {Q : Exit → Act → World → Prop}
theorem bool_split {X : Prop} (b : Bool) (ht : b = true → X) (hf : b = false → X) : X := by
  cases b
  · exact hf rfl
  · exact ht rfl
theorem wp_pickT {a : Act} {C : Act → World → Prop} {x y z : Operand} {v : Value} (ho : o.op = .pick x y z) (hx : a.eval x = .bool true) (hy : a.eval y = v) (hK : C (a.put o.dst v) w) : o.wp P a w C Q := by
  unfold Oper.wp execOp
  simp only [ho, hx, hy]
  exact hK
theorem wp_pickF {a : Act} {C : Act → World → Prop} {x y z : Operand} {v : Value} (ho : o.op = .pick x y z) (hx : a.eval x = .bool false) (hz : a.eval z = v) (hK : C (a.put o.dst v) w) : o.wp P a w C Q := by
  unfold Oper.wp execOp
  simp only [ho, hx, hz]
  exact hK
theorem WL.sub (hs : subK K' K) (h : WL P ops n K' w rest Q) : WL P ops n K w rest Q := fun a ha => h a (ha.sub hs)
theorem yielded_known {a : Act} {g d : Nat} {c : Bool} (ha : Kn n K a) (hd : (ops[g]?).bind (·.dst) = some d) (hk : look K d = some (.bool c)) : yielded ops a.tmps g = some c := by
  have := ha.knows d _ hk
  unfold yielded
  rw [hd]
  rcases Nat.lt_or_ge d a.tmps.size with h | h
  · simp only [Array.getD_eq_getD_getElem?, Array.getElem?_eq_getElem h, Option.getD_some] at this
    simp [h, this]
  · simp [Array.getD, Nat.not_lt.2 h, undef] at this
theorem WL.want {g d : Nat} {b : Bool} (hg : o.guard = some (g, b)) (hd : (ops[g]?).bind (·.dst) = some d) (hk : look K d = some (.bool b)) (h : WL P ops n K w ({ o with guard := none } :: rest) Q) : WL P ops n K w (o :: rest) Q := fun a ha => by
  have := h a ha
  unfold wpListIn at this ⊢
  have e1 : Region.wanted o (yielded ops a.tmps) = true := by unfold Region.wanted; rw [hg]; simp only [yielded_known ha hd hk]; cases b <;> rfl
  rw [if_pos e1]
  have e2 : Region.wanted { o with guard := none } (yielded ops a.tmps) = true := rfl
  rw [if_pos e2] at this
  exact this
theorem WL.skip {g d : Nat} {b c : Bool} (hg : o.guard = some (g, b)) (hd : (ops[g]?).bind (·.dst) = some d) (hk : look K d = some (.bool c)) (hne : (c == b) = false) (hlt : dstB n.n o.dst = true) (h : WL P ops n (putK K o.dst undef) w rest Q) : WL P ops n K w (o :: rest) Q := fun a ha => by
  unfold wpListIn
  have e1 : Region.wanted o (yielded ops a.tmps) = false := by unfold Region.wanted; rw [hg]; simp only [yielded_known ha hd hk]; simpa using hne
  rw [if_neg (by rw [e1]; decide)]
  exact ⟨fun f _ => fen_fn _ f, h _ (ha.puts hlt undef)⟩
end

section
variable {P : Program} {n : Fr} {K : Known} {w : World} {ops : Array Oper} {o : Oper} {rest : List Oper} {Q : Exit → Act → World → Prop}
theorem WL.skipU {g d : Nat} {b : Bool} (hg : o.guard = some (g, b)) (hd : (ops[g]?).bind (·.dst) = some d) (hk : look K d = some undef) (hlt : dstB n.n o.dst = true) (h : WL P ops n (putK K o.dst undef) w rest Q) : WL P ops n K w (o :: rest) Q := fun a ha => by
  unfold wpListIn
  have hy : yielded ops a.tmps g = none := by
    have := ha.knows d _ hk
    unfold yielded
    rw [hd]
    rcases Nat.lt_or_ge d a.tmps.size with h | h
    · simp only [Array.getD_eq_getD_getElem?, Array.getElem?_eq_getElem h, Option.getD_some] at this
      simp [h, this, undef]
    · simp [Array.getElem?_eq_none h]
  have e1 : Region.wanted o (yielded ops a.tmps) = false := by unfold Region.wanted; rw [hg]; simp only [hy]; cases b <;> rfl
  rw [if_neg (by rw [e1]; decide)]
  exact ⟨fun f _ => fen_fn _ f, h _ (ha.puts hlt undef)⟩
end

/-- What is no cells may have been turned, from the block 'B' on. -/
structure Turn (B : Nat) (w w' : World) : Prop where
  os : w'.os = w.os
  tape : w'.tape = w.tape
  output : w'.output = w.output
  size : w.heap.size ≤ w'.heap.size
  block : ∀ (k : Nat) (o : Obj), w.heap[k]? = some o → (o.isCells = true ∨ k < B) → w'.heap[k]? = some o
theorem Turn.of {B : Nat} {w w' : World} {row : Option Nat} (h : w.grownBy w' row) (hr : ∀ r, row = some r → B ≤ r ∧ ∃ o : Obj, w.heap[r]? = some o ∧ o.isCells = false) : Turn B w w' :=
  ⟨h.os, h.tape, h.output, h.size, fun k o hk ho => (h.block k (Array.getElem?_eq_some_iff.1 hk).1 (fun e => by
    obtain ⟨h1, o', h2, h3⟩ := hr k e.symm
    rw [hk] at h2; obtain rfl := Option.some.inj h2
    rcases ho with ho | ho
    · rw [h3] at ho; cases ho
    · omega)).trans hk⟩
theorem below_turn {B : Nat} {w0 w w' : World} (h : Below w0.heap.size w0 w) (t : Turn B w w') (hB : w0.heap.size ≤ B) : Below w0.heap.size w0 w' :=
  ⟨t.os.trans h.os, t.tape.trans h.tape, t.output.trans h.output, Nat.le_trans h.size t.size, fun k hk => by
    have := h.block k hk
    rw [Array.getElem?_eq_getElem hk] at this ⊢
    exact t.block k _ this (.inr (by omega))⟩
theorem chg_turn {B : Nat} {S : Nat → Prop} {w0 w w' : World} (h : Chg S w0 w) (t : Turn B w w') (hB : w0.heap.size ≤ B) : Chg S w0 w' :=
  ⟨t.os.trans h.os, t.tape.trans h.tape, t.output.trans h.output, Nat.le_trans h.size t.size, fun k hk hS => by
    have := h.block k hk hS
    rw [Array.getElem?_eq_getElem hk] at this ⊢
    exact t.block k _ this (.inr (by omega))⟩
theorem blk_turn {B b : Nat} {ty : TypeId} {cs : Array Value} {w w' : World} (h : Blk w b ty cs) (t : Turn B w w') : Blk w' b ty cs := t.block b _ h (.inl rfl)
theorem own_turn {B : Nat} {w w' : World} {S : Nat → Prop} {e : TypeId} {size : Nat} {ra : Option Addr} {rc n : Nat} {xs : List Value} (h : Own w S e size ra rc n xs) (t : Turn B w w') : Own w' S e size ra rc n xs := by
  refine ⟨⟨h.1.1, h.1.2.imp id ?_⟩, h.2⟩
  rintro ⟨g, cap, cur, e1, e2, e3, r⟩
  exact ⟨g, cap, cur, e1, e2, t.block g _ e3 (.inl rfl), r⟩

/-- A walk through what a loop's round does keeps what is no cells. -/
theorem keepsFrom_below {B : Nat} {w w' : World} (h : Below w.heap.size w w') : KeepsFrom B w w' :=
  ⟨h.size, fun k o _ hk _ => (h.block k (Array.getElem?_eq_some_iff.1 hk).1).trans hk⟩
theorem keepsFrom_upd {B g : Nat} {t : TypeId} {cs : Array Value} {w w' : World} (h : Upd g w w') (hb : Blk w g t cs) : KeepsFrom B w w' :=
  ⟨Nat.le_of_eq h.size.symm, fun k o _ hk ho => (h.block k (fun e => by subst e; rw [show w.heap[k]? = _ from hb] at hk; obtain rfl := Option.some.inj hk; cases ho)).trans hk⟩
theorem keepsFrom_updLow {B g : Nat} {w w' : World} (h : Upd g w w') (hb : g < B) : KeepsFrom B w w' :=
  ⟨Nat.le_of_eq h.size.symm, fun k o hB hk _ => (h.block k (fun e => by omega)).trans hk⟩
theorem keepsFrom_chg {B : Nat} {S : Nat → Prop} {w w' : World} (h : Chg S w w') (hb : ∀ (k : Nat) (o : Obj), B ≤ k → w.heap[k]? = some o → o.isCells = false → ¬ S k) : KeepsFrom B w w' :=
  ⟨h.size, fun k o hB hk ho => (h.block k (Array.getElem?_eq_some_iff.1 hk).1 (hb k o hB hk ho)).trans hk⟩

abbrev markOf (D : Nat) : Deferred := { target := .collected D, args := #[] }

/-! ### Leaving behind such loops -/
/-- The mark of such a loop. -/
def Mk (w : World) (D : Nat) : Prop := w.heap[D]? = some (.deferred (some []))
theorem Mk.lt {w : World} {D : Nat} (h : Mk w D) : D < w.heap.size := (Array.getElem?_eq_some_iff.1 h).1
theorem Mk.below {w w' : World} {D : Nat} (h : Mk w D) (hb : Below w.heap.size w w') : Mk w' D := (hb.block D h.lt).trans h
theorem Mk.upd {w w' : World} {D g : Nat} (h : Mk w D) (hu : Upd g w w') (hg : D ≠ g) : Mk w' D := (hu.block D hg).trans h
theorem Mk.chg {w w' : World} {D : Nat} {S : Nat → Prop} (h : Mk w D) (hc : Chg S w w') (hg : ¬ S D) : Mk w' D := (hc.block D h.lt hg).trans h
theorem shut_all : ∀ (Ds : List Nat) (w : World), (∀ D ∈ Ds, Mk w D) → Ds.Nodup → ∃ w', Shut (Ds.map markOf) w w' ∧ Chg (fun b => b ∈ Ds) w w' ∧ (∀ (k : Nat) (o : Obj), w.heap[k]? = some o → o.isCells = true → w'.heap[k]? = some o)
  | [], w, _, _ => ⟨w, .nil w, ⟨rfl, rfl, rfl, Nat.le_refl _, fun _ _ _ => rfl⟩, fun _ _ h _ => h⟩
  | D :: r, w, h, hn => by
    have hD := h D (by simp)
    have hlt := (Array.getElem?_eq_some_iff.1 hD).1
    have hg := grownBy_putObj' w D (.deferred none)
    obtain ⟨w', h1, h2, h3⟩ := shut_all r (w.putObj D (.deferred none)) (fun D' hD' => by
      have hne : D ≠ D' := by rintro rfl; exact (List.nodup_cons.1 hn).1 hD'
      exact (World.putObj_heap_other (Ne.symm hne)).trans (h D' (by simp [hD']))) (List.nodup_cons.1 hn).2
    refine ⟨w', .cons D hD h1, ⟨h2.os.trans hg.os, h2.tape.trans hg.tape, h2.output.trans hg.output, Nat.le_trans hg.size h2.size, fun k hk hS => ?_⟩, fun k o hk ho => ?_⟩
    · have hne : some k ≠ some D := fun e => hS (by rw [Option.some.inj e]; simp)
      exact (h2.block k (Nat.lt_of_lt_of_le hk hg.size) (fun hm => hS (by simp [hm]))).trans (hg.block k hk hne)
    · have hne : some k ≠ some D := fun e => by rw [Option.some.inj e, show w.heap[D]? = _ from hD] at hk; obtain rfl := Option.some.inj hk; cases ho
      exact h3 k o ((hg.block k (Array.getElem?_eq_some_iff.1 hk).1 hne).trans hk) ho

section
variable {P : Program} {N : Nat} {r : Option Nat} {ds : List Deferred} {K : Known} {w w' : World} {fn : Func} {R : Ending → World → Prop}
theorem WE.retAnyS {v : Value} (hs : Shut ds w w') (hr : ∀ a, Kn ⟨N, ds, r⟩ K a → (results fn a.tmps).run P w' = .ok v w') (hR : R (.returned v) w') : WE ⟨N, ds, r⟩ K w (bodyPostW P fn R) .ret := fun a ha => by
  show LeavesInM _ _ _ _ _ _ a.defers _ _
  rw [ha.defers]; exact leaves_shut hs (hr a ha) hR
end

section
variable {P : Program} {N : Nat} {ds : List Deferred}
theorem Kn.sets {K : Known} {a : Act} (h : Kn ⟨N, ds, none⟩ K a) : ∀ {ps : List Nat} {vs : List Value}, (ps.all fun p => Nat.blt p N) = true → Kn ⟨N, ds, none⟩ ((ps.zip vs).foldl (fun K p => (p.1, p.2) :: K) K) ⟨(ps.zip vs).foldl (fun t p => t.setIfInBounds p.1 p.2) a.tmps, a.defers⟩ := by
  intro ps
  induction ps generalizing K a with
  | nil => intro vs _; exact h
  | cons p r ih =>
    intro vs hp
    cases vs with
    | nil => exact h
    | cons v vs =>
      simp only [List.all_cons, Bool.and_eq_true] at hp
      exact ih (a := a.put (some p) v) (h.put hp.1 v) hp.2
theorem kn_frame {n : Nat} {d1 d2 : List Deferred} {r1 r2 : Option Nat} {K : Known} {t : Array Value} (h : Kn ⟨n, d1, r1⟩ K ⟨t, d1⟩) : Kn ⟨n, d2, r2⟩ K ⟨t, d2⟩ := ⟨h.size, rfl, h.knows⟩

/-- The law of a loop over a function: of 'x' it hands out 'encs x' into the slots 'ps'; a round changes blocks of 'S' alone. -/
theorem WC.range {α γ : Type} {g : Operand} {ps : List Nat} {assign body : Code} {Q : Exit → Act → World → Prop} {K : Known} {w : World} (S : Nat → Prop) {gf : Nat} {lb : Array Value} (hg : ev K g = some (.func (.func gf) #[] lb)) (hF : callB P gf = true) (hp : (ps.all fun p => Nat.blt p N) = true)
    {encs : α → List Value} {Sx Sp : List α → Prop} {M : Nat} {w0 : World} (hseq : SeqStopsK Fence.wide 0 P gf lb (fun x => (encs x).toArray) (Chg S) Sx Sp M w0)
    (hS : ∀ l, w.heap.size ≤ l → S l) (hb0 : Below w0.heap.size w0 w) (hps : ∀ x, (encs x).length = ps.length)
    (KB : α → γ → Known) (AW : α → γ → World → Prop) (I : List α → World → Prop) (Ix : Code → List α → World → Prop) (hI : ∀ s W W', Turn w.heap.size W W' → I s W → I s W') (hIx : ∀ c s W W', Turn w.heap.size W W' → Ix c s W → Ix c s W')
    (hAW : ∀ x y W W', Turn w.heap.size W W' → AW x y W → AW x y W') (h0 : I [] w)
    (hassign : ∀ (l : Nat) (pre : List α) (x : α) (W : World), I pre W → WC P ⟨N, [], some l⟩ ((ps.zip (encs x)).foldl (fun K p => (p.1, p.2) :: K) K) W assign (Exit.then (fun a' W' => Below W.heap.size W W' ∧ ∃ y, Kn ⟨N, [], some l⟩ (KB x y) a' ∧ AW x y W') (fun _ _ _ => False)))
    (hbody : ∀ (l : Nat) (pre : List α) (x : α) (y : γ) (W : World), I pre W → AW x y W → pre.length < M → WC P ⟨N, [], some l⟩ (KB x y) W body (ownPostG w.heap.size (Chg S) I Ix (pre ++ [x]) W))
    (hdone : ∀ (D : Nat) (xs : List α) (W : World), w.heap.size ≤ D → Sx xs → I xs W → Mk W D → WE ⟨N, markOf D :: ds, none⟩ K W Q .normal)
    (hstop : ∀ (D : Nat) (c : Code) (pre : List α) (W : World), w.heap.size ≤ D → Sp pre → Ix c pre W → Mk W D → WC P ⟨N, markOf D :: ds, none⟩ K W c Q) :
    WC P ⟨N, ds, none⟩ K w (.rangeFunc g ps.toArray assign body) Q := by
  intro a ha
  have turn : ∀ {W W' : World} {row : Option Nat}, W.grownBy W' row → (∀ r, row = some r → w.heap.size ≤ r ∧ ∃ o : Obj, W.heap[r]? = some o ∧ o.isCells = false) → Turn w.heap.size W W' := fun h hr => Turn.of h hr
  refine wpIn_n (r := none) (n := 1) (wpIn_rangeFunc_ownH (F := Fence.wide) (n := 1) rfl (Nat.le_refl _) (ha.ev hg) trivial (callB_enters hF) (encs := fun x => (encs x).toArray) hseq (fun h k => h.trans k) (fun W l o o' hl h _ _ => ?_) hb0 (fun x => by simpa using hps x)
    I Ix (fun s W W' row h hg hr => hI s W W' (turn hg hr) h) (fun c s W W' row h hg hr => hIx c s W W' (turn hg hr) h) h0 (fun x a' W => ∃ y, Kn ⟨N, [], none⟩ (KB x y) a' ∧ AW x y W) (fun x a' s W W' row h hg hr => by
      obtain ⟨y, h1, h2⟩ := h
      exact ⟨y, h1, hAW x y W W' (turn hg hr) h2⟩) ?_ ?_ ?_ ?_)
  · have hg := grownBy_putObj' W l o'
    exact ⟨hg.os, hg.tape, hg.output, hg.size, fun k hk hn => hg.block k hk (fun e => hn (by rw [Option.some.inj e]; exact hS l hl))⟩
  · intro l pre x W C hi hC
    have ha' : Kn ⟨N, [], some l⟩ ((ps.zip (encs x)).foldl (fun K p => (p.1, p.2) :: K) K) ⟨(ps.zip (encs x)).foldl (fun t p => t.setIfInBounds p.1 p.2) a.tmps, []⟩ := by
      have h1 : Kn ⟨N, [], none⟩ K ⟨a.tmps, []⟩ := ⟨ha.size, rfl, ha.knows⟩
      have h2 := h1.sets (vs := encs x) hp
      exact ⟨h2.size, rfl, h2.knows⟩
    have e : ((ps.toArray.zip (encs x).toArray).foldl (fun t (p, v) => t.setIfInBounds p v) a.tmps) = (ps.zip (encs x)).foldl (fun t p => t.setIfInBounds p.1 p.2) a.tmps := by simp
    rw [e]
    refine wpIn_mono (hassign l pre x W hi _ ha') ?_
    intro e a1 W1 h
    cases e with
    | normal =>
      obtain ⟨hb, y, hk, hA⟩ := h
      exact hC a1 W1 (keepsFrom_below hb) (.ofBelow hb) (hI _ _ _ ⟨hb.os, hb.tape, hb.output, hb.size, fun k o hk _ => (hb.block k (Array.getElem?_eq_some_iff.1 hk).1).trans hk⟩ hi) ⟨y, ⟨hk.size, hk.defers, hk.knows⟩, hA⟩
    | _ => exact h
  · rintro l pre x a' W _ _ hi ⟨y, hk, hA⟩ hlen
    exact hbody l pre x y W hi hA hlen a' ⟨hk.size, hk.defers, hk.knows⟩
  · intro D xs W hD hs hi hw
    exact hdone D xs W hD hs hi hw _ ⟨ha.size, by rw [ha.defers], ha.knows⟩
  · intro D c pre W hD hs hi hw
    exact wpIn_n (r := none) (hstop D c pre W hD hs hi hw _ ⟨ha.size, by rw [ha.defers], ha.knows⟩)
end

/-! ### The other side: a function that hands out -/

/-- What has been handed out, as the loop knows it. -/
structure Had {β : Type} (B : Nat) (J : List β → World → Prop) (pre : List β) (w : World) : Prop where
  abide : AbidesFrom B J
  now : J pre w
theorem grown_of_below {w w' : World} (h : Below w.heap.size w w') : w.grownBy w' none := ⟨h.os, h.tape, h.output, h.size, fun k hk _ => h.block k hk⟩
theorem Had.below {β : Type} {B : Nat} {J : List β → World → Prop} {pre : List β} {w w' : World} (h : Had B J pre w) (hb : Below w.heap.size w w') : Had B J pre w' :=
  ⟨h.abide, h.abide pre w w' none h.now (grown_of_below hb) (fun r e => by cases e)⟩

/-- What a loop's round owes the function that hands out. -/
def Round {β : Type} (P : Program) (l : Nat) (encs : β → List Value) (Kp : World → World → Prop) (M : Nat) (J Jx : List β → World → Prop) : Prop :=
  ∀ pre x W1, J pre W1 → pre.length < M → YieldAt Fence.wide 0 P l (encs x).toArray W1 fun e W' =>
    (e = .returned (.bool true) ∧ J (pre ++ [x]) W' ∧ Kp W1 W') ∨ (e = .returned (.bool false) ∧ Jx (pre ++ [x]) W')

section
variable {P : Program} {w : World} {a : Act} {Q : Exit → Act → World → Prop} {o : Oper}
theorem roundIn_fen {r : Option Nat} {n m l : Nat} {f : FuncId} {tmps : Array Value} {assign body : Code} {R : Ending → World → Prop} (h : RoundIn Fence.wide n P l f tmps assign body w R) : RoundIn (fen r) m P l f tmps assign body w R := by
  refine ⟨fen_fn _ _, fun c cs _ => ?_⟩
  obtain ⟨e, w', q, s⟩ := h.2 c cs (room_wide _)
  refine ⟨e, w', q, ?_⟩
  cases r with
  | none => exact s
  | some k => exact s
/-- The call of what a loop hands in. -/
theorem wp_yield {r : Option Nat} {l : Nat} {f : Operand} {xs : Array Operand} {tys : Array TypeId} {vs : Array Value} {R : Ending → World → Prop} {K : Act → World → Prop} (ho : o.op = .call { callee := .value f, args := xs, argTypes := tys }) (hf : a.eval f = .func (.yield l) #[] #[]) (hv : xs.map a.eval = vs)
    (h : YieldAt Fence.wide 0 P l vs w R) (hK : ∀ e w', R e w' → ∃ v, e = .returned v ∧ K (a.put o.dst v) w') : o.wpIn (fen r) 0 P a w K Q := by
  obtain ⟨fn, tmps, assign, body, hy, hr⟩ := h
  refine ⟨fun f _ => fen_fn r f, ?_⟩
  rw [fen_round, Oper.semAt_eq _ _ _ (fun c hc => by rw [ho] at hc; cases hc)]
  unfold execOp
  simp only [ho, resolve, hv, hf, Deferred.ofValue, invoke, Sem.run_bind, Sem.run_pure, Result.andThen_ok, Array.empty_append, Array.append_empty, hy]
  refine ⟨fun e => (by rw [fen_depth] at e; cases e), (roundIn_fen hr).mono ?_⟩
  intro e w' hR
  obtain ⟨v, rfl, hk⟩ := hK e w' hR
  exact hk
end

/-- The contract of a function that hands out, out of its walk. -/
theorem seq_walk {P : Program} {β : Type} {gf : Nat} {fn : Func} {c : Code} {lb : List Value} {encs : β → List Value} {Kp : World → World → Prop} {S Sp : List β → Prop} {M : Nat} {w0 : World} (hf : P.funcs[gf]? = some fn) (hb : fn.body = some c) (hl : Nat.ble (lb.length + 1) fn.ntmps = true)
    (h : ∀ (l : Nat) (J Jx : List β → World → Prop) (w : World), Below w0.heap.size w0 w → Round P l encs Kp M J Jx → Had w.heap.size J [] w → AbidesFrom w.heap.size Jx →
      WC P ⟨fn.ntmps, [], none⟩ (paramsK 0 (.func (.yield l) #[] #[] :: lb)) w c (bodyPostW P fn fun e W' => (∃ v, e = .returned v) ∧ ((∃ xs, S xs ∧ J xs W') ∨ (∃ pre, Sp pre ∧ Jx pre W')))) :
    SeqStopsK Fence.wide 0 P gf lb.toArray (fun x => (encs x).toArray) Kp S Sp M w0 := by
  intro l J Jx W hW hJ hJx hY h0
  have := h l J Jx W hW hY ⟨hJ, h0⟩ hJx
  have e : #[.func (.yield l) #[] #[]] ++ lb.toArray = (.func (.yield l) #[] #[] :: lb).toArray := by simp
  rw [e]
  exact callsIn_of_wp_marks (n := 0) hf hb trivial (this _ (Kn.enter (Nat.le_of_ble_eq_true (by simpa using hl))))

end Go.Proofs.Ytgechlgdnnpoeaa
