/- The symbols of a kind, handed out one after the other. -/
import Derived.Test.YtbnjppmmhhjjbaaSgnLaws
import Derived.Test.YtbnjppmmhhjjbaaRng
import Derived.Test.YtbnjppmmhhjjbaaKOps3
namespace Go.Proofs.Ytbnjppmmhhjjbaa
open Go.RowKit Go

/-- The symbols of a kind, with their numbers. -/
def kindOf (p : Bool) : List Sy → Nat → List (Nat × Sy)
  | [], _ => []
  | x :: r, k => if x.pred = p then (k, x) :: kindOf p r (k + 1) else kindOf p r (k + 1)
theorem kindOf_append (p : Bool) : ∀ (l r : List Sy) (k : Nat), kindOf p (l ++ r) k = kindOf p l k ++ kindOf p r (k + l.length)
  | [], r, k => by simp [kindOf]
  | x :: l, r, k => by
    simp only [List.cons_append, kindOf, kindOf_append p l r (k + 1), List.length_cons]
    rw [show k + 1 + l.length = k + (l.length + 1) by omega]
    split <;> simp
theorem kindOf_len (p : Bool) : ∀ (l : List Sy) (k : Nat), (kindOf p l k).length ≤ l.length
  | [], _ => by simp [kindOf]
  | x :: l, k => by
    have := kindOf_len p l (k + 1)
    simp only [kindOf]
    split <;> simp <;> omega
theorem kindOf_take (p : Bool) {l : List Sy} {k : Nat} (h : k < l.length) : kindOf p (l.take (k + 1)) 0 = if (sget l k).pred = p then kindOf p (l.take k) 0 ++ [(k, sget l k)] else kindOf p (l.take k) 0 := by
  rw [List.take_succ_eq_append_getElem h, kindOf_append, sget_lt h]
  simp only [kindOf, List.length_take, Nat.zero_add, Nat.min_eq_left (Nat.le_of_lt h)]
  split <;> simp
theorem kindOf_split (p : Bool) (l : List Sy) (k : Nat) : kindOf p l 0 = kindOf p (l.take k) 0 ++ kindOf p (l.drop k) (0 + (l.take k).length) := by
  rw [← kindOf_append, List.take_append_drop]
theorem kindOf_prefix (p : Bool) (l : List Sy) (k : Nat) : kindOf p (l.take k) 0 <+: kindOf p l 0 := ⟨_, (kindOf_split p l k).symm⟩
def syEnc (x : Nat × Sy) : List Value := [.int .i64 (x.1 : Int), .agg #[.string x.2.name, .int .i64 x.2.ar, .bool x.2.pred]]
/-- What a function that hands out symbols has captured. -/
structure IsIter (w : World) (n1 n2 : Nat) (gl gp : Nat) (p : Bool) (l : List Sy) (ra : Option Addr) (rc : Nat) : Prop where
  h5 : n1 ≤ gl ∧ gl < n2
  h3 : n1 ≤ gp ∧ gp < n2
  size : n2 ≤ w.heap.size
  row : Blk w gl 22 #[.slice ra l.length rc]
  pred : Blk w gp 4 #[.bool p]
  own : Own w (fun b => n1 ≤ b ∧ b < n2) 35 3 ra rc l.length (syCells l)
  wf : ∀ x ∈ l, I64 x.ar ∧ x.name.size ≤ maxLen
theorem IsIter.chg {w w' : World} {n1 n2 gl gp : Nat} {p : Bool} {l : List Sy} {ra : Option Addr} {rc : Nat} {S : Nat → Prop} (h : IsIter w n1 n2 gl gp p l ra rc) (hc : Chg S w w') (hS : ∀ b, n1 ≤ b → b < n2 → ¬ S b) : IsIter w' n1 n2 gl gp p l ra rc :=
  ⟨h.h5, h.h3, Nat.le_trans h.size hc.size, chg_blk h.row hc (hS _ h.h5.1 h.h5.2), chg_blk h.pred hc (hS _ h.h3.1 h.h3.2), h.own.chg hc (fun b hb => hS b hb.1 hb.2), h.wf⟩
theorem IsIter.below {w w' : World} {n1 n2 gl gp : Nat} {p : Bool} {l : List Sy} {ra : Option Addr} {rc : Nat} (h : IsIter w n1 n2 gl gp p l ra rc) (hb : Below w.heap.size w w') : IsIter w' n1 n2 gl gp p l ra rc :=
  h.chg (S := fun _ => False) (.ofBelow hb) (fun _ _ _ h => h)
theorem IsIter.sys {w : World} {n1 n2 gl gp : Nat} {p : Bool} {l : List Sy} {ra : Option Addr} {rc : Nat} (h : IsIter w n1 n2 gl gp p l ra rc) : IsSys w l ra := (sys_of_own h.own.1 h.wf).2.2.2

set_option maxRecDepth 100000 in
theorem symbols_any (l : List Sy) (p : Bool) (w : World) (v : Value) (hz : l.length ≤ 4294967296) (hv : IsSig w l v) : Calls Try.prog 13 #[v, .bool p] w (Ret fun v' w' => ∃ gl gp ra rc, v' = .func (.func 24) #[] #[.pointer (some ⟨gl, 0, none⟩), .pointer (some ⟨gp, 0, none⟩)] ∧ IsIter w' w.heap.size w'.heap.size gl gp p l ra rc ∧ Below w.heap.size w w') := by
  obtain ⟨a, c, rfl, hc, hm, hl⟩ := hv
  refine Calls.walk (l := [.agg #[.slice a l.length c], .bool p]) Try.func13 rfl (by kernel_rfl) ?_
  refine WC.sub (K' := [(0, .agg #[.slice a l.length c]), (1, .bool p)]) ⟨rfl, rfl, trivial⟩ ?_
  refine WC.seq ?_
  refine WC.region ?_
  refine WL.step (post := NewBlk w 24 #[.slice a l.length c]) rfl rfl rfl (fun za zC zh zk => box_24 rfl (zh.ev rfl) (zk _ _ (newBlk _ _ _))) ?_
  rintro _ w1 ⟨g2, rfl, hg3, hB4, hb5, hz6⟩
  have hl7 : w.heap.size ≤ g2 := by omega
  refine WL.step (post := NewBlk w1 4 #[.bool p]) rfl rfl rfl (fun za zC zh zk => box_4 rfl (zh.ev rfl) (zk _ _ (newBlk _ _ _))) ?_
  rintro _ w8 ⟨g9, rfl, hg10, hB11, hb12, hz13⟩
  have hl14 : g2 < g9 := by have z1 := hB4.lt; omega
  have hl15 : w.heap.size ≤ g9 := by have z2 := (hb5).size; omega
  refine WL.val (.nilFunc) rfl rfl rfl (fun za zC zh zk => wp_assign rfl (zh.ev rfl) zk) ?_
  refine WL.nil (WE.sub (K' := [(0, .agg #[.slice a l.length c]), (1, .bool p), (2, .pointer (some ⟨g2, 0, none⟩)), (3, .pointer (some ⟨g9, 0, none⟩)), (4, .nilFunc)]) ⟨rfl, rfl, rfl, rfl, rfl, trivial⟩ ?_)
  refine WE.next ?_
  refine WC.seq ?_
  refine WC.region ?_
  refine WL.val (.pointer (some ⟨g2, 0, none⟩)) rfl rfl rfl (fun za zC zh zk => fld_24_0 rfl (zh.ev rfl) zk) ?_
  have hB16 := hB4.below hb12
  refine WL.val (.slice a l.length c) rfl rfl rfl (fun za zC zh zk => ld_22 rfl (zh.ev rfl) ((hB16.cell 0).trans rfl) zk) ?_
  have hb17 : Below w.heap.size w w8 := (bstep hb5 hb12)
  refine WL.call rfl rfl rfl (fun za zh zC => wp_call (by kernel_rfl) rfl (hv1 (zh.ev rfl))) (clone_any l _ _ _ hc hm hz (hl.below hb17)) ?_
  rintro _ w18 ⟨cra, crc, rfl, hcl, hbc⟩
  have hr19 := Own.of hcl
  refine WL.step (post := NewBlk w18 22 #[.slice none 0 0]) rfl rfl rfl (fun za zC zh zk => alloc_22 rfl (zk _ _ (newBlk _ _ _))) ?_
  rintro _ w20 ⟨g21, rfl, hg22, hB23, hb24, hz25⟩
  have hl26 : g2 < g21 := by have z1 := hB16.lt; have z2 := (hbc).size; omega
  have hl27 : g9 < g21 := by have z1 := hB11.lt; have z2 := (hbc).size; omega
  have hr28 := Own.mono (S' := (fun b => w8.heap.size ≤ b ∧ b ≠ g21)) hr19 (fun b h1 h2 => by (try dsimp only at *); omega)
  have hb29 : Below w.heap.size w w18 := (bstep hb17 hbc)
  have hl30 : w.heap.size ≤ g21 := by have z2 := (hb29).size; omega
  refine WL.step (post := fun _ w' => Upd g21 w20 w' ∧ Blk w' g21 22 #[.slice cra l.length crc]) rfl rfl rfl (fun za zC zh zk => st_22 rfl (zh.ev rfl) (zh.ev rfl) hB23 (by first | decide | simp) (fun v => zk v _ ⟨Upd.at_ _ _ _ _, hB23.set_ 0 _⟩)) ?_
  rintro v34 w31 ⟨hu32, hB33⟩
  have hb35 : Below w.heap.size w w20 := (bstep hb29 hb24)
  have hb36 := upd_below hb35 hu32 (by omega)
  have hb38 : Below w8.heap.size w8 w20 := (bstep hbc hb24)
  have hB37 := hB16.below hb38
  have hB39 := upd_blk hB37 hu32 (by omega)
  have hB40 := hB11.below hb38
  have hB41 := upd_blk hB40 hu32 (by omega)
  have hr42 := hr28.below hb24
  have hr43 := hr42.upd hu32 (by (try dsimp only at *); omega)
  refine WL.nil (WE.sub (K' := [(0, .agg #[.slice a l.length c]), (1, .bool p), (2, .pointer (some ⟨g2, 0, none⟩)), (3, .pointer (some ⟨g9, 0, none⟩)), (4, .nilFunc), (5, .pointer (some ⟨g21, 0, none⟩))]) ⟨rfl, rfl, rfl, rfl, rfl, rfl, trivial⟩ ?_)
  refine WE.next ?_
  refine WC.seq ?_
  refine WC.region ?_
  refine WL.val (.func (Fn.func 24) #[] #[.pointer (some ⟨g21, 0, none⟩), .pointer (some ⟨g9, 0, none⟩)]) rfl rfl rfl (fun za zC zh zk => mkfn rfl (hv0) (hv2 (zh.ev rfl) (zh.ev rfl)) zk) ?_
  refine WL.val (.func (Fn.func 24) #[] #[.pointer (some ⟨g21, 0, none⟩), .pointer (some ⟨g9, 0, none⟩)]) rfl rfl rfl (fun za zC zh zk => wp_assign rfl (zh.ev rfl) zk) ?_
  refine WL.nil (WE.sub (K' := [(0, .agg #[.slice a l.length c]), (1, .bool p), (2, .pointer (some ⟨g2, 0, none⟩)), (3, .pointer (some ⟨g9, 0, none⟩)), (4, .func (Fn.func 24) #[] #[.pointer (some ⟨g21, 0, none⟩), .pointer (some ⟨g9, 0, none⟩)]), (5, .pointer (some ⟨g21, 0, none⟩))]) ⟨rfl, rfl, rfl, rfl, rfl, rfl, trivial⟩ ?_)
  refine WE.next ?_
  refine WC.ret ?_
  refine WE.ret1 rfl rfl ?_
  have z5 := hB33.lt
  have z3 := hB41.lt
  have zo := hr43
  have zs := (hb17).size
  exact ⟨_, rfl, g21, g9, cra, crc, rfl, ⟨⟨by omega, z5⟩, ⟨by omega, z3⟩, Nat.le_refl _, hB33, hB41, zo.mono (fun b hb hlt => ⟨by (try dsimp only at *); omega, hlt⟩), hl.wfs⟩, hb36⟩

set_option maxRecDepth 100000 in
theorem symbols_seq {w0 : World} {n1 n2 gl gp : Nat} {p : Bool} {l : List Sy} {ra : Option Addr} {rc : Nat} (S : Nat → Prop) (hS : ∀ b, n1 ≤ b → b < n2 → ¬ S b) (hM : l.length ≤ 4294967296) (h0 : IsIter w0 n1 n2 gl gp p l ra rc) :
    SeqStopsK Fence.wide 0 Try.prog 24 #[.pointer (some ⟨gl, 0, none⟩), .pointer (some ⟨gp, 0, none⟩)] (fun x => (syEnc x).toArray) (Chg S) (fun xs => xs = kindOf p l 0) (fun pre => pre <+: kindOf p l 0) l.length w0 := by
  refine seq_walk (lb := [.pointer (some ⟨gl, 0, none⟩), .pointer (some ⟨gp, 0, none⟩)]) Try.func24 rfl (by kernel_rfl) ?_
  intro ly J Jx w hw0 hY hJ hJx
  have hI := h0.below hw0
  refine WC.sub (K' := [(0, .func (.yield ly) #[] #[]), (1, .pointer (some ⟨gl, 0, none⟩)), (2, .pointer (some ⟨gp, 0, none⟩))]) ⟨rfl, rfl, rfl, trivial⟩ ?_
  have hsz := hI.size
  refine WC.seq ?_
  refine WC.region ?_
  refine WL.val (.slice ra l.length rc) rfl rfl rfl (fun za zC zh zk => ld_22 rfl (zh.ev rfl) ((hI).row.cell 0) zk) ?_
  refine WL.val (.int .i64 (((l.length : Nat) : Int))) rfl rfl rfl (fun za zC zh zk => len_22 rfl (zh.ev rfl) zk) ?_
  refine WL.val (.int .i64 0) rfl rfl rfl (fun za zC zh zk => wp_move rfl (zh.ev rfl) zk) ?_
  refine WL.nil (WE.sub (K' := [(0, .func (.yield ly) #[] #[]), (1, .pointer (some ⟨gl, 0, none⟩)), (2, .pointer (some ⟨gp, 0, none⟩)), (6, .slice ra l.length rc), (7, .int .i64 (((l.length : Nat) : Int))), (8, .int .i64 0)]) ⟨rfl, rfl, rfl, rfl, rfl, rfl, trivial⟩ ?_)
  refine WE.next ?_
  refine WC.block ?_
  refine WC.loop (X := Nat) (fun k => l.length - k) (fun k => [(0, .func (.yield ly) #[] #[]), (1, .pointer (some ⟨gl, 0, none⟩)), (2, .pointer (some ⟨gp, 0, none⟩)), (6, .slice ra l.length rc), (7, .int .i64 (((l.length : Nat) : Int))), (8, .int .i64 (((k : Nat) : Int)))]) (fun k w1 => k ≤ l.length ∧ IsIter (w1) n1 n2 gl gp p l ra rc ∧ Had w.heap.size J (kindOf p (l.take k) 0) (w1)) 0 ⟨rfl, rfl, rfl, rfl, rfl, rfl, trivial⟩ ?_ ?_
  · exact ⟨Nat.zero_le _, hI, hJ⟩
  · rintro k w1 ⟨hk, hIT, hJJ⟩
    have hsz := hIT.size
    refine WC.seq ?_
    refine WC.region ?_
    refine WL.val (.bool ((decide ((((k : Nat) : Int) : Int) < (((l.length : Nat) : Int) : Int))))) rfl rfl rfl (fun za zC zh zk => lss_3 rfl (zh.ev rfl) (zh.ev rfl) zk) ?_
    refine WL.nil (WE.sub (K' := [(0, .func (.yield ly) #[] #[]), (1, .pointer (some ⟨gl, 0, none⟩)), (2, .pointer (some ⟨gp, 0, none⟩)), (6, .slice ra l.length rc), (7, .int .i64 (((l.length : Nat) : Int))), (8, .int .i64 (((k : Nat) : Int))), (9, .bool ((decide ((((k : Nat) : Int) : Int) < (((l.length : Nat) : Int) : Int)))))]) ⟨rfl, rfl, rfl, rfl, rfl, rfl, rfl, trivial⟩ ?_)
    refine WE.next ?_
    refine WC.seq ?_
    refine WC.cond rfl (fun h2 => ?_) (fun h2 => ?_)
    · have h2 : (((k : Nat) : Int) : Int) < (((l.length : Nat) : Int) : Int) := by simpa using h2
      refine WC.skip ?_
      refine WE.next ?_
      refine WC.seq ?_
      refine WC.block ?_
      refine WC.seq ?_
      refine WC.region ?_
      refine WL.val (.int .i64 (((k : Nat) : Int))) rfl rfl rfl (fun za zC zh zk => wp_move rfl (zh.ev rfl) zk) ?_
      obtain ⟨b3, o4, ha5, hc6⟩ := IsSys.open (hIT).sys
      refine WL.val (.pointer (some ⟨b3, o4 + k * 3, none⟩)) rfl rfl rfl (fun za zC zh zk => ix_22 (k := k) rfl (zh.ev rfl) (ha5 k (by first | omega | (simp; omega))) (zh.ev rfl) (by first | omega | (simp; omega)) zk) ?_
      refine WL.val (.agg #[.string ((sget l k).name), .int .i64 ((sget l k).ar), .bool ((sget l k).pred)]) rfl rfl rfl (fun za zC zh zk => ld_35 rfl (zh.ev rfl) (hc6 k (by first | omega | (simp; omega))).1 (hc6 k (by first | omega | (simp; omega))).2.1 (hc6 k (by first | omega | (simp; omega))).2.2 zk) ?_
      refine WL.step (post := NewBlk w1 35 #[.string (⟨#[]⟩), .int .i64 0, .bool false]) rfl rfl rfl (fun za zC zh zk => alloc_35 rfl (zk _ _ (newBlk _ _ _))) ?_
      rintro _ w7 ⟨g8, rfl, hg9, hB10, hb11, hz12⟩
      have hl13 : w1.heap.size ≤ g8 := by omega
      refine WL.val (.int .i64 (((k : Nat) : Int))) rfl rfl rfl (fun za zC zh zk => wp_assign rfl (zh.ev rfl) zk) ?_
      refine WL.step (post := fun _ w' => Upd g8 w7 w' ∧ Blk w' g8 35 #[.string ((sget l k).name), .int .i64 ((sget l k).ar), .bool ((sget l k).pred)]) rfl rfl rfl (fun za zC zh zk => st_35 rfl (zh.ev rfl) (zh.ev rfl) rfl rfl rfl hB10 (by first | decide | simp) (fun v => zk v _ ⟨((Upd.at_ _ _ _ _).trans (Upd.at_ _ _ _ _)).trans (Upd.at_ _ _ _ _), ((hB10.set_ 0 _).set_ 1 _).set_ 2 _⟩)) ?_
      rintro v17 w14 ⟨hu15, hB16⟩
      have hb18 := upd_below hb11 hu15 (by omega)
      refine WL.nil (WE.sub (K' := [(0, .func (.yield ly) #[] #[]), (1, .pointer (some ⟨gl, 0, none⟩)), (2, .pointer (some ⟨gp, 0, none⟩)), (4, .int .i64 (((k : Nat) : Int))), (5, .pointer (some ⟨g8, 0, none⟩)), (6, .slice ra l.length rc), (7, .int .i64 (((l.length : Nat) : Int))), (8, .int .i64 (((k : Nat) : Int))), (9, .bool ((decide ((((k : Nat) : Int) : Int) < (((l.length : Nat) : Int) : Int)))))]) ⟨rfl, rfl, rfl, rfl, rfl, rfl, rfl, rfl, rfl, trivial⟩ ?_)
      refine WE.next ?_
      refine WC.seq ?_
      refine WC.region ?_
      refine WL.val (.pointer (some ⟨g8, 2, none⟩)) rfl rfl rfl (fun za zC zh zk => fld_35_2 rfl (zh.ev rfl) zk) ?_
      refine WL.val (.bool ((sget l k).pred)) rfl rfl rfl (fun za zC zh zk => ld_4 rfl (zh.ev rfl) ((hB16.cell 2).trans rfl) zk) ?_
      refine WL.val (.bool p) rfl rfl rfl (fun za zC zh zk => ld_4 rfl (zh.ev rfl) (((hIT.below hb18)).pred.cell 0) zk) ?_
      refine WL.val (.bool (((sget l k).pred == p))) rfl rfl rfl (fun za zC zh zk => eql_4 rfl (zh.ev rfl) (zh.ev rfl) zk) ?_
      refine WL.val (.bool (((sget l k).pred == p))) rfl rfl rfl (fun za zC zh zk => wp_move rfl (zh.ev rfl) zk) ?_
      refine bool_split (((sget l k).pred == p)) (fun h19 => ?_) (fun h19 => ?_)
      · refine WL.sub (K' := [(0, .func (.yield ly) #[] #[]), (1, .pointer (some ⟨gl, 0, none⟩)), (2, .pointer (some ⟨gp, 0, none⟩)), (4, .int .i64 (((k : Nat) : Int))), (5, .pointer (some ⟨g8, 0, none⟩)), (6, .slice ra l.length rc), (7, .int .i64 (((l.length : Nat) : Int))), (8, .int .i64 (((k : Nat) : Int))), (9, .bool ((decide ((((k : Nat) : Int) : Int) < (((l.length : Nat) : Int) : Int))))), (13, .pointer (some ⟨g8, 2, none⟩)), (14, .bool ((sget l k).pred)), (15, .bool p), (16, .bool (((sget l k).pred == p))), (17, .bool true)]) ⟨rfl, rfl, rfl, rfl, rfl, rfl, rfl, rfl, rfl, rfl, rfl, rfl, rfl, (congrArg (fun z => some (Value.bool z)) h19), trivial⟩ ?_
        have h19 : (sget l k).pred = p := by simpa using h19
        refine WL.want (d := 17) rfl rfl rfl ?_
        refine WL.val (.func (.yield ly) #[] #[]) rfl rfl rfl (fun za zC zh zk => wp_move rfl (zh.ev rfl) zk) ?_
        refine WL.want (d := 17) rfl rfl rfl ?_
        refine WL.val (.int .i64 (((k : Nat) : Int))) rfl rfl rfl (fun za zC zh zk => wp_move rfl (zh.ev rfl) zk) ?_
        refine WL.want (d := 17) rfl rfl rfl ?_
        refine WL.val (.agg #[.string ((sget l k).name), .int .i64 ((sget l k).ar), .bool ((sget l k).pred)]) rfl rfl rfl (fun za zC zh zk => ld_35 rfl (zh.ev rfl) ((hB16.cell 0).trans rfl) ((hB16.cell 1).trans rfl) ((hB16.cell 2).trans rfl) zk) ?_
        refine WL.want (d := 17) rfl rfl rfl ?_
        have hkl := kindOf_len p (l.take k) 0
        have hkt : (l.take k).length ≤ k := by simp; omega
        refine WL.stepIn (post := fun v w' => (v = .bool true ∧ J (kindOf p (l.take k) 0 ++ [(k, sget l k)]) w' ∧ Chg S w14 w') ∨ (v = .bool false ∧ Jx (kindOf p (l.take k) 0 ++ [(k, sget l k)]) w')) rfl rfl rfl (fun za zh => wp_yield rfl (zh.ev rfl) (hv2 (zh.ev rfl) (zh.ev rfl)) (hY _ (k, sget l k) _ (hJJ.below hb18).now (by omega)) (by rintro e w' (⟨rfl, h1, h2⟩ | ⟨rfl, h1⟩) <;> first | exact ⟨_, rfl, _, rfl, .inl ⟨rfl, h1, h2⟩⟩ | exact ⟨_, rfl, _, rfl, .inr ⟨rfl, h1⟩⟩)) ?_
        rintro _ w20 (⟨rfl, hj, hc⟩ | ⟨rfl, hj⟩)
        · have ho23 := (hIT.below hb18).chg hc hS
          have hJ2 : Had w.heap.size J (kindOf p (l.take k) 0 ++ [(k, sget l k)]) w20 := ⟨hJ.abide, hj⟩
          refine WL.want (d := 17) rfl rfl rfl ?_
          refine WL.val (.bool false) rfl rfl rfl (fun za zC zh zk => wp_not rfl (zh.ev rfl) zk) ?_
          refine WL.val (.bool false) rfl rfl rfl (fun za zC zh zk => wp_pickT rfl (zh.ev rfl) (zh.ev rfl) zk) ?_
          refine WL.nil (WE.sub (K' := [(0, .func (.yield ly) #[] #[]), (1, .pointer (some ⟨gl, 0, none⟩)), (2, .pointer (some ⟨gp, 0, none⟩)), (4, .int .i64 (((k : Nat) : Int))), (5, .pointer (some ⟨g8, 0, none⟩)), (6, .slice ra l.length rc), (7, .int .i64 (((l.length : Nat) : Int))), (8, .int .i64 (((k : Nat) : Int))), (9, .bool ((decide ((((k : Nat) : Int) : Int) < (((l.length : Nat) : Int) : Int))))), (23, .bool false)]) ⟨rfl, rfl, rfl, rfl, rfl, rfl, rfl, rfl, rfl, rfl, trivial⟩ ?_)
          refine WE.next ?_
          refine WC.condF rfl rfl ?_
          refine WC.skip ?_
          refine WE.blockNormal ?_
          refine WE.next ?_
          refine WC.region ?_
          refine WL.val (.int .i64 ((((k + 1) : Nat) : Int))) rfl rfl rfl (fun za zC zh zk => addb_3 rfl (zh.ev rfl) (zh.ev rfl) (wrap_eq (by omega) (by omega) (by omega)) zk) ?_
          refine WL.val (.int .i64 ((((k + 1) : Nat) : Int))) rfl rfl rfl (fun za zC zh zk => wp_move rfl (zh.ev rfl) zk) ?_
          refine WL.nil (WE.sub (K' := [(0, .func (.yield ly) #[] #[]), (1, .pointer (some ⟨gl, 0, none⟩)), (2, .pointer (some ⟨gp, 0, none⟩)), (4, .int .i64 (((k : Nat) : Int))), (5, .pointer (some ⟨g8, 0, none⟩)), (6, .slice ra l.length rc), (7, .int .i64 (((l.length : Nat) : Int))), (8, .int .i64 ((((k + 1) : Nat) : Int))), (9, .bool ((decide ((((k : Nat) : Int) : Int) < (((l.length : Nat) : Int) : Int))))), (23, .bool false)]) ⟨rfl, rfl, rfl, rfl, rfl, rfl, rfl, rfl, rfl, rfl, trivial⟩ ?_)
          refine WE.round (k + 1) ⟨rfl, rfl, rfl, rfl, rfl, rfl, trivial⟩ ?_ ?_
          · exact ⟨by omega, ho23, (by rw [kindOf_take p (by omega), if_pos h19]; exact hJ2)⟩
          · omega
        · refine WL.want (d := 17) rfl rfl rfl ?_
          refine WL.val (.bool true) rfl rfl rfl (fun za zC zh zk => wp_not rfl (zh.ev rfl) zk) ?_
          refine WL.val (.bool true) rfl rfl rfl (fun za zC zh zk => wp_pickT rfl (zh.ev rfl) (zh.ev rfl) zk) ?_
          refine WL.nil (WE.sub (K' := [(0, .func (.yield ly) #[] #[]), (1, .pointer (some ⟨gl, 0, none⟩)), (2, .pointer (some ⟨gp, 0, none⟩)), (4, .int .i64 (((k : Nat) : Int))), (5, .pointer (some ⟨g8, 0, none⟩)), (6, .slice ra l.length rc), (7, .int .i64 (((l.length : Nat) : Int))), (8, .int .i64 (((k : Nat) : Int))), (9, .bool ((decide ((((k : Nat) : Int) : Int) < (((l.length : Nat) : Int) : Int))))), (23, .bool true)]) ⟨rfl, rfl, rfl, rfl, rfl, rfl, rfl, rfl, rfl, rfl, trivial⟩ ?_)
          refine WE.next ?_
          refine WC.condT rfl rfl ?_
          refine WC.ret ?_
          refine WE.blockRet ?_
          refine WE.thenRet ?_
          refine WE.thenRet ?_
          refine WE.blockRet ?_
          refine WE.ret0 rfl ?_
          refine ⟨⟨_, rfl⟩, .inr ⟨_, ?_, hj⟩⟩
          have z := kindOf_prefix p l (k + 1)
          rw [kindOf_take p (by omega), if_pos h19] at z
          exact z
      · refine WL.sub (K' := [(0, .func (.yield ly) #[] #[]), (1, .pointer (some ⟨gl, 0, none⟩)), (2, .pointer (some ⟨gp, 0, none⟩)), (4, .int .i64 (((k : Nat) : Int))), (5, .pointer (some ⟨g8, 0, none⟩)), (6, .slice ra l.length rc), (7, .int .i64 (((l.length : Nat) : Int))), (8, .int .i64 (((k : Nat) : Int))), (9, .bool ((decide ((((k : Nat) : Int) : Int) < (((l.length : Nat) : Int) : Int))))), (13, .pointer (some ⟨g8, 2, none⟩)), (14, .bool ((sget l k).pred)), (15, .bool p), (16, .bool (((sget l k).pred == p))), (17, .bool false)]) ⟨rfl, rfl, rfl, rfl, rfl, rfl, rfl, rfl, rfl, rfl, rfl, rfl, rfl, (congrArg (fun z => some (Value.bool z)) h19), trivial⟩ ?_
        have h19 : ¬ ((sget l k).pred = p) := by simpa using h19
        refine WL.skip (d := 17) rfl rfl rfl rfl rfl ?_
        refine WL.skip (d := 17) rfl rfl rfl rfl rfl ?_
        refine WL.skip (d := 17) rfl rfl rfl rfl rfl ?_
        refine WL.skip (d := 17) rfl rfl rfl rfl rfl ?_
        refine WL.skip (d := 17) rfl rfl rfl rfl rfl ?_
        refine WL.val (.bool false) rfl rfl rfl (fun za zC zh zk => wp_pickF rfl (zh.ev rfl) (zh.ev rfl) zk) ?_
        refine WL.nil (WE.sub (K' := [(0, .func (.yield ly) #[] #[]), (1, .pointer (some ⟨gl, 0, none⟩)), (2, .pointer (some ⟨gp, 0, none⟩)), (4, .int .i64 (((k : Nat) : Int))), (5, .pointer (some ⟨g8, 0, none⟩)), (6, .slice ra l.length rc), (7, .int .i64 (((l.length : Nat) : Int))), (8, .int .i64 (((k : Nat) : Int))), (9, .bool ((decide ((((k : Nat) : Int) : Int) < (((l.length : Nat) : Int) : Int))))), (23, .bool false)]) ⟨rfl, rfl, rfl, rfl, rfl, rfl, rfl, rfl, rfl, rfl, trivial⟩ ?_)
        refine WE.next ?_
        refine WC.condF rfl rfl ?_
        refine WC.skip ?_
        refine WE.blockNormal ?_
        refine WE.next ?_
        refine WC.region ?_
        refine WL.val (.int .i64 ((((k + 1) : Nat) : Int))) rfl rfl rfl (fun za zC zh zk => addb_3 rfl (zh.ev rfl) (zh.ev rfl) (wrap_eq (by omega) (by omega) (by omega)) zk) ?_
        refine WL.val (.int .i64 ((((k + 1) : Nat) : Int))) rfl rfl rfl (fun za zC zh zk => wp_move rfl (zh.ev rfl) zk) ?_
        refine WL.nil (WE.sub (K' := [(0, .func (.yield ly) #[] #[]), (1, .pointer (some ⟨gl, 0, none⟩)), (2, .pointer (some ⟨gp, 0, none⟩)), (4, .int .i64 (((k : Nat) : Int))), (5, .pointer (some ⟨g8, 0, none⟩)), (6, .slice ra l.length rc), (7, .int .i64 (((l.length : Nat) : Int))), (8, .int .i64 ((((k + 1) : Nat) : Int))), (9, .bool ((decide ((((k : Nat) : Int) : Int) < (((l.length : Nat) : Int) : Int))))), (23, .bool false)]) ⟨rfl, rfl, rfl, rfl, rfl, rfl, rfl, rfl, rfl, rfl, trivial⟩ ?_)
        refine WE.round (k + 1) ⟨rfl, rfl, rfl, rfl, rfl, rfl, trivial⟩ ?_ ?_
        · exact ⟨by omega, (hIT.below hb18), (by rw [kindOf_take p (by omega), if_neg h19]; exact (hJJ.below hb18))⟩
        · omega
    · have h2 : ¬ ((((k : Nat) : Int) : Int) < (((l.length : Nat) : Int) : Int)) := by simpa using h2
      refine WC.exit ?_
      refine WE.thenExit ?_
      refine WE.thenExit ?_
      refine WE.blockIs rfl ?_
      refine WE.end0 rfl ?_
      refine ⟨⟨_, rfl⟩, .inl ⟨_, rfl, ?_⟩⟩
      have z := hJJ.now
      rwa [List.take_of_length_le (by omega)] at z

end Go.Proofs.Ytbnjppmmhhjjbaa
