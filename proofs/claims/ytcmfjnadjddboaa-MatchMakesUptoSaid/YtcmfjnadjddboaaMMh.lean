/- The example that every law shows. -/
import Derived.Test.YtcmfjnadjddboaaMMg
import Derived.WalkKit
import Derived.Test.YtcmfjnadjddboaaMMd
import Derived.Test.YtcmfjnadjddboaaMMa

/- slices.SortFunc of bindings by their variables, over a row of the call's own. -/
namespace Go.Proofs.Ytcmfjnadjddboaa
open Go.RowKit Go.Sort Go.Shelf Go
set_option linter.unusedVariables false
set_option linter.unusedSimpArgs false

def cmpB (x y : BdV) : Int := Lib.compareInt x.1.var y.1.var
theorem ltB (x y : BdV) : ltOf cmpB x y = decide (x.1.var < y.1.var) := by
  unfold ltOf cmpB Lib.compareInt
  congr 1
  (repeat' split) <;> simp <;> omega
theorem swoB : SWO (ltOf cmpB) where
  irrefl x := by rw [ltB]; simp
  trans x y z := by rw [ltB, ltB, ltB]; simp only [decide_eq_true_eq]; omega
  ntrans x y z := by rw [ltB, ltB, ltB]; simp only [decide_eq_false_iff_not]; omega

def normB (v : Value) : Value := if v.oneCell' = true then v else .int .i64 0
theorem normB_one (v : Value) : (normB v).oneCell' = true := by unfold normB; split <;> first | assumption | rfl
def encN (x : BdV) : List Value := [.int .i64 x.1.var, normB x.2.1, normB x.2.2]
theorem encN_eq {S : Nat → Prop} {w : World} {p : BdV} (h : BdOk S w p) : encN p = encB p := by
  obtain ⟨_, a, c, e, _, _, _⟩ := h.2.form
  simp only [Value.agg.injEq, Array.mk.injEq, List.cons.injEq, and_true] at e
  unfold encN encB
  rw [e.1, e.2]; rfl
theorem flat_eq {S : Nat → Prop} {w : World} : ∀ {ds : List BdV}, (∀ p ∈ ds, BdOk S w p) → ds.flatMap encN = ds.flatMap encB
  | [], _ => rfl
  | p :: r, h => by rw [List.flatMap_cons, List.flatMap_cons, encN_eq (h p (by simp)), flat_eq fun q hq => h q (by simp [hq])]
theorem len_encN (ds : List BdV) : (ds.flatMap encN).length = ds.length * 3 := by
  induction ds with
  | nil => rfl
  | cons p r ih => rw [List.flatMap_cons, List.length_append, ih, List.length_cons]; show 3 + _ = _; omega
theorem get_encN : ∀ (ds : List BdV) (t : Nat), t < ds.length * 3 → (ds.flatMap encN)[t]? = some ((encN ds.toArray[t / 3]!)[t % 3]!)
  | [], t, h => by simp at h
  | p :: r, t, h => by
    rw [List.flatMap_cons]
    by_cases h3 : t < 3
    · rw [List.getElem?_append_left (by exact h3), show t / 3 = 0 by omega, show t % 3 = t by omega]
      have e : ((p :: r).toArray[0]!) = p := by simp
      rw [e, List.getElem?_eq_getElem (show t < (encN p).length from h3), getElem!_pos (encN p) t h3]; rfl
    · rw [List.getElem?_append_right (by show 3 ≤ t; omega)]
      show (r.flatMap encN)[t - 3]? = _
      rw [get_encN r (t - 3) (by rw [List.length_cons] at h; omega), show t % 3 = (t - 3) % 3 by omega, show t / 3 = (t - 3) / 3 + 1 by omega]
      have e : ((p :: r).toArray[(t - 3) / 3 + 1]!) = r.toArray[(t - 3) / 3]! := by simp
      rw [e]
theorem flat_encN (ds : List BdV) : (flatK encN 3 ds.toArray).toList = ds.flatMap encN := by
  apply List.ext_getElem?
  intro t
  by_cases h : t < ds.length * 3
  · rw [get_encN ds t h, Array.getElem?_toList, Array.getElem?_eq_getElem (by simpa using h)]
    congr 1
    have := get_flatK encN 3 ds.toArray t (by simpa using h)
    rwa [getElem!_pos _ t (by simpa using h)] at this
  · rw [List.getElem?_eq_none (by simp; omega), List.getElem?_eq_none (by rw [len_encN]; omega)]

theorem heap_sortB {w : World} {g n : Nat} {os : Array Obj} {cur : Array Value} {e : TypeId} {fr : Nat × Nat} (F : Array Value) (hb : w.heap[g]? = some (.cells cur e fr)) :
    (grow (putRow id (Sort.ahead w n) g 0 F) os).heap[g]? = some (.cells (putCells id 0 F cur) e fr) := by
  have hg : g < w.heap.size := (Array.getElem?_eq_some_iff.1 hb).1
  rw [heap_grow_old _ _ (by simpa using hg)]
  simp [putRow, mapBlock, Sort.ahead, Array.getElem?_modify, hb, onCells]
theorem chg_sortB {w : World} {g n : Nat} {os : Array Obj} (F : Array Value) : Chg (fun b => b = g) w (grow (putRow id (Sort.ahead w n) g 0 F) os) := by
  refine ⟨rfl, rfl, rfl, by simp, fun k hk hne => ?_⟩
  rw [heap_grow_old _ _ (by simpa using hk)]
  have : g ≠ k := fun e => hne e.symm
  simp [putRow, mapBlock, Sort.ahead, Array.getElem?_modify, this]
theorem take_sortB (cur F : Array Value) (h : F.size ≤ cur.size) : (putCells id 0 F cur).toList.take F.size = F.toList := by
  apply List.ext_getElem?
  intro j
  by_cases hj : j < F.size
  · rw [List.getElem?_take_of_lt hj, Array.getElem?_toList]
    simp [putCells, hj, show j < cur.size by omega]
  · rw [List.getElem?_take_eq_none (by omega), List.getElem?_eq_none (by simp; omega)]

/-- What the comparison says. -/
def CmpIs (g : Nat) : Prop := (∀ args w, (callFunc g args).run Try.prog w = .ok (.enter g args) w) ∧ ∀ (x y : BdV) (W : World), Calls Try.prog g #[.agg (encN x).toArray, .agg (encN y).toArray] W fun e w' => e = .returned (.int .i64 (cmpB x y)) ∧ ∃ q os', w' = grow (W.drewN q) os'

theorem bitsB (n : Nat) (w : World) (hn : n ≤ 4294967296) : Calls Try.prog 62 #[.int .u64 (n : Int)] w fun e w' => e = .returned (.int .i64 (Lib.bitLen n : Nat)) ∧ w' = w := by
  have h := Any.bits_Len (SlLaysF0.n15.bits { Try.lPdqB with }) (n : Int) w (by omega) (by omega)
  rwa [Int.toNat_natCast] at h

set_option maxHeartbeats 2000000 in
/-- The library's function, about its own. -/
theorem sortF_walk {w : World} {ra : Option Addr} {rc n g : Nat} {R : World → Prop} (hl : Calls Try.prog 62 #[.int .u64 (n : Int)] w fun e w' => e = .returned (.int .i64 (Lib.bitLen n : Nat)) ∧ w' = w)
    (hp : Calls Try.prog 61 #[.slice ra n rc, .int .i64 ((0 : Nat) : Int), .int .i64 (n : Nat), .int .i64 (Lib.bitLen n : Nat), .func (.func g) #[] #[]] w fun e w' => e = .returned (.tuple #[]) ∧ R w') (hn : n ≤ 4294967296 := by omega) :
    Calls Try.prog 40 #[.slice ra n rc, .func (.func g) #[] #[]] w fun e w' => e = .returned (.tuple #[]) ∧ R w' := by
  have wr : IntKind.u64.wrap (n : Int) = n := by simp [IntKind.wrap, IntKind.bits, IntKind.signed]; omega
  go_enter Try.func40, Try.ntmps40
  go_wp2_with (first | (go_at_call 62; refine hl.mono ?_; rintro e w' ⟨rfl, rfl⟩) | (go_at_call 61; refine hp.mono ?_; rintro e w' ⟨rfl, hR⟩))
  go_end0
  exact ⟨rfl, hR⟩

set_option maxRecDepth 100000 in
theorem sortB_own {w : World} {B : Nat} {ra : Option Addr} {rc n : Nat} {l : List Bd} {g : Nat} (h : RowE eltB w B 57 ra rc n l) (hn : n ≤ 4294967296) (hc : CmpIs g) :
    Calls Try.prog 40 #[.slice ra n rc, .func (.func g) #[] #[]] w (Ret fun v' w' => ∃ l' : List Bd, v' = .tuple #[] ∧ l'.Perm l ∧ l'.Pairwise (fun x y => x.var ≤ y.var) ∧ RowE eltB w' B 57 ra rc n l' ∧ Chg (fun b => (Value.slice ra n rc).ownBlock = some b) w w') := by
  obtain ⟨⟨xs, h1, h2⟩, hl⟩ := h
  rcases h1.2 with ⟨e, h0⟩ | ⟨b, cap, cur, e, hB, hb, hcap, hm, hs, hx⟩
  · simp only [Value.slice.injEq] at e
    obtain ⟨rfl, rfl, rfl⟩ := e
    obtain rfl : l = [] := List.length_eq_zero_iff.1 hl.symm
    refine (sortF_walk (g := g) (n := 0) (bitsB 0 w (by omega)) (AnyF.pdqsortCmpFunc_none Try.lPdqB none 0 _ _ w)).mono ?_
    rintro e w' ⟨rfl, rfl⟩
    exact ⟨_, rfl, [], rfl, .refl _, .nil, RowE.nil, .refl _ _⟩
  · have e' := e
    simp only [Value.slice.injEq, true_and] at e'
    obtain ⟨rfl, rfl⟩ := e'
    obtain ⟨ds, rfl, rfl, hds⟩ := elts_bdv h2
    have hn3 : n = ds.length := by simpa using hl
    subst hn3
    have hlen := len_encB ds
    have hg : b < w.heap.size := (Array.getElem?_eq_some_iff.1 hb).1
    have hk3 : eltB.k = 3 := rfl
    rw [hk3] at hs hx
    rw [← flat_eq hds] at hx
    have hH : HoldsK encN 3 w b 0 ds.toArray := by
      intro j hj
      have hj' : j < ds.length * 3 := by simpa using hj
      have hx' : (cur.toList.take (ds.length * 3))[j]? = (ds.flatMap encN)[j]? := by rw [hx]
      rw [List.getElem?_take_of_lt (by omega), Array.getElem?_toList, get_encN ds j hj'] at hx'
      have hf := get_flatK encN 3 ds.toArray j (by simpa using hj')
      refine ⟨?_, by simp [World.frozen?, hb]⟩
      show _ = some ((flatK encN 3 ds.toArray)[j]!)
      rw [hf, ← hx']
      simp only [World.cell?, hb, Nat.zero_add]
      simp
    have hp := AnyQ.pdqsortCmpFunc_all Try.lPdqB 3 (fun _ => rfl) (fun _ => rfl) encN cmpB g #[] swoB b 0 rc ds.toArray w hc.1 (fun m os dk _ x y => hc.2 x y _)
      ⟨fun _ => rfl, fun x v hv => by simp only [encN, List.mem_cons, List.not_mem_nil, or_false] at hv; rcases hv with rfl | rfl | rfl; exact rfl; exact normB_one _; exact normB_one _, hH, hg⟩ (ds.length + 1) 0 ds.length (Lib.bitLen ds.length) ds.toArray w (by omega) (by simp) (SWK.start hH) (Nat.zero_le _) (by simp) (by simp; omega) (Nat.lt_of_le_of_lt (Lib.bitLen_le ds.length 62 (by omega) (by omega)) (by omega)) (Or.inl rfl)
    have hl := bitsB ds.length w hn
    have hsort := pdq_sorts (ltOf cmpB) swoB ds.toArray 0 ds.toArray.size (Lib.bitLen ds.length) true true (Nat.zero_le _) (Nat.le_refl _) (Or.inl rfl)
    change Calls Try.prog 61 #[.slice (some ⟨b, 0, none⟩) ds.length rc, .int .i64 ((0 : Nat) : Int), .int .i64 (ds.length : Nat), .int .i64 (Lib.bitLen ds.length : Nat), .func (.func g) #[] #[]] w _ at hp
    rw [show ds.toArray.size = ds.length from by simp] at hsort
    generalize pdq (ltOf cmpB) ds.toArray 0 ds.length (Lib.bitLen ds.length) true true = d' at hp hsort
    have hw := sortF_walk (g := g) hl hp
    obtain ⟨⟨hsz, _, hperm⟩, hsrt⟩ := hsort
    obtain ⟨ds', rfl⟩ : ∃ ds' : List BdV, d' = ds'.toArray := ⟨d'.toList, by simp⟩
    have hlen' : ds'.length = ds.length := by simpa using hsz
    have hperm' : ds'.Perm ds := by
      have e1 : (ds'.toArray.extract 0 ds.length).toList = ds' := by rw [← hlen']; simp
      have e2 : (ds.toArray.extract 0 ds.length).toList = ds := by simp
      rw [e1, e2] at hperm; exact hperm
    refine hw.mono ?_
    rintro e w' ⟨rfl, m, os, rfl⟩
    have hchg : Chg (fun k => k = b) w (sortWorldK encN 3 w b 0 m ds'.toArray os) := chg_sortB (flatK encN 3 ds'.toArray)
    have hds' : ∀ p ∈ ds', BdOk (fun k => B ≤ k ∧ k ≠ b) (sortWorldK encN 3 w b 0 m ds'.toArray os) p := fun p hp => by
      have h := hds p (hperm'.mem_iff.1 hp)
      exact ⟨h.1, InT.chg (InT.mono (fun k hk _ => ⟨hk.1, fun e => hk.2 (by rw [own_some, e])⟩) h.2) hchg (fun k hk e => hk.2 e)⟩
    refine ⟨_, rfl, ds'.map (·.1), rfl, hperm'.map _, ?_, ?_, ?_⟩
    · rw [List.pairwise_map, List.pairwise_iff_getElem]
      intro i j hi hj hij
      have h := hsrt i j (Nat.zero_le _) hij (by omega)
      rw [ltB] at h
      simp only [decide_eq_false_iff_not] at h
      rw [getElem!_pos ds'.toArray i (by simpa using hi), getElem!_pos ds'.toArray j (by simpa using hj)] at h
      simp only [List.getElem_toArray] at h
      omega
    · refine RowE.mk3 (cur := putCells id 0 (flatK encN 3 ds'.toArray) cur) (heap_sortB _ hb) hds' ?_ hcap hm (by simpa [putCells] using hs) hB hlen'.symm
      have := take_sortB cur (flatK encN 3 ds'.toArray) (by simp [hlen']; omega)
      rw [show (flatK encN 3 ds'.toArray).size = ds.length * 3 from by simp [hlen']] at this
      rw [this, flat_encN, flat_eq hds']
    · exact ⟨hchg.os, hchg.tape, hchg.output, hchg.size, fun k hk hn => hchg.block k hk (fun e => hn (by rw [e, own_some]))⟩

end Go.Proofs.Ytcmfjnadjddboaa

/- The comparison that a matcher sorts by. -/
namespace Go.Proofs.Ytcmfjnadjddboaa
open Go.RowKit Go.Sort Go.Shelf Go
set_option linter.unusedVariables false
set_option linter.unusedSimpArgs false

set_option maxHeartbeats 1000000 in
theorem mcmp1_any (x y : BdV) (W : World) : Calls Try.prog 41 #[.agg #[.int .i64 x.1.var, normB x.2.1, normB x.2.2], .agg #[.int .i64 y.1.var, normB y.2.1, normB y.2.2]] W fun e w' => e = .returned (.int .i64 (cmpB x y)) ∧ ∃ q os', w' = grow (W.drewN q) os' := by
  have hcon := fun W' => AnyG.cmp_Compare_int Try.lCmpInt x.1.var y.1.var W'
  change ∀ W', Calls Try.prog 42 _ _ _ at hcon
  unfold cmpB
  have o1 := normB_one x.2.1
  have o2 := normB_one x.2.2
  have o3 := normB_one y.2.1
  have o4 := normB_one y.2.2
  generalize Lib.compareInt x.1.var y.1.var = r at hcon ⊢
  generalize normB x.2.1 = a1 at *
  generalize normB x.2.2 = a2 at *
  generalize normB y.2.1 = a3 at *
  generalize normB y.2.2 = a4 at *
  go_enter Try.func41, Try.ntmps41
  go_wp2_with (go_at_call 42; refine (hcon _).mono ?_; rintro e w' ⟨rfl, rfl⟩)
  go_ret
  exact ⟨rfl, 0, _, by rw [alloc_eq_grow, alloc_eq_grow, grow_grow]; rfl⟩
theorem cmpIs_mat : CmpIs 41 := ⟨enters_of Try.func41 (by kernel_rfl) rfl, fun x y W => mcmp1_any x y W⟩

end Go.Proofs.Ytcmfjnadjddboaa

/- What a matcher tells: the program. -/
namespace Go.Proofs.Ytcmfjnadjddboaa
open Go.RowKit Go
set_option linter.unusedVariables false
set_option linter.unusedSimpArgs false

set_option maxRecDepth 100000 in
theorem msub_any {g : Nat} {st : List Bd} {C : Nat → Prop} (w : World) (h : MatAt w g st C) (hz : st.length ≤ 4294967296) : Calls Try.prog 23 #[.pointer (some ⟨g, 0, none⟩)] w (Ret fun v' w' => (∃ R p c, v' = .slice p R.length c ∧ SubOf st R ∧ NewBs w w' R p c) ∧ Below w.heap.size w w') := by
  obtain ⟨mb, es, cl, a, c, ps, hM⟩ := h
  have hgm := hM.gmb
  have hgl := hM.blk.lt
  have hml := hM.map.lt
  have hnd := hM.nd
  have hlp := hM.len
  refine Calls.walk (l := [.pointer (some ⟨g, 0, none⟩)]) Try.func23 rfl (by kernel_rfl) ?_
  refine WC.sub (K' := [(0, .pointer (some ⟨g, 0, none⟩))]) ⟨rfl, trivial⟩ ?_
  refine WC.seq ?_
  refine WC.region ?_
  refine WL.val (.slice none 0 0) rfl rfl rfl (fun za zC zh zk => wp_assign rfl (zh.ev rfl) zk) ?_
  refine WL.nil (WE.sub (K' := [(0, .pointer (some ⟨g, 0, none⟩)), (2, .slice none 0 0)]) ⟨rfl, rfl, trivial⟩ ?_)
  refine WE.next ?_
  refine WC.seq ?_
  refine WC.seq ?_
  refine WC.region ?_
  refine WL.val (.pointer (some ⟨g, 0, none⟩)) rfl rfl rfl (fun za zC zh zk => wp_move rfl (zh.ev rfl) zk) ?_
  refine WL.val (.bool false) rfl rfl rfl (fun za zC zh zk => eqlp_33 rfl (zh.ev rfl) (zh.ev rfl) zk) ?_
  refine WL.nil (WE.sub (K' := [(0, .pointer (some ⟨g, 0, none⟩)), (2, .slice none 0 0), (7, .bool false)]) ⟨rfl, rfl, rfl, trivial⟩ ?_)
  refine WE.next ?_
  refine WC.condF rfl rfl ?_
  refine WC.skip ?_
  refine WE.next ?_
  refine WC.seq ?_
  refine WC.region ?_
  refine WL.val (.slice none 0 0) rfl rfl rfl (fun za zC zh zk => wp_assign rfl (zh.ev rfl) zk) ?_
  refine WL.nil (WE.sub (K' := [(0, .pointer (some ⟨g, 0, none⟩)), (2, .slice none 0 0), (3, .slice none 0 0), (7, .bool false)]) ⟨rfl, rfl, rfl, rfl, trivial⟩ ?_)
  refine WE.next ?_
  refine WC.seq ?_
  refine WC.seq ?_
  refine WC.region ?_
  refine WL.val (.pointer (some ⟨g, 0, none⟩)) rfl rfl rfl (fun za zC zh zk => wp_move rfl (zh.ev rfl) zk) ?_
  refine WL.val (.pointer (some ⟨g, 0, none⟩)) rfl rfl rfl (fun za zC zh zk => nilCheck_ rfl (zh.ev rfl) zk) ?_
  refine WL.val (.pointer (some ⟨g, 0, none⟩)) rfl rfl rfl (fun za zC zh zk => fld_64_0 rfl (zh.ev rfl) zk) ?_
  refine WL.val (.map ((some mb))) rfl rfl rfl (fun za zC zh zk => ld_62 rfl (zh.ev rfl) ((hM.blk.cell 0).trans rfl) zk) ?_
  refine WL.step (post := fun v w' => NewIt w mb cl v w') rfl rfl rfl (fun za zC zh zk => wp_range_im Try.underlying62 hM.map rfl (zh.ev rfl) (fun v w' h => zk v w' h)) ?_
  rintro _ w1 ⟨g2, rfl, hg3, hI4, hb5, hs6⟩
  have hl7 : g < g2 := by have z1 := hM.blk.lt; omega
  have hl8 : mb < g2 := by have z1 := hM.map.lt; omega
  have hl9 : w.heap.size ≤ g2 := by omega
  refine WL.nil (WE.sub (K' := [(0, .pointer (some ⟨g, 0, none⟩)), (2, .slice none 0 0), (3, .slice none 0 0), (7, .bool false), (12, .pointer (some ⟨g2, 0, none⟩))]) ⟨rfl, rfl, rfl, rfl, rfl, trivial⟩ ?_)
  refine WE.next ?_
  refine WC.block ?_
  have hl10 : g < w1.heap.size := by have z1 := hM.blk.lt; have z2 := (hb5).size; omega
  have hl11 : mb < w1.heap.size := by have z1 := hM.map.lt; have z2 := (hb5).size; omega
  have hl12 : g2 < w1.heap.size := by have z1 := hI4.lt; omega
  have hl13 : w.heap.size ≤ w1.heap.size := (hb5).size
  have hR14 : RowE eltB w1 w1.heap.size 57 none 0 0 [] := RowE.nil
  refine WC.loop (X := SX) (fun x => x.rest.length) (fun x => [(0, .pointer (some ⟨g, 0, none⟩)), (2, .slice none 0 0), (3, .slice x.a x.n x.c), (7, .bool false), (12, .pointer (some ⟨g2, 0, none⟩))]) (fun x w15 => w1.heap.size ≤ (w15).heap.size ∧ ItE es ((st.map (·.var)).zip ps) x.seen x.done x.rest ∧ Below w.heap.size w w15 ∧ Blk w15 g 64 #[.map ((some mb)), .slice a st.length c] ∧ ObjAt (w15) mb (.map es cl) ∧ ObjAt (w15) g2 (.mapIter (some mb) cl x.seen cl) ∧ RowE eltB (w15) w1.heap.size 57 x.a x.c x.n ((told st x.done))) (⟨[], ((st.map (·.var)).zip ps), #[], none, 0, 0⟩) ⟨rfl, rfl, rfl, rfl, rfl, trivial⟩ ?_ ?_
  · have hB16 := hM.blk.below hb5
    have ho17 := hM.map.below hb5
    exact ⟨Nat.le_refl _, ItE.start hM.ent, hb5, hB16, ho17, hI4, (by simpa [told] using hR14)⟩
  · rintro x w15 ⟨hBw, hIt, hb18, hB19, ho20, ho21, ho22⟩
    refine WC.seq ?_
    refine WC.region ?_
    refine WL.step (post := fun v w' => (v = .tuple #[.bool false] ∧ w15 = w' ∧ x.rest = []) ∨ ∃ y rest2 seen2, v = .tuple #[.bool true, .int .i64 y.1, y.2] ∧ x.rest.Perm (y :: rest2) ∧ rest2.length < x.rest.length ∧ ItE es ((st.map (·.var)).zip ps) seen2 (x.done ++ [y]) rest2 ∧ CurE es seen2 y ∧ ObjAt w' g2 (.mapIter (some mb) cl seen2 cl) ∧ Upd g2 w15 w') rfl rfl rfl (fun za zC zh zk => wp_next_im ho20 ho21 hM.ent hIt rfl (zh.ev rfl) (fun h => zk _ _ (.inl ⟨rfl, rfl, h⟩)) (fun y r2 s2 w' h1 h2 h3 h4 h5 h6 => zk _ _ (.inr ⟨y, r2, s2, rfl, h1, h2, h3, h4, h5, h6⟩))) ?_
    rintro v w23 (⟨rfl, rfl, hre⟩ | ⟨y, rest2, seen2, rfl, hrp, hrl, hIt2, hcu, hI25, hu24⟩)
    · refine WL.val (.bool false) rfl rfl rfl (fun za zC zh zk => ext1_0 rfl (zh.ev rfl) zk) ?_
      refine WL.nil (WE.sub (K' := [(0, .pointer (some ⟨g, 0, none⟩)), (2, .slice none 0 0), (3, .slice x.a x.n x.c), (7, .bool false), (12, .pointer (some ⟨g2, 0, none⟩)), (14, .bool false)]) ⟨rfl, rfl, rfl, rfl, rfl, rfl, trivial⟩ ?_)
      refine WE.next ?_
      refine WC.seq ?_
      refine WC.condF rfl rfl ?_
      refine WC.exit ?_
      refine WE.thenExit ?_
      refine WE.thenExit ?_
      refine WE.blockIs rfl ?_
      refine WE.next ?_
      refine WC.seq ?_
      refine WC.region ?_
      refine WL.val (.slice x.a x.n x.c) rfl rfl rfl (fun za zC zh zk => wp_move rfl (zh.ev rfl) zk) ?_
      rw [hre] at hIt
      have hn9 := told_le hlp hIt
      have hn8 := ho22.len
      have hSo : ∀ b, (Value.slice x.a x.n x.c).ownBlock = some b → w1.heap.size ≤ b ∧ b < w15.heap.size := fun b h => ho22.lt b h
      refine WL.call rfl rfl rfl (fun za zh zC => wp_call (by kernel_rfl) rfl (hv2 (zh.ev rfl) (zh.ev rfl))) (sortB_own ho22 (by omega) cmpIs_mat) ?_
      rintro _ w26 ⟨ls, rfl, hps, hss, hrs, hcs⟩
      have hb27 := chg_below hb18 hcs (fun b hb => (fun h => by have h := hSo _ h; (try dsimp only at *); omega))
      have hB28 := chg_blk hB19 hcs (fun h => by have h := hSo _ h; (try dsimp only at *); omega)
      have ho29 := ho20.chg hcs (fun h => by have h := hSo _ h; (try dsimp only at *); omega)
      have ho30 := ho21.chg hcs (fun h => by have h := hSo _ h; (try dsimp only at *); omega)
      refine WL.nil (WE.sub (K' := [(0, .pointer (some ⟨g, 0, none⟩)), (2, .slice none 0 0), (3, .slice x.a x.n x.c), (7, .bool false), (12, .pointer (some ⟨g2, 0, none⟩)), (14, .bool false)]) ⟨rfl, rfl, rfl, rfl, rfl, rfl, trivial⟩ ?_)
      refine WE.next ?_
      refine WC.seq ?_
      refine WC.region ?_
      refine WL.val (.slice x.a x.n x.c) rfl rfl rfl (fun za zC zh zk => wp_move rfl (zh.ev rfl) zk) ?_
      refine WL.val (.slice x.a x.n x.c) rfl rfl rfl (fun za zC zh zk => wp_assign rfl (zh.ev rfl) zk) ?_
      refine WL.nil (WE.sub (K' := [(0, .pointer (some ⟨g, 0, none⟩)), (2, .slice x.a x.n x.c), (3, .slice x.a x.n x.c), (7, .bool false), (12, .pointer (some ⟨g2, 0, none⟩)), (14, .bool false)]) ⟨rfl, rfl, rfl, rfl, rfl, rfl, trivial⟩ ?_)
      refine WE.next ?_
      refine WC.ret ?_
      refine WE.ret1 rfl rfl ?_
      have hRo := (hrs).inRow
      rw [hRo.2.1]
      refine ⟨_, rfl, ⟨ls, _, _, rfl, subOf_sorted hnd (hps.trans (told_all hnd hlp hIt)) hss, hRo.1.mono (by decide) (fun b hb _ => by omega), by omega, hRo.2.2.2⟩, hb27⟩
    · obtain ⟨i, hi, hy1, hy2⟩ := zip_at hlp (it_mem hIt hrp)
      obtain ⟨pb, po, pa, pc, hpv, hp1, hp2, hp3⟩ := (hM.ptr i hi).isTp
      rw [hpv] at hy2
      have hi64 := hM.i64 _ (dget_mem hi)
      have hszi := hM.sz _ (dget_mem hi)
      have hbd := bdOf_at hnd hi hy1
      have htl := told_lt hlp hIt (by omega)
      have hi64b := hi64
      unfold I64 at hi64b
      rw [hy1, hy2]
      have hR31 : RowE eltB w23 w1.heap.size 57 x.a x.c x.n ((told st x.done)) := ho22.upd hu24 (by omega)
      have hb32 := upd_below hb18 hu24 (by omega)
      have hB33 := upd_blk hB19 hu24 (by omega)
      have ho34 := ho20.upd hu24 (by omega)
      refine WL.val (.bool true) rfl rfl rfl (fun za zC zh zk => ext3_0 rfl (zh.ev rfl) zk) ?_
      refine WL.nil (WE.sub (K' := [(0, .pointer (some ⟨g, 0, none⟩)), (2, .slice none 0 0), (3, .slice x.a x.n x.c), (7, .bool false), (12, .pointer (some ⟨g2, 0, none⟩)), (14, .bool true)]) ⟨rfl, rfl, rfl, rfl, rfl, rfl, trivial⟩ ?_)
      refine WE.next ?_
      refine WC.seq ?_
      refine WC.condT rfl rfl ?_
      refine WC.skip ?_
      refine WE.next ?_
      refine WC.block ?_
      refine WC.seq ?_
      refine WC.region ?_
      refine WL.val (.tuple #[.int .i64 ((dget st i).var), .pointer (some ⟨pb, po, none⟩)]) rfl rfl rfl (fun za zC zh zk => wp_entry_im ho34 hI25 hM.ent hcu rfl (zh.ev rfl) (by rw [hy1, hy2]; exact zk)) ?_
      refine WL.val (.int .i64 ((dget st i).var)) rfl rfl rfl (fun za zC zh zk => ext2_0 rfl (zh.ev rfl) zk) ?_
      refine WL.val (.pointer (some ⟨pb, po, none⟩)) rfl rfl rfl (fun za zC zh zk => ext2_1 rfl (zh.ev rfl) zk) ?_
      refine WL.val (.int .i64 ((dget st i).var)) rfl rfl rfl (fun za zC zh zk => wp_assign rfl (zh.ev rfl) zk) ?_
      refine WL.val (.pointer (some ⟨pb, po, none⟩)) rfl rfl rfl (fun za zC zh zk => wp_assign rfl (zh.ev rfl) zk) ?_
      refine WL.nil (WE.sub (K' := [(0, .pointer (some ⟨g, 0, none⟩)), (2, .slice none 0 0), (3, .slice x.a x.n x.c), (4, .int .i64 ((dget st i).var)), (5, .pointer (some ⟨pb, po, none⟩)), (7, .bool false), (12, .pointer (some ⟨g2, 0, none⟩)), (14, .bool true)]) ⟨rfl, rfl, rfl, rfl, rfl, rfl, rfl, rfl, trivial⟩ ?_)
      refine WE.next ?_
      refine WC.seq ?_
      have hc35 := bkeeps hb32 _ _ hp1
      have hc36 := bkeeps hb32 _ _ hp2
      refine WC.opt [(true, .val (.pointer (some ⟨pb, po, none⟩))), (true, .val (.pointer (some ⟨pb, po, none⟩))), (true, .val (.pointer (some ⟨pb, po, none⟩))), (true, .val (.int .i64 ((dget st i).t.f))), (true, .val (.int .i64 ((dget st i).var))), (true, .val (.int .i64 ((-1 - (dget st i).var)))), (true, .val (.bool ((((dget st i).t.f : Int) != ((-1 - (dget st i).var) : Int))))), (true, .val (.bool ((((dget st i).t.f : Int) != ((-1 - (dget st i).var) : Int))))), ((true && !(((dget st i).t.f : Int) != ((-1 - (dget st i).var) : Int))), .val (.pointer (some ⟨pb, po, none⟩))), ((true && !(((dget st i).t.f : Int) != ((-1 - (dget st i).var) : Int))), .val (.pointer (some ⟨pb, po, none⟩))), ((true && !(((dget st i).t.f : Int) != ((-1 - (dget st i).var) : Int))), .val (.pointer (some ⟨pb, po + 1, none⟩))), ((true && !(((dget st i).t.f : Int) != ((-1 - (dget st i).var) : Int))), .val (.slice pa ((dget st i).t.args.length) pc)), ((true && !(((dget st i).t.f : Int) != ((-1 - (dget st i).var) : Int))), .val (.int .i64 ((((dget st i).t.args.length : Nat) : Int)))), ((true && !(((dget st i).t.f : Int) != ((-1 - (dget st i).var) : Int))), .val (.bool ((decide ((0 : Int) < ((((dget st i).t.args.length : Nat) : Int) : Int)))))), (true, .val (.bool (((((dget st i).t.f : Int) != ((-1 - (dget st i).var) : Int)) || (decide ((0 : Int) < ((((dget st i).t.args.length : Nat) : Int) : Int)))))))] [(0, .pointer (some ⟨g, 0, none⟩)), (2, .slice none 0 0), (3, .slice x.a x.n x.c), (4, .int .i64 ((dget st i).var)), (5, .pointer (some ⟨pb, po, none⟩)), (7, .bool false), (12, .pointer (some ⟨g2, 0, none⟩)), (14, .bool true)] ⟨rfl, rfl, rfl, rfl, rfl, rfl, rfl, rfl, trivial⟩ (by kernel_rfl) (by kernel_rfl) (by kernel_rfl) ?_ ?_
      · refine ⟨⟨true, .none rfl, fun h w => optUndef h, fun zβ za zw zc => ?_⟩, ?_⟩
        · exact wp_move rfl (zc.kn.ev rfl) ⟨_, rfl, Below.refl _ _, optDef zβ rfl⟩
        refine ⟨⟨true, .none rfl, fun h w => optUndef h, fun zβ za zw zc => ?_⟩, ?_⟩
        · exact nilCheck_ rfl ((show za.eval (.tmp 18) = za.tmps.getD 18 undef from rfl).trans (optVal (zc.dep 0 18 (by kernel_rfl)) rfl rfl)) ⟨_, rfl, Below.refl _ _, optDef zβ rfl⟩
        refine ⟨⟨true, .none rfl, fun h w => optUndef h, fun zβ za zw zc => ?_⟩, ?_⟩
        · exact fld_24_0 rfl ((show za.eval (.tmp 19) = za.tmps.getD 19 undef from rfl).trans (optVal (zc.dep 1 19 (by kernel_rfl)) rfl rfl)) ⟨_, rfl, Below.refl _ _, optDef zβ rfl⟩
        refine ⟨⟨true, .none rfl, fun h w => optUndef h, fun zβ za zw zc => ?_⟩, ?_⟩
        · exact ld_3 rfl ((show za.eval (.tmp 20) = za.tmps.getD 20 undef from rfl).trans (optVal (zc.dep 2 20 (by kernel_rfl)) rfl rfl)) (bkeeps zc.below _ _ hc35) ⟨_, rfl, Below.refl _ _, optDef zβ rfl⟩
        refine ⟨⟨true, .none rfl, fun h w => optUndef h, fun zβ za zw zc => ?_⟩, ?_⟩
        · exact wp_move rfl (zc.kn.ev rfl) ⟨_, rfl, Below.refl _ _, optDef zβ rfl⟩
        refine ⟨⟨true, .none rfl, fun h w => optUndef h, fun zβ za zw zc => ?_⟩, ?_⟩
        · exact subb_3 rfl (zc.kn.ev rfl) ((show za.eval (.tmp 22) = za.tmps.getD 22 undef from rfl).trans (optVal (zc.dep 4 22 (by kernel_rfl)) rfl rfl)) (wrap_eq rfl (by omega) (by omega)) ⟨_, rfl, Below.refl _ _, optDef zβ rfl⟩
        refine ⟨⟨true, .none rfl, fun h w => optUndef h, fun zβ za zw zc => ?_⟩, ?_⟩
        · exact neq_3 rfl ((show za.eval (.tmp 21) = za.tmps.getD 21 undef from rfl).trans (optVal (zc.dep 3 21 (by kernel_rfl)) rfl rfl)) ((show za.eval (.tmp 23) = za.tmps.getD 23 undef from rfl).trans (optVal (zc.dep 5 23 (by kernel_rfl)) rfl rfl)) ⟨_, rfl, Below.refl _ _, optDef zβ rfl⟩
        refine ⟨⟨true, .none rfl, fun h w => optUndef h, fun zβ za zw zc => ?_⟩, ?_⟩
        · exact wp_move rfl ((show za.eval (.tmp 24) = za.tmps.getD 24 undef from rfl).trans (optVal (zc.dep 6 24 (by kernel_rfl)) rfl rfl)) ⟨_, rfl, Below.refl _ _, optDef zβ rfl⟩
        refine ⟨⟨(true && !(((dget st i).t.f : Int) != ((-1 - (dget st i).var) : Int))), .no (c := (((dget st i).t.f : Int) != ((-1 - (dget st i).var) : Int))) (d := true) rfl (fun v w h => h), fun h w => optUndef h, fun zβ za zw zc => ?_⟩, ?_⟩
        · exact wp_move rfl (zc.kn.ev rfl) ⟨_, rfl, Below.refl _ _, optDef zβ rfl⟩
        refine ⟨⟨(true && !(((dget st i).t.f : Int) != ((-1 - (dget st i).var) : Int))), .no (c := (((dget st i).t.f : Int) != ((-1 - (dget st i).var) : Int))) (d := true) rfl (fun v w h => h), fun h w => optUndef h, fun zβ za zw zc => ?_⟩, ?_⟩
        · exact nilCheck_ rfl ((show za.eval (.tmp 26) = za.tmps.getD 26 undef from rfl).trans (optVal (zc.dep 8 26 (by kernel_rfl)) rfl zβ)) ⟨_, rfl, Below.refl _ _, optDef zβ rfl⟩
        refine ⟨⟨(true && !(((dget st i).t.f : Int) != ((-1 - (dget st i).var) : Int))), .no (c := (((dget st i).t.f : Int) != ((-1 - (dget st i).var) : Int))) (d := true) rfl (fun v w h => h), fun h w => optUndef h, fun zβ za zw zc => ?_⟩, ?_⟩
        · exact fld_24_1 rfl ((show za.eval (.tmp 27) = za.tmps.getD 27 undef from rfl).trans (optVal (zc.dep 9 27 (by kernel_rfl)) rfl zβ)) ⟨_, rfl, Below.refl _ _, optDef zβ rfl⟩
        refine ⟨⟨(true && !(((dget st i).t.f : Int) != ((-1 - (dget st i).var) : Int))), .no (c := (((dget st i).t.f : Int) != ((-1 - (dget st i).var) : Int))) (d := true) rfl (fun v w h => h), fun h w => optUndef h, fun zβ za zw zc => ?_⟩, ?_⟩
        · exact ld_22 rfl ((show za.eval (.tmp 28) = za.tmps.getD 28 undef from rfl).trans (optVal (zc.dep 10 28 (by kernel_rfl)) rfl zβ)) (bkeeps zc.below _ _ hc36) ⟨_, rfl, Below.refl _ _, optDef zβ rfl⟩
        refine ⟨⟨(true && !(((dget st i).t.f : Int) != ((-1 - (dget st i).var) : Int))), .no (c := (((dget st i).t.f : Int) != ((-1 - (dget st i).var) : Int))) (d := true) rfl (fun v w h => h), fun h w => optUndef h, fun zβ za zw zc => ?_⟩, ?_⟩
        · exact len_22 rfl ((show za.eval (.tmp 29) = za.tmps.getD 29 undef from rfl).trans (optVal (zc.dep 11 29 (by kernel_rfl)) rfl zβ)) ⟨_, rfl, Below.refl _ _, optDef zβ rfl⟩
        refine ⟨⟨(true && !(((dget st i).t.f : Int) != ((-1 - (dget st i).var) : Int))), .no (c := (((dget st i).t.f : Int) != ((-1 - (dget st i).var) : Int))) (d := true) rfl (fun v w h => h), fun h w => optUndef h, fun zβ za zw zc => ?_⟩, ?_⟩
        · exact gtr_3 rfl ((show za.eval (.tmp 30) = za.tmps.getD 30 undef from rfl).trans (optVal (zc.dep 12 30 (by kernel_rfl)) rfl zβ)) (zc.kn.ev rfl) ⟨_, rfl, Below.refl _ _, optDef zβ rfl⟩
        refine ⟨⟨true, .none rfl, fun h w => optUndef h, fun zβ za zw zc => ?_⟩, ?_⟩
        · exact wp_or rfl ((show za.eval (.tmp 25) = za.tmps.getD 25 undef from rfl).trans (optVal (zc.dep 7 25 (by kernel_rfl)) rfl rfl)) (fun hp => ((show za.eval (.tmp 31) = za.tmps.getD 31 undef from rfl).trans (optVal (zc.dep 13 31 (by kernel_rfl)) rfl (bMkN zβ hp)))) ⟨_, rfl, Below.refl _ _, optDef zβ rfl⟩
        exact trivial
      · intro za w37 zh hb38 zu
        have zh := zh.cons (d := 32) (v := .bool (((((dget st i).t.f : Int) != ((-1 - (dget st i).var) : Int)) || (decide ((0 : Int) < ((((dget st i).t.args.length : Nat) : Int) : Int)))))) (optVal (zu 14 32 (by kernel_rfl)) rfl rfl)
        clear zu
        refine (show WE _ [(0, .pointer (some ⟨g, 0, none⟩)), (2, .slice none 0 0), (3, .slice x.a x.n x.c), (4, .int .i64 ((dget st i).var)), (5, .pointer (some ⟨pb, po, none⟩)), (7, .bool false), (12, .pointer (some ⟨g2, 0, none⟩)), (14, .bool true), (32, .bool (((((dget st i).t.f : Int) != ((-1 - (dget st i).var) : Int)) || (decide ((0 : Int) < ((((dget st i).t.args.length : Nat) : Int) : Int))))))] w37 _ .normal from ?_) za (zh.sub ⟨rfl, rfl, rfl, rfl, rfl, rfl, rfl, rfl, rfl, trivial⟩)
        refine WE.next ?_
        refine WC.cond rfl (fun h39 => ?_) (fun h39 => ?_)
        · have h39 : (((dget st i).t.f : Int) ≠ ((-1 - (dget st i).var) : Int)) ∨ ((0 : Int) < ((((dget st i).t.args.length : Nat) : Int) : Int)) := by simpa using h39
          have ho40 := hR31.below hb38
          have hc41 := bkeeps hb38 _ _ hc35
          have hc42 := bkeeps hb38 _ _ hc36
          have hb43 : Below w.heap.size w w37 := (bstep hb32 hb38)
          have hSlt : ∀ b, (fun b => (Value.slice x.a x.n x.c).ownBlock = some b) b → b < w37.heap.size := fun b h => (ho40.lt b h).2
          have hSlo : ∀ b, (fun b => (Value.slice x.a x.n x.c).ownBlock = some b) b → w1.heap.size ≤ b ∧ b < w23.heap.size := fun b h => hR31.lt b h
          have hBW : w1.heap.size ≤ w37.heap.size := by have z1 := (Nat.le_trans (Nat.le_trans hBw (Nat.le_of_eq hu24.size.symm)) hb38.size); omega
          have hlL : x.n = ((told st x.done)).length := ho40.len
          refine WC.tail3 (S := ((fun b => (Value.slice x.a x.n x.c).ownBlock = some b))) [(true, .val (.slice x.a x.n x.c)), (true, .val (.int .i64 ((dget st i).var))), (true, .val (.pointer (some ⟨pb, po, none⟩))), (true, .val (.pointer (some ⟨pb, po, none⟩))), (true, .val (.agg #[.int .i64 ((dget st i).t.f), .slice pa ((dget st i).t.args.length) pc])), (true, .mem (fun v w' => NewT w37 w' ((dget st i).t) v) (fun v w w' hc h => InT.chg h hc (fun b hb hs => by have z := hSlt b hs; omega))), (true, .mem (fun v w' => BdNew w37 w' ((dget st i)) v) (fun v w w' hc h => h.chg hc hSlt)), (true, .mem (fun v w' => OneRow eltB w37 57 ((dget st i)) v w') (fun v w w' hc h => h.chg hc hSlt)), (true, .val undef), (true, .val undef)] [(0, .pointer (some ⟨g, 0, none⟩)), (2, .slice none 0 0), (4, .int .i64 ((dget st i).var)), (5, .pointer (some ⟨pb, po, none⟩)), (7, .bool false), (12, .pointer (some ⟨g2, 0, none⟩)), (14, .bool true), (32, .bool (((((dget st i).t.f : Int) != ((-1 - (dget st i).var) : Int)) || (decide ((0 : Int) < ((((dget st i).t.args.length : Nat) : Int) : Int))))))] 8 9 ((x.n + 1)) 41 3 (fun ra rc wz => RowE eltB wz w1.heap.size 57 ra rc (x.n + 1) ((told st x.done ++ [(dget st i)]))) (by decide) (fun ra rc w w' hb h => h.below hb) ⟨rfl, rfl, rfl, rfl, rfl, rfl, rfl, rfl, trivial⟩ (by kernel_rfl) (by kernel_rfl) (by kernel_rfl) (by kernel_rfl) (by kernel_rfl) (by kernel_rfl) ?_ ?_
          · refine ⟨.inl ⟨rfl, true, .none rfl, (fun gg b h => by cases h), fun h w => optUndef h, fun zβ za zw zc => ?_⟩, ?_⟩
            · exact wp_move rfl ((show za.eval (.tmp 3) = za.tmps.getD 3 undef from rfl).trans (zc.old 3 _ rfl (by kernel_rfl))) ⟨_, rfl, Below.refl _ _, optDef zβ rfl⟩
            refine ⟨.inl ⟨rfl, true, .none rfl, (fun gg b h => by cases h), fun h w => optUndef h, fun zβ za zw zc => ?_⟩, ?_⟩
            · exact wp_move rfl (zc.kn.ev rfl) ⟨_, rfl, Below.refl _ _, optDef zβ rfl⟩
            refine ⟨.inl ⟨rfl, true, .none rfl, (fun gg b h => by cases h), fun h w => optUndef h, fun zβ za zw zc => ?_⟩, ?_⟩
            · exact wp_move rfl (zc.kn.ev rfl) ⟨_, rfl, Below.refl _ _, optDef zβ rfl⟩
            refine ⟨.inl ⟨rfl, true, .none rfl, (fun gg b h => by cases h), fun h w => optUndef h, fun zβ za zw zc => ?_⟩, ?_⟩
            · exact nilCheck_ rfl ((show za.eval (.tmp 35) = za.tmps.getD 35 undef from rfl).trans (optSVal (zc.dep 2 35 (by kernel_rfl) (by decide)) rfl rfl)) ⟨_, rfl, Below.refl _ _, optDef zβ rfl⟩
            refine ⟨.inl ⟨rfl, true, .none rfl, (fun gg b h => by cases h), fun h w => optUndef h, fun zβ za zw zc => ?_⟩, ?_⟩
            · exact ld_24 rfl ((show za.eval (.tmp 36) = za.tmps.getD 36 undef from rfl).trans (optSVal (zc.dep 3 36 (by kernel_rfl) (by decide)) rfl rfl)) (bkeeps (zc.early (by kernel_rfl)) _ _ hc41) (bkeeps (zc.early (by kernel_rfl)) _ _ hc42) ⟨_, rfl, Below.refl _ _, optDef zβ rfl⟩
            refine ⟨.inl ⟨rfl, true, .none rfl, (fun gg b h => by cases h), fun h w => optUndef h, fun zβ za zw zc => ?_⟩, ?_⟩
            · exact wp_call (by kernel_rfl) rfl (hv1 ((show za.eval (.tmp 37) = za.tmps.getD 37 undef from rfl).trans (optSVal (zc.dep 4 37 (by kernel_rfl) (by decide)) rfl rfl))) (copy_any (dget st i).t _ _ hszi (IsT.below (bstep hb43 (zc.early (by kernel_rfl))) hp3)) (fun v w' h => ⟨v, rfl, h.2, optDef zβ (InT.mono (fun b hb _ => Nat.le_trans (zc.early (by kernel_rfl)).size hb) h.1)⟩)
            refine ⟨.inl ⟨rfl, true, .none rfl, (fun gg b h => by cases h), fun h w => optUndef h, fun zβ za zw zc => ?_⟩, ?_⟩
            · have zv := (optSMem (zc.dep 5 38 (by kernel_rfl) (by decide)) rfl rfl)
              obtain ⟨_, a1, c1, e1, _⟩ := zv.form
              rw [e1] at zv
              exact build_57_0_1 rfl ((show za.eval (.tmp 34) = za.tmps.getD 34 undef from rfl).trans (optSVal (zc.dep 1 34 (by kernel_rfl) (by decide)) rfl rfl)) ((show za.eval (.tmp 38) = za.tmps.getD 38 undef from rfl).trans e1) ⟨_, rfl, Below.refl _ _, optDef zβ ⟨_, _, rfl, hi64, zv⟩⟩
            refine ⟨.inl ⟨rfl, true, .none rfl, (fun gg b h => by cases h), fun h w => optUndef h, fun zβ za zw zc => ?_⟩, ?_⟩
            · have zv := (optSMem (zc.dep 6 39 (by kernel_rfl) (by decide)) rfl rfl)
              obtain ⟨u1, u2, e1, h0, zv⟩ := zv
              exact row_26_1 rfl ((show za.eval (.tmp 39) = za.tmps.getD 39 undef from rfl).trans e1) ⟨_, rfl, balloc _ _, optDef zβ ⟨_, _, rfl, zc.chg.size, Blk.new' rfl, ⟨_, _, rfl, h0, zv.below (balloc _ _)⟩⟩⟩
            refine ⟨.inr (.inl ⟨rfl, rfl, fun za zw zc => ?_⟩), ?_⟩
            · obtain ⟨g1, cs, e1, hg1, hB1, hin⟩ := (optSMem (zc.dep 7 40 (by kernel_rfl) (by decide)) rfl rfl)
              exact wp_appE (E := eltB) (size := 3) (bytes := 40) (z := .agg #[.int .i64 0, .int .i64 0, .slice none 0 0]) rfl Try.underlying26 (by kernel_rfl) rfl (by decide) rfl ((show za.eval (.tmp 33) = za.tmps.getD 33 undef from rfl).trans (optSVal (zc.dep 0 33 (by kernel_rfl) (by decide)) rfl rfl)) ((show za.eval (.tmp 40) = za.tmps.getD 40 undef from rfl).trans e1) (ho40.below zc.below) hB1 (eltB.mono (fun b hb _ => ⟨by omega, fun e => by have z := (ho40.lt b e).2; omega⟩) hin) (by omega) (by omega) (by have z := zc.below.size; omega) (fun ra rc w' h1 h2 _ => ⟨ra, rc, rfl, h1, h2⟩)
            refine ⟨.inr (.inr ⟨rfl, rfl, 41, by kernel_rfl, rfl⟩), ?_⟩
            exact trivial
          · intro za w44 ra47 rc48 zh zv zv2 hG45 hc46 zu
            have zh := zh.cons (d := 3) zv2
            have hB49 := hB33.below hb38
            have ho50 := ho34.below hb38
            have ho51 := hI25.below hb38
            have hb52 := chg_below hb43 hc46 (fun b hb => (fun h => by have h := hSlo _ h; (try dsimp only at *); omega))
            have hB53 := chg_blk hB49 hc46 (fun h => by have h := hSlo _ h; (try dsimp only at *); omega)
            have ho54 := ho50.chg hc46 (fun h => by have h := hSlo _ h; (try dsimp only at *); omega)
            have ho55 := ho51.chg hc46 (fun h => by have h := hSlo _ h; (try dsimp only at *); omega)
            clear zu
            refine (show WE _ [(0, .pointer (some ⟨g, 0, none⟩)), (2, .slice none 0 0), (3, .slice ra47 ((x.n + 1)) rc48), (4, .int .i64 ((dget st i).var)), (5, .pointer (some ⟨pb, po, none⟩)), (7, .bool false), (12, .pointer (some ⟨g2, 0, none⟩)), (14, .bool true), (32, .bool (((((dget st i).t.f : Int) != ((-1 - (dget st i).var) : Int)) || (decide ((0 : Int) < ((((dget st i).t.args.length : Nat) : Int) : Int))))))] w44 _ .normal from ?_) za (zh.sub ⟨rfl, rfl, rfl, rfl, rfl, rfl, rfl, rfl, rfl, trivial⟩)
            refine WE.blockNormal ?_
            refine WE.round (⟨x.done ++ [y], rest2, seen2, ra47, rc48, (x.n + 1)⟩) ⟨rfl, rfl, rfl, rfl, rfl, trivial⟩ ?_ ?_
            · exact ⟨(Nat.le_trans (Nat.le_trans (Nat.le_trans hBw (Nat.le_of_eq hu24.size.symm)) hb38.size) hc46.size), hIt2, hb52, hB53, ho54, ho55, (by rw [told_new hbd (fun q => by have z := itself_iff.1 q; omega)]; exact hG45)⟩
            · exact hrl
        · have h39 : ¬ ((((dget st i).t.f : Int) ≠ ((-1 - (dget st i).var) : Int)) ∨ ((0 : Int) < ((((dget st i).t.args.length : Nat) : Int) : Int))) := by simpa using h39
          refine WC.skip ?_
          refine WE.blockNormal ?_
          refine WE.round (⟨x.done ++ [y], rest2, seen2, x.a, x.c, x.n⟩) ⟨rfl, rfl, rfl, rfl, rfl, trivial⟩ ?_ ?_
          · have hb56 : Below w.heap.size w w37 := (bstep hb32 hb38)
            have hB57 := hB33.below hb38
            have ho58 := ho34.below hb38
            have ho59 := hI25.below hb38
            have ho60 := hR31.below hb38
            exact ⟨(Nat.le_trans (Nat.le_trans hBw (Nat.le_of_eq hu24.size.symm)) hb38.size), hIt2, hb56, hB57, ho58, ho59, (by rw [told_self hbd (itself_iff.2 (by omega))]; exact ho60)⟩
          · exact hrl

theorem msubNil (w : World) : Calls Try.prog 23 #[.pointer none] w (Ret fun v' w' => v' = .slice none 0 0 ∧ Below w.heap.size w w') := by
  refine Calls.walk (l := [.pointer none]) Try.func23 rfl (by kernel_rfl) ?_
  refine WC.sub (K' := [(0, .pointer none)]) ⟨rfl, trivial⟩ ?_
  refine WC.seq ?_
  refine WC.region ?_
  refine WL.val (.slice none 0 0) rfl rfl rfl (fun za zC zh zk => wp_assign rfl (zh.ev rfl) zk) ?_
  refine WL.nil (WE.sub (K' := [(0, .pointer none), (2, .slice none 0 0)]) ⟨rfl, rfl, trivial⟩ ?_)
  refine WE.next ?_
  refine WC.seq ?_
  refine WC.seq ?_
  refine WC.region ?_
  refine WL.val (.pointer none) rfl rfl rfl (fun za zC zh zk => wp_move rfl (zh.ev rfl) zk) ?_
  refine WL.val (.bool true) rfl rfl rfl (fun za zC zh zk => eqln_33 rfl (zh.ev rfl) (zh.ev rfl) zk) ?_
  refine WL.nil (WE.sub (K' := [(0, .pointer none), (2, .slice none 0 0), (7, .bool true)]) ⟨rfl, rfl, rfl, trivial⟩ ?_)
  refine WE.next ?_
  refine WC.condT rfl rfl ?_
  refine WC.seq ?_
  refine WC.region ?_
  refine WL.val (.slice none 0 0) rfl rfl rfl (fun za zC zh zk => wp_assign rfl (zh.ev rfl) zk) ?_
  refine WL.nil (WE.sub (K' := [(0, .pointer none), (2, .slice none 0 0), (7, .bool true)]) ⟨rfl, rfl, rfl, trivial⟩ ?_)
  refine WE.next ?_
  refine WC.ret ?_
  refine WE.thenRet ?_
  refine WE.ret1 rfl rfl ?_
  exact ⟨_, rfl, rfl, (Below.refl _ _)⟩

end Go.Proofs.Ytcmfjnadjddboaa

/- Regions in whatever order, in which operations that change the memory may be guarded: one behind the other, each with what it yields. -/
namespace Go.Proofs.Ytcmfjnadjddboaa
open Go.RowKit Go
set_option linter.unusedVariables false
set_option linter.unusedSimpArgs false
section
variable {P : Program} {ops : Array Oper}
structure CtxQ (ops : Array Oper) (chain : List Nat) (R : Nat → Value → World → Prop) (G : List (Option Value) → World → Prop) (n : Fr) (K : Known) (i : Nat) (o : Oper) (a : Act) (w : World) (vs : List (Option Value)) : Prop extends CtxG ops chain R G n K i o a w vs where
  anc : ∀ (p c : Nat), chain[p]? = some c → o.after.any (fun e => Region.binds .any e && (ancL ops e.on).contains c) = true → ∃ v, vs[p]? = some (some v)
def SoundQ (P : Program) (ops : Array Oper) (Q : Exit → Act → World → Prop) (chain : List Nat) (R : Nat → Value → World → Prop) (Le : World → World → Prop) (G : List (Option Value) → World → Prop) (n : Fr) (K : Known) (i : Nat) (o : Oper) : Prop :=
  (chain.contains i = false ∧ ∃ β, GuardIs R o β ∧ (∀ g b, o.guard = some (g, b) → chain.contains g = false) ∧ (β = false → ∀ w, R i undef w) ∧
    (β = true → ∀ (a : Act) (w : World) (vs : List (Option Value)), CtxQ ops chain R G n K i o a w vs →
      o.wpIn (fen n.r) 0 P a w (fun a' w' => ∃ v, a' = Act.put a o.dst v ∧ Le w w' ∧ G vs w' ∧ R i v w') Q)) ∨
  (∃ p, chain[p]? = some i ∧ ∃ β, GuardIs R o β ∧ (∀ g b, o.guard = some (g, b) → chain.contains g = false) ∧
    (β = false → ∀ (a : Act) (w : World) (vs : List (Option Value)), CtxQ ops chain R G n K i o a w vs → vs[p]? = some none → G (vs.set p (some undef)) w) ∧
    (β = true → ∀ (a : Act) (w : World) (vs : List (Option Value)), CtxQ ops chain R G n K i o a w vs → vs[p]? = some none →
      o.wpIn (fen n.r) 0 P a w (fun a' w' => ∃ v, a' = Act.put a o.dst v ∧ Le w w' ∧ G (vs.set p (some v)) w') Q))
def SoundFromQ (P : Program) (ops : Array Oper) (Q : Exit → Act → World → Prop) (chain : List Nat) (R : Nat → Value → World → Prop) (Le : World → World → Prop) (G : List (Option Value) → World → Prop) (n : Fr) (K : Known) : Nat → List Oper → Prop
  | _, [] => True
  | k, o :: r => SoundQ P ops Q chain R Le G n K k o ∧ SoundFromQ P ops Q chain R Le G n K (k + 1) r
theorem SoundFromQ.at_ {Q : Exit → Act → World → Prop} {chain : List Nat} {R : Nat → Value → World → Prop} {Le : World → World → Prop} {G : List (Option Value) → World → Prop} {n : Fr} {K : Known} : ∀ {l : List Oper} {k : Nat}, SoundFromQ P ops Q chain R Le G n K k l → ∀ i o, l[i]? = some o → SoundQ P ops Q chain R Le G n K (k + i) o
  | [], _, _, i, o, h => by simp at h
  | x :: r, k, h, 0, o, ho => by simp at ho; subst ho; exact h.1
  | x :: r, k, h, i + 1, o, ho => by
    have := h.2.at_ i o (by simpa using ho)
    rwa [show k + 1 + i = k + (i + 1) by omega] at this

theorem wp_any_genQ {Q : Exit → Act → World → Prop} {n : Fr} {K : Known} (chain : List Nat) (R : Nat → Value → World → Prop) (Le : World → World → Prop) (G : List (Option Value) → World → Prop)
    (hB : opsB ops n.n = true) (hnd : chain.Nodup) (hin : (chain.all fun c => Nat.blt c ops.size) = true) (hclear : clearB ops K = true)
    (hR : ∀ i v w w', R i v w → Le w w' → R i v w')
    (h : SoundFromQ P ops Q chain R Le G n K 0 ops.toList)
    (hQ : ∀ (a : Act) (w : World) (vs : List (Option Value)), Kn n K a → vs.length = chain.length → (∀ p, p < chain.length → ∃ v, vs[p]? = some (some v)) → G vs w → (∀ i d, (ops[i]?).bind (·.dst) = some d → chain.contains i = false → R i (a.tmps.getD d undef) w) → (∀ (p c d : Nat), chain[p]? = some c → (ops[c]?).bind (·.dst) = some d → vs[p]? = some (some (a.tmps.getD d undef))) → Q .normal a w) :
    ∀ (a0 : Act) (w0 : World), Kn n K a0 → G (List.replicate chain.length none) w0 → wpAnyIn (fen n.r) 0 P .any ops Q ops.size (Array.replicate ops.size false) a0 w0 := by
  have main : ∀ (fuel : Nat) (listed : Array Bool) (a : Act) (vs : List (Option Value)) (w : World), listed.toList.count false ≤ fuel → AtG ops chain R G n K listed a vs w →
      wpAnyIn (fen n.r) 0 P .any ops Q fuel listed a w := by
    intro fuel
    have done : ∀ (listed : Array Bool) (a : Act) (vs : List (Option Value)) (w : World), Region.ready .any ops listed = [] → AtG ops chain R G n K listed a vs w → Q .normal a w := by
      intro listed a vs w hr H
      have all : ∀ i, i < ops.size → listed.getD i false = true := fun i hi => by
        have := ready_nil hB H.size hr i hi
        have hs := H.size
        simpa [Array.getD, show i < listed.size by omega] using this
      have hin' : ∀ p c, chain[p]? = some c → c < ops.size := fun p c hc => by
        have := List.all_eq_true.1 hin _ (List.mem_of_getElem? hc)
        simpa [Nat.blt_eq] using this
      have lt_of : ∀ i d, (ops[i]?).bind (·.dst) = some d → i < ops.size := fun i d hd => by
        rcases Nat.lt_or_ge i ops.size with h | h
        · exact h
        · simp [Array.getElem?_eq_none h] at hd
      exact hQ a w vs H.kn H.len (fun p hp => (H.link p chain[p] (by simp [hp])).1 (all _ (hin' p _ (by simp [hp])))) H.now (fun i d hd hc => H.plain i d hc (all i (lt_of i d hd)) hd) (fun p c d hc hd => H.vals p c d hc (all c (hin' p c hc)) hd)
    induction fuel with
    | zero =>
      intro listed a vs w hc H
      have hr : Region.ready .any ops listed = [] := by
        cases hr : Region.ready .any ops listed with
        | nil => rfl
        | cons i r =>
          have := (mem_ready (md := .any) (ops := ops) (j := i) (listed := listed)).1 (by rw [hr]; simp)
          rw [count_zero hc i] at this
          simp at this
      exact ⟨hr, done listed a vs w hr H⟩
    | succ fuel ih =>
      intro listed a vs w hc H
      refine ⟨fun hr => done listed a vs w hr H, fun i hi => ?_⟩
      obtain ⟨hun, o, ho, haf⟩ := mem_ready.1 hi
      have hilt : i < ops.size := by
        rcases Nat.lt_or_ge i ops.size with h | h
        · exact h
        · simp [Array.getElem?_eq_none h] at ho
      have hils : i < listed.size := by have := H.size; omega
      have hun' := getD_false_of hun
      have ok := opsB_spec hB ho
      have hs2 := h.at_ i o (by simpa using ho)
      rw [Nat.zero_add] at hs2
      have after_of : ∀ j d, depB ops o j d = true → listed.getD j false = true ∧ (ops[j]?).bind (·.dst) = some d := by
        intro j d hj
        simp only [depB, Bool.and_eq_true, Array.any_eq_true, beq_iff_eq] at hj
        obtain ⟨⟨k, hk, h1, h2⟩, h3⟩ := hj
        exact ⟨h1 ▸ haf _ (Array.getElem_mem hk) h2, h3⟩
      have ctx : CtxG ops chain R G n K i o a w vs := by
        have opt : ∀ p c, chain[p]? = some c → listed.getD c false = false → vs[p]? = some none := fun p c hc hl => by
          have hp : p < vs.length := by rw [H.len]; exact (List.getElem?_eq_some_iff.1 hc).1
          rw [List.getElem?_eq_getElem hp]
          cases hx : vs[p] with
          | none => rfl
          | some v =>
            have := (H.link p c hc).2 ⟨v, by rw [List.getElem?_eq_getElem hp, hx]⟩
            rw [hl] at this; cases this
        refine ⟨H.now, H.kn, fun j d hj hc => H.plain j d hc (after_of j d hj).1 (after_of j d hj).2, H.len, fun p c d hc hj => H.vals p c d hc (after_of c d hj).1 (after_of c d hj).2, fun p c hc ha => ?_, fun p c hc ha => opt p c hc ?_, fun p c hc ha => opt p c hc ?_⟩
        · simp only [Array.any_eq_true, Bool.and_eq_true, beq_iff_eq] at ha
          obtain ⟨k, hk, h1, h2⟩ := ha
          exact (H.link p c hc).1 (h1 ▸ haf _ (Array.getElem_mem hk) h2)
        · cases hl : listed.getD c false with
          | false => rfl
          | true =>
            exfalso
            unfold afterB at ha
            split at ha
            · rename_i oc hoc
              simp only [Array.any_eq_true, Bool.and_eq_true, beq_iff_eq] at ha
              obtain ⟨k, hk, h1, h2⟩ := ha
              have := H.closed c oc hoc hl _ (Array.getElem_mem hk) h2
              rw [h1, hun'] at this
              cases this
            · cases ha
        · cases hl : listed.getD c false with
          | false => rfl
          | true =>
            exfalso
            have := anc_listed H.closed hl i (by simpa using ha)
            rw [hun'] at this
            cases this
      have ctxQ : CtxQ ops chain R G n K i o a w vs := ⟨ctx, fun p c hc ha => by
        simp only [Array.any_eq_true, Bool.and_eq_true] at ha
        obtain ⟨k, hk, h1, h2⟩ := ha
        exact (H.link p c hc).1 (anc_listed H.closed (haf _ (Array.getElem_mem hk) h1) c (by simpa using h2))⟩
      unfold wpOpIn
      simp only [ho]
      -- what is behind a step
      have step : ∀ (v : Value) (vs' : List (Option Value)) (w' : World), (∀ j u, R j u w → R j u w') → G vs' w' → (∀ d, o.dst = some d → chain.contains i = false → R i v w') →
          ((chain.contains i = false ∧ vs' = vs) ∨ (∃ p, chain[p]? = some i ∧ vs' = vs.set p (some v))) →
          wpAnyIn (fen n.r) 0 P .any ops Q fuel (listed.setIfInBounds i true) (Act.put a o.dst v) w' := by
        intro v vs' w' hle hG hRi hvs
        have hc' := count_set (l := listed) hils hun hc
        have hset : ∀ j, (listed.setIfInBounds i true).getD j false = true ↔ j = i ∨ listed.getD j false = true := by
          intro j
          by_cases hj : j = i
          · subst hj; simp [getD_set_eq hils]
          · rw [getD_set_ne false (Ne.symm hj)]; simp [hj]
        have hother : ∀ j k, j ≠ i → (ops[j]?).bind (·.dst) = some k → (Act.put a o.dst v).tmps.getD k undef = a.tmps.getD k undef := by
          intro j k hji hjk
          refine act_put_other (fun hd => ?_)
          have hjlt : j < ops.size := by
            rcases Nat.lt_or_ge j ops.size with h | h
            · exact h
            · simp [Array.getElem?_eq_none h] at hjk
          exact hji (ok.own k j hd hjlt hjk).symm
        have hself : ∀ d, (ops[i]?).bind (·.dst) = some d → (Act.put a o.dst v).tmps.getD d undef = v := by
          intro d hd
          rw [ho] at hd
          simp only [Option.bind_some] at hd
          rw [hd]
          exact act_put_self (by rw [H.kn.size]; exact ok.lt d hd)
        refine ih _ _ vs' w' hc' ⟨by simpa using H.size, H.kn.put_clear (fun k hk => clearB_look hclear (mem_dsts ho hk)) v, fun j d hjc hj hjd => ?_, fun p c hpc => ?_, fun p c d hpc hp hcd => ?_, ?_, fun j oj hoj hj e he hb => ?_, hG⟩
        · by_cases hji : j = i
          · subst hji
            rw [hself d hjd]
            rw [ho] at hjd
            exact hRi d hjd hjc
          · rw [hother j d hji hjd]
            exact hle _ _ (H.plain j d hjc (((hset j).1 hj).resolve_left hji) hjd)
        · rw [hset]
          rcases hvs with ⟨hci, rfl⟩ | ⟨q, hq, rfl⟩
          · have : c ≠ i := by
              rintro rfl
              have := List.mem_of_getElem? hpc
              simp [this] at hci
            exact ⟨fun h => (H.link p c hpc).1 (h.resolve_left this), fun h => .inr ((H.link p c hpc).2 h)⟩
          · have hpl : q < vs.length := by rw [H.len]; exact (List.getElem?_eq_some_iff.1 hq).1
            by_cases hpq : p = q
            · subst hpq
              rw [hq] at hpc
              simp only [Option.some.injEq] at hpc
              subst hpc
              exact ⟨fun _ => ⟨v, by rw [List.getElem?_set_self hpl]⟩, fun _ => .inl rfl⟩
            · have hci : c ≠ i := by
                rintro rfl
                exact hpq ((List.getElem?_inj (List.getElem?_eq_some_iff.1 hpc).1 hnd).1 (hpc.trans hq.symm))
              rw [List.getElem?_set_ne (Ne.symm hpq)]
              exact ⟨fun h => (H.link p c hpc).1 (h.resolve_left hci), fun h => .inr ((H.link p c hpc).2 h)⟩
        · rcases hvs with ⟨hci, rfl⟩ | ⟨q, hq, rfl⟩
          · have hne : c ≠ i := by
              rintro rfl
              have := List.mem_of_getElem? hpc
              simp [this] at hci
            rw [hother c d hne hcd]
            exact H.vals p c d hpc (((hset c).1 hp).resolve_left hne) hcd
          · have hpl : q < vs.length := by rw [H.len]; exact (List.getElem?_eq_some_iff.1 hq).1
            by_cases hpq : p = q
            · subst hpq
              rw [hq] at hpc
              simp only [Option.some.injEq] at hpc
              subst hpc
              rw [hself d hcd, List.getElem?_set_self hpl]
            · have hne : c ≠ i := by
                rintro rfl
                exact hpq ((List.getElem?_inj (List.getElem?_eq_some_iff.1 hpc).1 hnd).1 (hpc.trans hq.symm))
              rw [hother c d hne hcd, List.getElem?_set_ne (Ne.symm hpq)]
              exact H.vals p c d hpc (((hset c).1 hp).resolve_left hne) hcd
        · rcases hvs with ⟨hci, rfl⟩ | ⟨q, hq, rfl⟩
          · exact H.len
          · rw [List.length_set]; exact H.len
        · rw [hset]
          by_cases hji : j = i
          · subst hji
            rw [ho] at hoj
            simp only [Option.some.injEq] at hoj
            subst hoj
            exact .inr (haf e he hb)
          · exact .inr (H.closed j oj hoj (((hset j).1 hj).resolve_left hji) e he hb)
      have known : ∀ {β : Bool}, GuardIs R o β → (∀ g b, o.guard = some (g, b) → chain.contains g = false) → Region.wanted o (yielded ops a.tmps) = β := by
        intro β hg hgc
        have known : ∀ g c d b, o.guard = some (g, b) → (∀ v w, R g v w → (d = true → v = .bool c) ∧ (d = false → v = undef)) → yielded ops a.tmps g = if d then some c else none := by
          intro g c dd b hgb hv
          obtain ⟨⟨e, he, h1, h2⟩, d, hd⟩ := ok.guard g b hgb
          have hv := hv (a.tmps.getD d undef) w (H.plain g d (hgc g b hgb) (h1 ▸ haf e he h2) hd)
          have hdlt : d < a.tmps.size := by
            obtain ⟨og, hog, hgd⟩ := Option.bind_eq_some_iff.1 hd
            rw [H.kn.size]
            exact (opsB_spec hB hog).lt d hgd
          unfold yielded
          rw [hd]
          simp only [Array.getD_eq_getD_getElem?, Array.getElem?_eq_getElem hdlt, Option.getD_some] at hv
          cases dd with
          | true => simp [hdlt, hv.1 rfl]
          | false => simp [hdlt, hv.2 rfl, undef]
        cases hg with
        | none h => unfold Region.wanted; rw [h]
        | @yes g c d h hv => have := known _ _ _ _ h hv; unfold Region.wanted; rw [h]; simp only [this]; cases d <;> simp
        | @no g c d h hv => have := known _ _ _ _ h hv; unfold Region.wanted; rw [h]; simp only [this]; cases d <;> cases c <;> simp
      rcases hs2 with ⟨hci, β, hg, hgc, hs1, hs2⟩ | ⟨p, hp, β, hg, hgc, hs1, hs2⟩
      · have hwant := known hg hgc
        cases hβ : β with
        | false =>
          rw [hβ] at hwant
          simp only [hwant, Bool.false_eq_true, if_false]
          refine ⟨fun f _ => fen_fn _ f, ?_⟩
          exact step undef vs w (fun _ _ h => h) H.now (fun _ _ _ => hs1 hβ w) (.inl ⟨hci, rfl⟩)
        | true =>
          rw [hβ] at hwant
          simp only [hwant, if_true]
          refine Oper.wpIn_mono ?_ (hs2 hβ a w vs ctxQ)
          rintro a' w' ⟨v, rfl, hle, hG, hRi⟩
          exact step v vs w' (fun j u hj => hR j u _ _ hj hle) hG (fun _ _ _ => hRi) (.inl ⟨hci, rfl⟩)
      · have hwant := known hg hgc
        have hnone : vs[p]? = some none := by
          have hp' : p < vs.length := by rw [H.len]; exact (List.getElem?_eq_some_iff.1 hp).1
          rw [List.getElem?_eq_getElem hp']
          cases hx : vs[p] with
          | none => rfl
          | some v =>
            have := (H.link p i hp).2 ⟨v, by rw [List.getElem?_eq_getElem hp', hx]⟩
            rw [hun'] at this; cases this
        have hcc : chain.contains i = true := by
          have := List.mem_of_getElem? hp
          simpa using this
        cases hβ : β with
        | false =>
          rw [hβ] at hwant
          simp only [hwant, Bool.false_eq_true, if_false]
          refine ⟨fun f _ => fen_fn _ f, ?_⟩
          exact step undef (vs.set p (some undef)) w (fun _ _ h => h) (hs1 hβ a w vs ctxQ hnone) (fun _ _ h => by rw [hcc] at h; cases h) (.inr ⟨p, hp, rfl⟩)
        | true =>
          rw [hβ] at hwant
          simp only [hwant, if_true]
          refine Oper.wpIn_mono ?_ (hs2 hβ a w vs ctxQ hnone)
          rintro a' w' ⟨v, rfl, hle, hG⟩
          exact step v (vs.set p (some v)) w' (fun j u hj => hR j u _ _ hj hle) hG (fun _ _ h => by rw [hcc] at h; cases h) (.inr ⟨p, hp, rfl⟩)
  intro a0 w0 hk0 h0
  have nothing' : ∀ i, (Array.replicate ops.size false).getD i false = false := fun i => by
    by_cases h : i < ops.size <;> simp [Array.getD, h]
  refine main _ _ _ (List.replicate chain.length none) _ (by simp) ⟨by simp, hk0, fun i d _ hi => ?_, fun p c hpc => ?_, fun p c d _ hp => ?_, by simp, fun i o _ hi => ?_, h0⟩
  · rw [nothing'] at hi; cases hi
  · rw [nothing']
    refine ⟨fun h => (by cases h), fun ⟨v, hv⟩ => ?_⟩
    have hp := (List.getElem?_eq_some_iff.1 hpc).1
    simp [hp] at hv
  · rw [nothing'] at hp; cases hp
  · rw [nothing'] at hi; cases hi

/-- The law: of what is known of the frame 'K0' is what the region does not write. -/
theorem WC.genQ {id : Nat} {dr : Bool} {Q : Exit → Act → World → Prop} {n : Fr} {K : Known} {w : World} (chain : List Nat) (R : Nat → Value → World → Prop) (Le : World → World → Prop) (G : List (Option Value) → World → Prop) (K0 : Known)
    (hs : subK K0 K) (hclear : clearB ops K0 = true) (hm : P.follows .mixedOrders = true) (hB : opsB ops n.n = true) (hnd : chain.Nodup) (hin : (chain.all fun c => Nat.blt c ops.size) = true)
    (hR : ∀ i v w w', R i v w → Le w w' → R i v w') (h0 : G (List.replicate chain.length none) (bif dr then w.drew else w))
    (h : SoundFromQ P ops Q chain R Le G n K0 0 ops.toList)
    (hQ : ∀ (a : Act) (w : World) (vs : List (Option Value)), Kn n K0 a → vs.length = chain.length → (∀ p, p < chain.length → ∃ v, vs[p]? = some (some v)) → G vs w → (∀ i d, (ops[i]?).bind (·.dst) = some d → chain.contains i = false → R i (a.tmps.getD d undef) w) → (∀ (p c d : Nat), chain[p]? = some c → (ops[c]?).bind (·.dst) = some d → vs[p]? = some (some (a.tmps.getD d undef))) → Q .normal a w) :
    WC P n K w (.region id ops dr) Q := by
  intro a ha
  have main := wp_any_genQ chain R Le G hB hnd hin hclear hR h hQ a
  cases dr with
  | true => exact wpIn_region_any hm (main _ (ha.sub hs) h0)
  | false => exact any_start hB (main _ (ha.sub hs) h0)


/-! ### Values that are told -/
/-- Which of the operations of the chain are done, and what they have yielded. -/
def Vals (vals : List Value) (m : Nat) : List (Option Value) := vals.map some ++ List.replicate (m - vals.length) none
variable {S : Nat → Prop}
def GH (S : Nat → Prop) (w0 : World) (m : Nat) (cv : List (Option (Bool × Value))) (GV : List Value → World → Prop) (vs : List (Option Value)) (w : World) : Prop :=
  ∃ vals, vals.length ≤ m ∧ vs = Vals vals m ∧ GV vals w ∧ Chg S w0 w ∧ ∀ (q : Nat) b x, cv[q]? = some (some (b, x)) → b = true → ∀ v, vals[q]? = some v → v = x
theorem vals_some {vals : List Value} {m q : Nat} {v : Value} (h : (Vals vals m)[q]? = some (some v)) : vals[q]? = some v := by
  unfold Vals at h
  rcases Nat.lt_or_ge q vals.length with hq | hq
  · rw [List.getElem?_append_left (by simpa using hq), List.getElem?_map, List.getElem?_eq_getElem hq] at h
    rw [List.getElem?_eq_getElem hq]; simpa using h
  · rw [List.getElem?_append_right (by simpa using hq), List.getElem?_replicate] at h
    split at h
    · cases h
    · cases h
theorem vals_none {vals : List Value} {m q : Nat} (h : (Vals vals m)[q]? = some none) : vals.length ≤ q := by
  unfold Vals at h
  rcases Nat.lt_or_ge q vals.length with hq | hq
  · rw [List.getElem?_append_left (by simpa using hq), List.getElem?_map, List.getElem?_eq_getElem hq] at h
    cases h
  · exact hq
theorem vals_set {vals : List Value} {m : Nat} {v : Value} (h : vals.length < m) : (Vals vals m).set vals.length (some v) = Vals (vals ++ [v]) m := by
  unfold Vals
  rw [List.set_append_right _ _ (by simp), List.map_append, List.length_append, List.append_assoc]
  congr 1
  obtain ⟨k, hk⟩ : ∃ k, m - vals.length = k + 1 := ⟨m - vals.length - 1, by omega⟩
  rw [hk, List.replicate_succ, List.length_map, Nat.sub_self, List.set_cons_zero, show m - (vals.length + [v].length) = k by simp; omega]
  rfl
/-- What an operation finds: 'l' says what the others yield, 'cv' what those of the chain do. -/
structure CtxV (ops : Array Oper) (S : Nat → Prop) (l : List (Bool × SpS S)) (chain : List Nat) (cv : List (Option (Bool × Value))) (n : Fr) (K : Known) (w0 : World) (o : Oper) (a : Act) (w : World) : Prop where
  chg : Chg S w0 w
  kn : Kn n K a
  dep : ∀ j d, depB ops o j d = true → chain.contains j = false → optS l j (a.tmps.getD d undef) w
  link : ∀ (q c d : Nat) (b : Bool) (x : Value), chain[q]? = some c → depB ops o c d = true → cv[q]? = some (some (b, x)) → b = true → a.tmps.getD d undef = x
/-- .. and an operation of the chain: what was yielded before it. -/
structure CtxW (ops : Array Oper) (S : Nat → Prop) (l : List (Bool × SpS S)) (chain : List Nat) (cv : List (Option (Bool × Value))) (GV : List Value → World → Prop) (n : Fr) (K : Known) (w0 : World) (p : Nat) (o : Oper) (a : Act) (w : World) (vals : List Value) : Prop extends CtxV ops S l chain cv n K w0 o a w where
  len : vals.length = p
  now : GV vals w
  val : ∀ (q c d : Nat), chain[q]? = some c → depB ops o c d = true → vals[q]? = some (a.tmps.getD d undef)
/-- That the operation 'o' comes behind the one ahead of it in the chain. -/
def behind (ops : Array Oper) (chain : List Nat) (p : Nat) (o : Oper) : Bool := match p with | 0 => true | p + 1 => match chain[p]? with | some c => o.after.any (fun e => Region.binds .any e && (ancL ops e.on).contains c) | none => false
def SeqV (P : Program) (ops : Array Oper) (Q : Exit → Act → World → Prop) (l : List (Bool × SpS S)) (chain : List Nat) (cv : List (Option (Bool × Value))) (GV : List Value → World → Prop) (n : Fr) (K : Known) (w0 : World) : Nat → List Oper → Prop
  | _, [] => True
  | i, o :: r => ((chain.contains i = false ∧ ∃ β, GuardIs (optS l) o β ∧ (∀ g b, o.guard = some (g, b) → chain.contains g = false) ∧ (β = false → ∀ w, optS l i undef w) ∧
      (β = true → ∀ a w, CtxV ops S l chain cv n K w0 o a w → o.wp P a w (fun a' w' => ∃ v, a' = Act.put a o.dst v ∧ Below w.heap.size w w' ∧ optS l i v w') Q)) ∨
    (∃ p, chain[p]? = some i ∧ behind ops chain p o = true ∧ ∃ β, GuardIs (optS l) o β ∧ (∀ g b, o.guard = some (g, b) → chain.contains g = false) ∧
      (β = false → ∀ w vals, vals.length = p → GV vals w → GV (vals ++ [undef]) w ∧ ∀ b x, cv[p]? = some (some (b, x)) → b = true → undef = x) ∧
      (β = true → ∀ a w vals, CtxW ops S l chain cv GV n K w0 p o a w vals → o.wp P a w (fun a' w' => ∃ v, a' = Act.put a o.dst v ∧ Chg S w w' ∧ GV (vals ++ [v]) w' ∧ ∀ b x, cv[p]? = some (some (b, x)) → b = true → v = x) Q))) ∧ SeqV P ops Q l chain cv GV n K w0 (i + 1) r
theorem cv_snoc {cv : List (Option (Bool × Value))} {vals : List Value} {v : Value} (h : ∀ (q : Nat) b x, cv[q]? = some (some (b, x)) → b = true → ∀ v, vals[q]? = some v → v = x) (hv : ∀ b x, cv[vals.length]? = some (some (b, x)) → b = true → v = x) : ∀ (q : Nat) b x, cv[q]? = some (some (b, x)) → b = true → ∀ u, (vals ++ [v])[q]? = some u → u = x := by
  intro q b x hq hb u hu
  rcases Nat.lt_trichotomy q vals.length with c | c | c
  · rw [List.getElem?_append_left c] at hu; exact h q b x hq hb u hu
  · subst c
    rw [List.getElem?_append_right (Nat.le_refl _), Nat.sub_self] at hu
    have : v = u := by simpa using hu
    rw [← this]; exact hv b x hq hb
  · rw [List.getElem?_append_right (by omega)] at hu
    obtain ⟨k, hk⟩ : ∃ k, q - vals.length = k + 1 := ⟨q - vals.length - 1, by omega⟩
    rw [hk] at hu; cases hu
theorem SeqV.gen {Q : Exit → Act → World → Prop} {l : List (Bool × SpS S)} {chain : List Nat} {cv : List (Option (Bool × Value))} {GV : List Value → World → Prop} {n : Fr} {K : Known} {w0 : World} (hGV : ∀ vals w w', Below w.heap.size w w' → GV vals w → GV vals w') : ∀ {lo : List Oper} {i : Nat}, SeqV P ops Q l chain cv GV n K w0 i lo →
    SoundFromQ P ops Q chain (optS l) (Chg S) (GH S w0 chain.length cv GV) n K i lo
  | [], _, _ => trivial
  | o :: r, i, ⟨h, hr⟩ => by
    refine ⟨?_, hr.gen hGV⟩
    have ctx : ∀ {a w vs vals}, CtxQ ops chain (optS l) (GH S w0 chain.length cv GV) n K i o a w vs → vs = Vals vals chain.length → Chg S w0 w → (∀ (q : Nat) b x, cv[q]? = some (some (b, x)) → b = true → ∀ v, vals[q]? = some v → v = x) → CtxV ops S l chain cv n K w0 o a w := fun {a w vs vals} C e hc hv =>
      ⟨hc, C.kn, C.dep, fun q c d b x h1 h2 h3 h4 => hv q b x h3 h4 _ (vals_some (e ▸ C.link q c d h1 h2))⟩
    rcases h with ⟨hi, β, h1, h2, h3, h4⟩ | ⟨p, hp, hbh, β, h1, h2, h3, h4⟩
    · refine .inl ⟨hi, β, h1, h2, h3, fun hβ a w vs C => ?_⟩
      obtain ⟨vals, k1, k2, k3, k4, k5⟩ := C.now
      refine Oper.wpIn_mono ?_ (wpIn_of (h4 hβ a w (ctx C k2 k4 k5)) (by rintro a' w' ⟨v, rfl, _⟩; exact put_defers _ _ _))
      rintro a' w' ⟨v, rfl, hb, hR⟩
      exact ⟨v, rfl, .ofBelow hb, ⟨vals, k1, k2, hGV _ _ _ hb k3, k4.trans (.ofBelow hb), k5⟩, hR⟩
    · have hpl : p < chain.length := (List.getElem?_eq_some_iff.1 hp).1
      have len : ∀ {a w vs vals}, CtxQ ops chain (optS l) (GH S w0 chain.length cv GV) n K i o a w vs → vs = Vals vals chain.length → vs[p]? = some none → vals.length = p := fun {a w vs vals} C e hn => by
        have h5 := vals_none (e ▸ hn)
        cases p with
        | zero => omega
        | succ p =>
          unfold behind at hbh
          obtain ⟨c, hc⟩ : ∃ c, chain[p]? = some c := ⟨chain[p], List.getElem?_eq_getElem (by omega)⟩
          simp only [hc] at hbh
          obtain ⟨v, hv⟩ := C.anc p c hc hbh
          have h6 := vals_some (e ▸ hv)
          have := (List.getElem?_eq_some_iff.1 h6).1
          omega
      refine .inr ⟨p, hp, β, h1, h2, fun hβ a w vs C hn => ?_, fun hβ a w vs C hn => ?_⟩
      · obtain ⟨vals, k1, k2, k3, k4, k5⟩ := C.now
        have hl := len C k2 hn
        obtain ⟨z1, z2⟩ := h3 hβ w vals hl k3
        refine ⟨vals ++ [undef], by simp; omega, ?_, z1, k4, cv_snoc k5 (hl ▸ z2)⟩
        rw [k2, ← hl, vals_set (by omega)]
      · obtain ⟨vals, k1, k2, k3, k4, k5⟩ := C.now
        have hl := len C k2 hn
        refine Oper.wpIn_mono ?_ (wpIn_of (h4 hβ a w vals ⟨ctx C k2 k4 k5, hl, k3, fun q c d z1 z2 => vals_some (k2 ▸ C.link q c d z1 z2)⟩) (by rintro a' w' ⟨v, rfl, _⟩; exact put_defers _ _ _))
        rintro a' w' ⟨v, rfl, hc, z1, z2⟩
        refine ⟨v, rfl, hc, vals ++ [v], by simp; omega, ?_, z1, k4.trans hc, cv_snoc k5 (hl ▸ z2)⟩
        rw [k2, ← hl, vals_set (by omega)]
theorem cvIs {v X : Value} {β : Bool} (h : v = X) : ∀ b x, (some (some (β, X)) : Option (Option (Bool × Value))) = some (some (b, x)) → b = true → v = x := fun b x e _ => by cases e; exact h
theorem cvOff {v X : Value} {β : Bool} (h : β = false) : ∀ b x, (some (some (β, X)) : Option (Option (Bool × Value))) = some (some (b, x)) → b = true → v = x := fun b x e hb => by cases e; rw [h] at hb; cases hb
theorem cvNo {v : Value} : ∀ b x, (some none : Option (Option (Bool × Value))) = some (some (b, x)) → b = true → v = x := fun b x e => by cases e
theorem vlen0 {l : List Value} (h : l.length = 0) : l = [] := List.length_eq_zero_iff.1 h
theorem vlen1 {l : List Value} (h : l.length = 1) : ∃ a, l = [a] := by
  match l, h with
  | [a], _ => exact ⟨a, rfl⟩
theorem vlen2 {l : List Value} (h : l.length = 2) : ∃ a b, l = [a, b] := by
  match l, h with
  | [a, b], _ => exact ⟨a, b, rfl⟩
theorem vlen3 {l : List Value} (h : l.length = 3) : ∃ a b c, l = [a, b, c] := by
  match l, h with
  | [a, b, c], _ => exact ⟨a, b, c, rfl⟩
theorem vlen4 {l : List Value} (h : l.length = 4) : ∃ a b c d, l = [a, b, c, d] := by
  match l, h with
  | [a, b, c, d], _ => exact ⟨a, b, c, d, rfl⟩
theorem WC.seqV {id : Nat} {dr : Bool} {Q : Exit → Act → World → Prop} {n : Fr} {K : Known} {w : World} (l : List (Bool × SpS S)) (K0 : Known) (chain : List Nat) (cv : List (Option (Bool × Value))) (GV : List Value → World → Prop) (hGV : ∀ vals w w', Below w.heap.size w w' → GV vals w → GV vals w') (hnd : chain.Nodup)
    (hs : subK K0 K) (hclear : clearB ops K0 = true) (hm : P.follows .mixedOrders = true) (hB : opsB ops n.n = true) (hin : (chain.all fun c => Nat.blt c ops.size) = true) (h0 : GV [] w)
    (h : SeqV P ops Q l chain cv GV n K0 w 0 ops.toList)
    (hQ : ∀ (a : Act) (w' : World) (vals : List Value), Kn n K0 a → vals.length = chain.length → GV vals w' → Chg S w w' → (∀ i d, (ops[i]?).bind (·.dst) = some d → chain.contains i = false → optS l i (a.tmps.getD d undef) w') → (∀ (p c d : Nat), chain[p]? = some c → (ops[c]?).bind (·.dst) = some d → vals[p]? = some (a.tmps.getD d undef)) → (∀ (p c d : Nat) b x, chain[p]? = some c → (ops[c]?).bind (·.dst) = some d → cv[p]? = some (some (b, x)) → b = true → a.tmps.getD d undef = x) → Q .normal a w') :
    WC P n K w (.region id ops dr) Q := by
  refine WC.genQ chain (optS l) (Chg S) (GH S w chain.length cv GV) K0 hs hclear hm hB hnd hin (optSKeep l) ?_ (h.gen hGV) (fun a w' vs hk hlen hall hG hu hl => ?_)
  · refine ⟨[], Nat.zero_le _, by simp [Vals], ?_, ?_, fun q b x _ _ v hv => (nomatch hv)⟩
    · cases dr with
      | true => exact hGV _ _ _ (Below.refl _ _).drew h0
      | false => exact h0
    · cases dr with
      | true => exact .ofBelow (Below.refl _ _).drew
      | false => exact .ofBelow (Below.refl _ _)
  · obtain ⟨vals, k1, k2, k3, k4, k5⟩ := hG
    have hlv : vals.length = chain.length := by
      rcases Nat.lt_or_ge vals.length chain.length with c | c
      · obtain ⟨v, hv⟩ := hall vals.length c
        have h6 := (List.getElem?_eq_some_iff.1 (vals_some (k2 ▸ hv))).1
        omega
      · omega
    have hv : ∀ (p c d : Nat), chain[p]? = some c → (ops[c]?).bind (·.dst) = some d → vals[p]? = some (a.tmps.getD d undef) := fun p c d z1 z2 => vals_some (k2 ▸ hl p c d z1 z2)
    exact hQ a w' vals hk hlv k3 k4 hu hv (fun p c d b x z1 z2 z3 z4 => k5 p b x z3 z4 _ (hv p c d z1 z2))
end
end Go.Proofs.Ytcmfjnadjddboaa

/- Match and Variant: the program. -/
namespace Go.Proofs.Ytcmfjnadjddboaa
open Go.RowKit Go
set_option linter.unusedVariables false
set_option linter.unusedSimpArgs false

set_option maxRecDepth 100000 in
theorem match_any (p t : T) (w : World) (u v : Value) (hp : IsT w p u) (ht : IsT w t v) (hzp : p.size ≤ 4294967296) (hzt : t.size ≤ 4294967296) : Calls Try.prog 8 #[u, v] w (Ret fun v' w' => MatchIs w w' p t v' ∧ Below w.heap.size w w') := by
  obtain ⟨hfp, pa0, pc0, rfl, _, _, _⟩ := hp.form
  obtain ⟨hft, ta0, tc0, rfl, _, _, _⟩ := ht.form
  have hpI := hp.inT
  have htI := ht.inT
  refine Calls.walk (l := [.agg #[.int .i64 p.f, .slice pa0 p.args.length pc0], .agg #[.int .i64 t.f, .slice ta0 t.args.length tc0]]) Try.func8 rfl (by kernel_rfl) ?_
  refine WC.sub (K' := [(0, .agg #[.int .i64 p.f, .slice pa0 p.args.length pc0]), (1, .agg #[.int .i64 t.f, .slice ta0 t.args.length tc0])]) ⟨rfl, rfl, trivial⟩ ?_
  refine WC.seq ?_
  refine WC.region ?_
  refine WL.step (post := NewBlk w 24 #[.int .i64 p.f, .slice pa0 p.args.length pc0]) rfl rfl rfl (fun za zC zh zk => box_24 rfl (zh.ev rfl) (zk _ _ (newBlk _ _ _))) ?_
  rintro _ w1 ⟨g2, rfl, hg3, hB4, hb5, hz6⟩
  have hl7 : w.heap.size ≤ g2 := by omega
  refine WL.step (post := NewBlk w1 24 #[.int .i64 t.f, .slice ta0 t.args.length tc0]) rfl rfl rfl (fun za zC zh zk => box_24 rfl (zh.ev rfl) (zk _ _ (newBlk _ _ _))) ?_
  rintro _ w8 ⟨g9, rfl, hg10, hB11, hb12, hz13⟩
  have hl14 : g2 < g9 := by have z1 := hB4.lt; omega
  have hl15 : w.heap.size ≤ g9 := by have z2 := (hb5).size; omega
  refine WL.val (.slice none 0 0) rfl rfl rfl (fun za zC zh zk => wp_assign rfl (zh.ev rfl) zk) ?_
  refine WL.val (.bool false) rfl rfl rfl (fun za zC zh zk => wp_assign rfl (zh.ev rfl) zk) ?_
  refine WL.nil (WE.sub (K' := [(0, .agg #[.int .i64 p.f, .slice pa0 p.args.length pc0]), (1, .agg #[.int .i64 t.f, .slice ta0 t.args.length tc0]), (2, .pointer (some ⟨g2, 0, none⟩)), (3, .pointer (some ⟨g9, 0, none⟩)), (4, .slice none 0 0), (5, .bool false)]) ⟨rfl, rfl, rfl, rfl, rfl, rfl, trivial⟩ ?_)
  refine WE.next ?_
  refine WC.seq ?_
  refine WC.region ?_
  have hB16 := hB4.below hb12
  have hl17 : g2 < w8.heap.size := hB16.lt
  have hl18 : w.heap.size ≤ g2 := by have z : w.heap.size ≤ w.heap.size := (Nat.le_refl _); omega
  have hl19 : g9 < w8.heap.size := hB11.lt
  have hl20 : w.heap.size ≤ g9 := by have z : w.heap.size ≤ w1.heap.size := hb5.size; omega
  refine WL.call rfl rfl rfl (fun za zh zC => wp_call (by kernel_rfl) rfl (hv0)) (new_any _) ?_
  rintro _ w21 ⟨⟨gm, C, rfl, hMA, hC⟩, hbn⟩
  have hwa : w.heap.size ≤ w8.heap.size := (Nat.le_trans hb5.size hb12.size)
  refine WL.val (.pointer (some ⟨gm, 0, none⟩)) rfl rfl rfl (fun za zC zh zk => wp_assign rfl (zh.ev rfl) zk) ?_
  refine WL.nil (WE.sub (K' := [(0, .agg #[.int .i64 p.f, .slice pa0 p.args.length pc0]), (1, .agg #[.int .i64 t.f, .slice ta0 t.args.length tc0]), (2, .pointer (some ⟨g2, 0, none⟩)), (3, .pointer (some ⟨g9, 0, none⟩)), (4, .slice none 0 0), (5, .bool false), (6, .pointer (some ⟨gm, 0, none⟩))]) ⟨rfl, rfl, rfl, rfl, rfl, rfl, rfl, trivial⟩ ?_)
  refine WE.next ?_
  refine WC.seq ?_
  refine WC.seq ?_
  refine WC.region ?_
  refine WL.val (.pointer (some ⟨gm, 0, none⟩)) rfl rfl rfl (fun za zC zh zk => wp_move rfl (zh.ev rfl) zk) ?_
  have hB22 := hB16.below hbn
  refine WL.val (.agg #[.int .i64 p.f, .slice pa0 p.args.length pc0]) rfl rfl rfl (fun za zC zh zk => ld_24 rfl (zh.ev rfl) ((hB22.cell 0).trans rfl) ((hB22.cell 1).trans rfl) zk) ?_
  have hB23 := hB11.below hbn
  refine WL.val (.agg #[.int .i64 t.f, .slice ta0 t.args.length tc0]) rfl rfl rfl (fun za zC zh zk => ld_24 rfl (zh.ev rfl) ((hB23.cell 0).trans rfl) ((hB23.cell 1).trans rfl) zk) ?_
  have hb24 : Below w.heap.size w w21 := (bstep (bstep hb5 hb12) hbn)
  refine WL.call rfl rfl rfl (fun za zh zC => wp_call (by kernel_rfl) rfl (hv3 (zh.ev rfl) (zh.ev rfl) (zh.ev rfl))) (term_any p t _ _ _ hMA (InT.below hb24 hpI) (IsT.below hb24 ht) (fun b q q2 => by have z := hC _ q2; omega) hzp hzt (by simp; omega)) ?_
  rintro _ w25 ⟨⟨C2, rfl, hMA2, hC2⟩, hcT⟩
  have hb26 := chg_below hb24 hcT (fun b hb => (fun h => by have z := hC _ h; (try dsimp only at *); omega))
  have hB27 := chg_blk hB22 hcT (fun h => by have z := hC _ h; (try dsimp only at *); omega)
  have hB28 := chg_blk hB23 hcT (fun h => by have z := hC _ h; (try dsimp only at *); omega)
  refine WL.val (.bool ((!(mOk p t [])))) rfl rfl rfl (fun za zC zh zk => wp_not rfl (zh.ev rfl) zk) ?_
  refine WL.nil (WE.sub (K' := [(0, .agg #[.int .i64 p.f, .slice pa0 p.args.length pc0]), (1, .agg #[.int .i64 t.f, .slice ta0 t.args.length tc0]), (2, .pointer (some ⟨g2, 0, none⟩)), (3, .pointer (some ⟨g9, 0, none⟩)), (4, .slice none 0 0), (5, .bool false), (6, .pointer (some ⟨gm, 0, none⟩)), (12, .bool ((!(mOk p t []))))]) ⟨rfl, rfl, rfl, rfl, rfl, rfl, rfl, rfl, trivial⟩ ?_)
  refine WE.next ?_
  refine WC.cond rfl (fun h29 => ?_) (fun h29 => ?_)
  · have h29 : ¬ ((mOk p t []) = true) := by simpa using h29
    refine WC.seq ?_
    refine WC.region ?_
    refine WL.val (.slice none 0 0) rfl rfl rfl (fun za zC zh zk => wp_assign rfl (zh.ev rfl) zk) ?_
    refine WL.val (.bool false) rfl rfl rfl (fun za zC zh zk => wp_assign rfl (zh.ev rfl) zk) ?_
    refine WL.nil (WE.sub (K' := [(0, .agg #[.int .i64 p.f, .slice pa0 p.args.length pc0]), (1, .agg #[.int .i64 t.f, .slice ta0 t.args.length tc0]), (2, .pointer (some ⟨g2, 0, none⟩)), (3, .pointer (some ⟨g9, 0, none⟩)), (4, .slice none 0 0), (5, .bool false), (6, .pointer (some ⟨gm, 0, none⟩)), (12, .bool ((!(mOk p t []))))]) ⟨rfl, rfl, rfl, rfl, rfl, rfl, rfl, rfl, trivial⟩ ?_)
    refine WE.next ?_
    refine WC.ret ?_
    refine WE.thenRet ?_
    refine WE.ret2 rfl rfl rfl ?_
    refine ⟨_, rfl, ?_, hb26⟩
    unfold MatchIs
    rw [if_neg (by simpa using h29)]
  · have h29 : ¬ (¬ ((mOk p t []) = true)) := by simpa using h29
    refine WC.skip ?_
    refine WE.next ?_
    refine WC.seq ?_
    refine WC.region ?_
    refine WL.val (.pointer (some ⟨gm, 0, none⟩)) rfl rfl rfl (fun za zC zh zk => wp_move rfl (zh.ev rfl) zk) ?_
    refine WL.call rfl rfl rfl (fun za zh zC => wp_call (by kernel_rfl) rfl (hv1 (zh.ev rfl))) (msub_any _ hMA2 (by have z := (mTo_take p t []).2.1; simp at z; omega)) ?_
    rintro _ w30 ⟨⟨R, ra, rc, rfl, hSO, hNB⟩, hbs⟩
    refine WL.val (.slice ra R.length rc) rfl rfl rfl (fun za zC zh zk => wp_assign rfl (zh.ev rfl) zk) ?_
    refine WL.val (.bool true) rfl rfl rfl (fun za zC zh zk => wp_assign rfl (zh.ev rfl) zk) ?_
    refine WL.nil (WE.sub (K' := [(0, .agg #[.int .i64 p.f, .slice pa0 p.args.length pc0]), (1, .agg #[.int .i64 t.f, .slice ta0 t.args.length tc0]), (2, .pointer (some ⟨g2, 0, none⟩)), (3, .pointer (some ⟨g9, 0, none⟩)), (4, .slice ra R.length rc), (5, .bool true), (6, .pointer (some ⟨gm, 0, none⟩)), (12, .bool ((!(mOk p t []))))]) ⟨rfl, rfl, rfl, rfl, rfl, rfl, rfl, rfl, trivial⟩ ?_)
    refine WE.next ?_
    refine WC.ret ?_
    refine WE.ret2 rfl rfl rfl ?_
    have hb31 : Below w.heap.size w w30 := (bstep hb26 hbs)
    refine ⟨_, rfl, ?_, hb31⟩
    unfold MatchIs
    rw [if_pos (by simpa using h29)]
    exact ⟨R, _, _, rfl, hSO, (hNB.older hb26.size).below (Below.refl _ _)⟩

set_option maxRecDepth 100000 in
theorem variant_any (p t : T) (w : World) (u v : Value) (hp : IsT w p u) (ht : IsT w t v) (hzp : p.size ≤ 4294967296) (hzt : t.size ≤ 4294967296) : Calls Try.prog 11 #[u, v] w (Ret fun v' w' => v' = .bool (varB p t) ∧ Below w.heap.size w w') := by
  obtain ⟨hfp, pa0, pc0, rfl, _, _, _⟩ := hp.form
  obtain ⟨hft, ta0, tc0, rfl, _, _, _⟩ := ht.form
  have hpI := hp.inT
  have htI := ht.inT
  refine Calls.walk (l := [.agg #[.int .i64 p.f, .slice pa0 p.args.length pc0], .agg #[.int .i64 t.f, .slice ta0 t.args.length tc0]]) Try.func11 rfl (by kernel_rfl) ?_
  refine WC.sub (K' := [(0, .agg #[.int .i64 p.f, .slice pa0 p.args.length pc0]), (1, .agg #[.int .i64 t.f, .slice ta0 t.args.length tc0])]) ⟨rfl, rfl, trivial⟩ ?_
  refine WC.seq ?_
  refine WC.region ?_
  refine WL.step (post := NewBlk w 24 #[.int .i64 p.f, .slice pa0 p.args.length pc0]) rfl rfl rfl (fun za zC zh zk => box_24 rfl (zh.ev rfl) (zk _ _ (newBlk _ _ _))) ?_
  rintro _ w1 ⟨g2, rfl, hg3, hB4, hb5, hz6⟩
  have hl7 : w.heap.size ≤ g2 := by omega
  refine WL.step (post := NewBlk w1 24 #[.int .i64 t.f, .slice ta0 t.args.length tc0]) rfl rfl rfl (fun za zC zh zk => box_24 rfl (zh.ev rfl) (zk _ _ (newBlk _ _ _))) ?_
  rintro _ w8 ⟨g9, rfl, hg10, hB11, hb12, hz13⟩
  have hl14 : g2 < g9 := by have z1 := hB4.lt; omega
  have hl15 : w.heap.size ≤ g9 := by have z2 := (hb5).size; omega
  refine WL.val (.bool false) rfl rfl rfl (fun za zC zh zk => wp_assign rfl (zh.ev rfl) zk) ?_
  refine WL.nil (WE.sub (K' := [(0, .agg #[.int .i64 p.f, .slice pa0 p.args.length pc0]), (1, .agg #[.int .i64 t.f, .slice ta0 t.args.length tc0]), (2, .pointer (some ⟨g2, 0, none⟩)), (3, .pointer (some ⟨g9, 0, none⟩)), (4, .bool false)]) ⟨rfl, rfl, rfl, rfl, rfl, trivial⟩ ?_)
  refine WE.next ?_
  refine WC.seq ?_
  have hB16 := hB4.below hb12
  have hl17 : g2 < w8.heap.size := hB16.lt
  have hl18 : w.heap.size ≤ g2 := by have z : w.heap.size ≤ w.heap.size := (Nat.le_refl _); omega
  have hl19 : g9 < w8.heap.size := hB11.lt
  have hl20 : w.heap.size ≤ g9 := by have z : w.heap.size ≤ w1.heap.size := hb5.size; omega
  have hb21 : Below w.heap.size w w8 := (bstep hb5 hb12)
  have hw01 := (hb21).size
  have hpI1 := InT.below hb21 hpI
  have htI1 := InT.below hb21 htI
  have hGV9 : ∀ (vals : List Value) (w w' : World), Below w.heap.size w w' → (fun vals wz => match vals with | [] => True | [z0] => ∃ g C, z0 = .pointer (some ⟨g, 0, none⟩) ∧ MatAt wz g [] C ∧ ∀ b, C b → w8.heap.size ≤ b | [_, _] => True | [_, _, z2] => ((mOk p t []) = true → ∃ g C, z2 = .pointer (some ⟨g, 0, none⟩) ∧ MatAt wz g [] C ∧ ∀ b, C b → w8.heap.size ≤ b) | [_, _, _, _] => True | _ => False) vals w → (fun vals wz => match vals with | [] => True | [z0] => ∃ g C, z0 = .pointer (some ⟨g, 0, none⟩) ∧ MatAt wz g [] C ∧ ∀ b, C b → w8.heap.size ≤ b | [_, _] => True | [_, _, z2] => ((mOk p t []) = true → ∃ g C, z2 = .pointer (some ⟨g, 0, none⟩) ∧ MatAt wz g [] C ∧ ∀ b, C b → w8.heap.size ≤ b) | [_, _, _, _] => True | _ => False) vals w' := by
    intro vals w w' hb h
    match vals, h with
    | [], _ => trivial
    | [z0], h =>
      obtain ⟨g, C, e, h1, h2⟩ := h
      exact ⟨g, C, e, h1.below hb, h2⟩
    | [_, _], _ => trivial
    | [_, _, z2], h =>
      exact fun e9 => by
        obtain ⟨g, C, e, h1, h2⟩ := h e9
        exact ⟨g, C, e, h1.below hb, h2⟩
    | [_, _, _, _], _ => trivial
  refine WC.seqV (S := ((fun b => w8.heap.size ≤ b))) [(true, .val undef), (true, .val (.agg #[.int .i64 p.f, .slice pa0 p.args.length pc0])), (true, .val (.agg #[.int .i64 t.f, .slice ta0 t.args.length tc0])), (true, .val undef), (true, .val (.bool ((mOk p t [])))), (true, .val undef), ((true && (mOk p t [])), .val (.agg #[.int .i64 t.f, .slice ta0 t.args.length tc0])), ((true && (mOk p t [])), .val (.agg #[.int .i64 p.f, .slice pa0 p.args.length pc0])), (true, .val undef), (true, .val (.bool (((mOk p t []) && (mOk t p []))))), (true, .val (.bool (((mOk p t []) && (mOk t p [])))))] [(0, .agg #[.int .i64 p.f, .slice pa0 p.args.length pc0]), (1, .agg #[.int .i64 t.f, .slice ta0 t.args.length tc0]), (2, .pointer (some ⟨g2, 0, none⟩)), (3, .pointer (some ⟨g9, 0, none⟩))] [0, 3, 5, 8] [none, some (true, .bool ((mOk p t []))), none, some ((true && (mOk p t [])), .bool ((mOk t p [])))] (fun vals wz => match vals with | [] => True | [z0] => ∃ g C, z0 = .pointer (some ⟨g, 0, none⟩) ∧ MatAt wz g [] C ∧ ∀ b, C b → w8.heap.size ≤ b | [_, _] => True | [_, _, z2] => ((mOk p t []) = true → ∃ g C, z2 = .pointer (some ⟨g, 0, none⟩) ∧ MatAt wz g [] C ∧ ∀ b, C b → w8.heap.size ≤ b) | [_, _, _, _] => True | _ => False) hGV9 (by decide) ⟨rfl, rfl, rfl, rfl, trivial⟩ (by kernel_rfl) (by kernel_rfl) (by kernel_rfl) (by kernel_rfl) trivial ?_ ?_
  · refine ⟨.inr ⟨0, rfl, by kernel_rfl, true, .none rfl, (fun gg b h => by cases h), (fun h => (nomatch h)), fun zβ za zw zvals zc => ?_⟩, ?_⟩
    · obtain rfl := vlen0 zc.len
      have zn := zc.now
      exact wp_call (by kernel_rfl) rfl (hv0) (new_any _) (fun v w' h => by obtain ⟨⟨gm, C, rfl, k2, k3⟩, k4⟩ := h; exact ⟨_, rfl, .ofBelow k4, ⟨gm, C, rfl, k2, fun b q => by have z := k3 b q; have z2 := zc.chg.size; omega⟩, cvNo⟩)
    refine ⟨.inl ⟨rfl, true, .none rfl, (fun gg b h => by cases h), fun h w => optUndef h, fun zβ za zw zc => ?_⟩, ?_⟩
    · exact ld_24 rfl (zc.kn.ev rfl) (chg_cell zc.chg (by (try dsimp only at *); omega) ((hB16.cell 0).trans rfl)) (chg_cell zc.chg (by (try dsimp only at *); omega) ((hB16.cell 1).trans rfl)) ⟨_, rfl, Below.refl _ _, optDef zβ rfl⟩
    refine ⟨.inl ⟨rfl, true, .none rfl, (fun gg b h => by cases h), fun h w => optUndef h, fun zβ za zw zc => ?_⟩, ?_⟩
    · exact ld_24 rfl (zc.kn.ev rfl) (chg_cell zc.chg (by (try dsimp only at *); omega) ((hB11.cell 0).trans rfl)) (chg_cell zc.chg (by (try dsimp only at *); omega) ((hB11.cell 1).trans rfl)) ⟨_, rfl, Below.refl _ _, optDef zβ rfl⟩
    refine ⟨.inr ⟨1, rfl, by kernel_rfl, true, .none rfl, (fun gg b h => by cases h), (fun h => (nomatch h)), fun zβ za zw zvals zc => ?_⟩, ?_⟩
    · obtain ⟨z0, rfl⟩ := vlen1 zc.len
      have zn := zc.now
      obtain ⟨gm, C, e0, k2, k3⟩ := zn
      have hv0 : za.tmps.getD 5 undef = .pointer (some ⟨gm, 0, none⟩) := (Option.some.inj (zc.val 0 0 5 rfl (by kernel_rfl))).symm.trans e0
      exact wp_call (by kernel_rfl) rfl (hv3 ((show za.eval (.tmp 5) = za.tmps.getD 5 undef from rfl).trans hv0) ((show za.eval (.tmp 6) = za.tmps.getD 6 undef from rfl).trans (optSVal (zc.dep 1 6 (by kernel_rfl) (by decide)) rfl rfl)) ((show za.eval (.tmp 7) = za.tmps.getD 7 undef from rfl).trans (optSVal (zc.dep 2 7 (by kernel_rfl) (by decide)) rfl rfl))) (term_any p t _ _ _ k2 (hpI1.chg zc.chg (fun b q e => by (try dsimp only at *); omega)) (htI1.chg zc.chg (fun b q e => by (try dsimp only at *); omega)).isT (fun b q q2 => by have z := k3 _ q2; omega) hzp hzt (by simp; omega)) (fun v w' h => by obtain ⟨⟨C2, rfl, _, _⟩, k5⟩ := h; exact ⟨_, rfl, k5.mono k3, trivial, cvIs rfl⟩)
    refine ⟨.inl ⟨rfl, true, .none rfl, (fun gg b h => by cases h), fun h w => optUndef h, fun zβ za zw zc => ?_⟩, ?_⟩
    · exact wp_move rfl ((show za.eval (.tmp 8) = za.tmps.getD 8 undef from rfl).trans (zc.link 1 3 8 _ _ rfl (by kernel_rfl) rfl rfl)) ⟨_, rfl, Below.refl _ _, optDef zβ rfl⟩
    refine ⟨.inr ⟨2, rfl, by kernel_rfl, (true && (mOk p t [])), .yes (c := (mOk p t [])) (d := true) rfl (fun v w h => h), (fun gg b h => by cases h; rfl), (fun h w vals hl h2 => by obtain ⟨z0, z1, rfl⟩ := vlen2 hl; exact ⟨fun e => (by rw [e] at h; cases h), cvNo⟩), fun zβ za zw zvals zc => ?_⟩, ?_⟩
    · obtain ⟨z0, z1, rfl⟩ := vlen2 zc.len
      have zn := zc.now
      exact wp_call (by kernel_rfl) rfl (hv0) (new_any _) (fun v w' h => by obtain ⟨⟨gm, C, rfl, k2, k3⟩, k4⟩ := h; exact ⟨_, rfl, .ofBelow k4, fun _ => ⟨gm, C, rfl, k2, fun b q => by have z := k3 b q; have z2 := zc.chg.size; omega⟩, cvNo⟩)
    refine ⟨.inl ⟨rfl, (true && (mOk p t [])), .yes (c := (mOk p t [])) (d := true) rfl (fun v w h => h), (fun gg b h => by cases h; rfl), fun h w => optUndef h, fun zβ za zw zc => ?_⟩, ?_⟩
    · exact ld_24 rfl (zc.kn.ev rfl) (chg_cell zc.chg (by (try dsimp only at *); omega) ((hB11.cell 0).trans rfl)) (chg_cell zc.chg (by (try dsimp only at *); omega) ((hB11.cell 1).trans rfl)) ⟨_, rfl, Below.refl _ _, optDef zβ rfl⟩
    refine ⟨.inl ⟨rfl, (true && (mOk p t [])), .yes (c := (mOk p t [])) (d := true) rfl (fun v w h => h), (fun gg b h => by cases h; rfl), fun h w => optUndef h, fun zβ za zw zc => ?_⟩, ?_⟩
    · exact ld_24 rfl (zc.kn.ev rfl) (chg_cell zc.chg (by (try dsimp only at *); omega) ((hB16.cell 0).trans rfl)) (chg_cell zc.chg (by (try dsimp only at *); omega) ((hB16.cell 1).trans rfl)) ⟨_, rfl, Below.refl _ _, optDef zβ rfl⟩
    refine ⟨.inr ⟨3, rfl, by kernel_rfl, (true && (mOk p t [])), .yes (c := (mOk p t [])) (d := true) rfl (fun v w h => h), (fun gg b h => by cases h; rfl), (fun h w vals hl h2 => by obtain ⟨z0, z1, z2, rfl⟩ := vlen3 hl; exact ⟨trivial, cvOff h⟩), fun zβ za zw zvals zc => ?_⟩, ?_⟩
    · obtain ⟨z0, z1, z2, rfl⟩ := vlen3 zc.len
      have zn := zc.now
      obtain ⟨gm, C, e0, k2, k3⟩ := zn (by simpa using zβ)
      have hv0 : za.tmps.getD 10 undef = .pointer (some ⟨gm, 0, none⟩) := (Option.some.inj (zc.val 2 5 10 rfl (by kernel_rfl))).symm.trans e0
      exact wp_call (by kernel_rfl) rfl (hv3 ((show za.eval (.tmp 10) = za.tmps.getD 10 undef from rfl).trans hv0) ((show za.eval (.tmp 11) = za.tmps.getD 11 undef from rfl).trans (optSVal (zc.dep 6 11 (by kernel_rfl) (by decide)) rfl zβ)) ((show za.eval (.tmp 12) = za.tmps.getD 12 undef from rfl).trans (optSVal (zc.dep 7 12 (by kernel_rfl) (by decide)) rfl zβ))) (term_any t p _ _ _ k2 (htI1.chg zc.chg (fun b q e => by (try dsimp only at *); omega)) (hpI1.chg zc.chg (fun b q e => by (try dsimp only at *); omega)).isT (fun b q q2 => by have z := k3 _ q2; omega) hzt hzp (by simp; omega)) (fun v w' h => by obtain ⟨⟨C2, rfl, _, _⟩, k5⟩ := h; exact ⟨_, rfl, k5.mono k3, trivial, cvIs rfl⟩)
    refine ⟨.inl ⟨rfl, true, .none rfl, (fun gg b h => by cases h), fun h w => optUndef h, fun zβ za zw zc => ?_⟩, ?_⟩
    · exact wp_and rfl ((show za.eval (.tmp 9) = za.tmps.getD 9 undef from rfl).trans (optSVal (zc.dep 4 9 (by kernel_rfl) (by decide)) rfl rfl)) (fun hp => ((show za.eval (.tmp 13) = za.tmps.getD 13 undef from rfl).trans (zc.link 3 8 13 _ _ rfl (by kernel_rfl) rfl (bMk zβ hp)))) ⟨_, rfl, Below.refl _ _, optDef zβ rfl⟩
    refine ⟨.inl ⟨rfl, true, .none rfl, (fun gg b h => by cases h), fun h w => optUndef h, fun zβ za zw zc => ?_⟩, ?_⟩
    · exact wp_assign rfl ((show za.eval (.tmp 14) = za.tmps.getD 14 undef from rfl).trans (optSVal (zc.dep 9 14 (by kernel_rfl) (by decide)) rfl rfl)) ⟨_, rfl, Below.refl _ _, optDef zβ rfl⟩
    exact trivial
  · intro za w22 zvals zh zl hG23 hc24 zu zw zk
    obtain ⟨z0, z1, z2, z3, rfl⟩ := vlen4 zl
    have zh := zh.cons (d := 4) (v := .bool (((mOk p t []) && (mOk t p [])))) (optSVal (zu 10 4 (by kernel_rfl) (by decide)) rfl rfl)
    have hb25 := chg_below hb21 hc24 (fun b hb => (fun h => by (try dsimp only at *); omega))
    have hB26 := chg_blk hB16 hc24 (fun h => by (try dsimp only at *); omega)
    have hB27 := chg_blk hB11 hc24 (fun h => by (try dsimp only at *); omega)
    clear zu zw zk
    refine (show WE _ [(0, .agg #[.int .i64 p.f, .slice pa0 p.args.length pc0]), (1, .agg #[.int .i64 t.f, .slice ta0 t.args.length tc0]), (2, .pointer (some ⟨g2, 0, none⟩)), (3, .pointer (some ⟨g9, 0, none⟩)), (4, .bool (((mOk p t []) && (mOk t p []))))] w22 _ .normal from ?_) za (zh.sub ⟨rfl, rfl, rfl, rfl, rfl, trivial⟩)
    refine WE.next ?_
    refine WC.ret ?_
    refine WE.ret1 rfl rfl ?_
    exact ⟨_, rfl, congrArg Value.bool (by unfold varB; (try simp)), hb25⟩

end Go.Proofs.Ytcmfjnadjddboaa

namespace Go.Proofs.Ytcmfjnadjddboaa
open Go.RowKit Go
set_option linter.unusedVariables false
set_option linter.unusedSimpArgs false

theorem inT_leaf {S : Nat → Prop} {w : World} {f : Int} (hf : I64 f) : InT S w (.mk f []) (.agg #[.int .i64 f, .slice none 0 0]) := ⟨hf, none, 0, rfl, Nat.le_refl _, Nat.zero_le _, trivial⟩
theorem isT_two {w : World} {g : Nat} {f a b : Int} (hB : Blk w g 24 #[.int .i64 a, .slice none 0 0, .int .i64 b, .slice none 0 0]) (hf : I64 f) (ha : I64 a) (hb : I64 b) : IsT w (.mk f [.mk a [], .mk b []]) (.agg #[.int .i64 f, .slice (some ⟨g, 0, none⟩) 2 2]) :=
  InT.isT (S := fun _ => True) ⟨hf, some ⟨g, 0, none⟩, 2, rfl, Nat.le_refl 2, by decide, ⟨g, 0, _, _, rfl, trivial, by rw [hB.cell]; rfl, by rw [hB.cell]; rfl, inT_leaf ha⟩, ⟨g, 0, _, _, rfl, trivial, by rw [hB.cell]; rfl, by rw [hB.cell]; rfl, inT_leaf hb⟩, trivial⟩
def two (a b : Int) : T := .mk 2 [.mk a [], .mk b []]
def wkR : List Bd := [⟨0, .mk 1 []⟩, ⟨1, .mk (-1) []⟩]
theorem i64_lit {a : Int} (h : -9223372036854775808 ≤ a ∧ a ≤ 9223372036854775807) : I64 a := by unfold I64; omega
theorem wk_mt : (two (-1) (-2)).mt [] (two 1 (-1)) = some wkR := by
  unfold two wkR
  simp [T.mt, T.mtL, subFind, T.f, T.args]
theorem wk_pl (a b : Int) : (two a b).plain = true := by
  unfold two
  simp [T.plain, T.plainL]
theorem wk_ok : mOk (two (-1) (-2)) (two 1 (-1)) [] = true ∧ mTo (two (-1) (-2)) (two 1 (-1)) [] = wkR := fin_ok (wk_pl _ _) (wk_pl _ _) wk_mt
theorem wk_no : mOk (two (-1) (-1)) (two 1 (-2)) [] = false := by
  refine (fin_no (wk_pl _ _) (wk_pl _ _) ?_).1
  unfold two
  simp [T.mt, T.mtL, subFind, T.f, T.args, T.same]
theorem wk_var : varB (two (-1) (-2)) (two 1 (-1)) = false := by
  unfold varB
  rw [(fin_no (p := two 1 (-1)) (t := two (-1) (-2)) (st := []) (wk_pl _ _) (wk_pl _ _) ?_).1, Bool.and_false]
  unfold two
  simp [T.mt, T.mtL, T.f, T.args]
theorem wk_sub : SubOf wkR wkR := by
  refine ⟨?_, fun x => ⟨fun h => ⟨h, ?_⟩, fun h => h.1⟩⟩
  · simp [wkR]
  · simp only [wkR, List.mem_cons, List.not_mem_nil, or_false] at h
    rcases h with rfl | rfl <;> rfl
theorem wk_sz (a b : Int) : (two a b).size ≤ 4294967296 := by unfold two; simp [T.size, T.sizeL]
theorem match_wk1 {w : World} {g1 g2 : Nat} (h1 : Blk w g1 24 #[.int .i64 (-1), .slice none 0 0, .int .i64 (-2), .slice none 0 0]) (h2 : Blk w g2 24 #[.int .i64 1, .slice none 0 0, .int .i64 (-1), .slice none 0 0]) : Calls Try.prog 8 #[.agg #[.int .i64 2, .slice (some ⟨g1, 0, none⟩) 2 2], .agg #[.int .i64 2, .slice (some ⟨g2, 0, none⟩) 2 2]] w (Ret fun v' w' => (∃ a c, v' = .tuple #[.slice a 2 c, .bool true] ∧ NewBs w w' wkR a c) ∧ Below w.heap.size w w') := by
  refine (match_any (two (-1) (-2)) (two 1 (-1)) w _ _ (isT_two h1 (i64_lit (by omega)) (i64_lit (by omega)) (i64_lit (by omega))) (isT_two h2 (i64_lit (by omega)) (i64_lit (by omega)) (i64_lit (by omega))) (wk_sz _ _) (wk_sz _ _)).mono ?_
  rintro e w' ⟨v, rfl, hm, hb⟩
  unfold MatchIs at hm
  rw [if_pos wk_ok.1, wk_ok.2] at hm
  obtain ⟨R, a, c, rfl, hR, hN⟩ := hm
  obtain rfl := hR.unique wk_sub
  exact ⟨_, rfl, ⟨a, c, rfl, hN⟩, hb⟩
theorem match_wk2 {w : World} {g1 g2 : Nat} (h1 : Blk w g1 24 #[.int .i64 (-1), .slice none 0 0, .int .i64 (-1), .slice none 0 0]) (h2 : Blk w g2 24 #[.int .i64 1, .slice none 0 0, .int .i64 (-2), .slice none 0 0]) : Calls Try.prog 8 #[.agg #[.int .i64 2, .slice (some ⟨g1, 0, none⟩) 2 2], .agg #[.int .i64 2, .slice (some ⟨g2, 0, none⟩) 2 2]] w (Ret fun v' w' => v' = .tuple #[.slice none 0 0, .bool false] ∧ Below w.heap.size w w') := by
  refine (match_any (two (-1) (-1)) (two 1 (-2)) w _ _ (isT_two h1 (i64_lit (by omega)) (i64_lit (by omega)) (i64_lit (by omega))) (isT_two h2 (i64_lit (by omega)) (i64_lit (by omega)) (i64_lit (by omega))) (wk_sz _ _) (wk_sz _ _)).mono ?_
  rintro e w' ⟨v, rfl, hm, hb⟩
  unfold MatchIs at hm
  rw [if_neg (by rw [wk_no]; decide)] at hm
  exact ⟨_, rfl, hm, hb⟩
theorem variant_wk {w : World} {g1 g2 : Nat} (h1 : Blk w g1 24 #[.int .i64 (-1), .slice none 0 0, .int .i64 (-2), .slice none 0 0]) (h2 : Blk w g2 24 #[.int .i64 1, .slice none 0 0, .int .i64 (-1), .slice none 0 0]) : Calls Try.prog 11 #[.agg #[.int .i64 2, .slice (some ⟨g1, 0, none⟩) 2 2], .agg #[.int .i64 2, .slice (some ⟨g2, 0, none⟩) 2 2]] w (Ret fun v' w' => v' = .bool false ∧ Below w.heap.size w w') := by
  refine (variant_any (two (-1) (-2)) (two 1 (-1)) w _ _ (isT_two h1 (i64_lit (by omega)) (i64_lit (by omega)) (i64_lit (by omega))) (isT_two h2 (i64_lit (by omega)) (i64_lit (by omega)) (i64_lit (by omega))) (wk_sz _ _) (wk_sz _ _)).mono ?_
  rintro e w' ⟨v, rfl, hm, hb⟩
  rw [wk_var] at hm
  exact ⟨_, rfl, hm, hb⟩
set_option maxRecDepth 100000 in
theorem wakes_any (w : World) : Calls Try.prog 13 #[] w (Ret fun v' w' => v' = .bool true ∧ Below w.heap.size w w') := by
  refine Calls.walk (l := []) Try.func13 rfl (by kernel_rfl) ?_
  refine WC.sub (K' := []) trivial ?_
  refine WC.seq ?_
  refine WC.region ?_
  refine WL.val (.bool false) rfl rfl rfl (fun za zC zh zk => wp_assign rfl (zh.ev rfl) zk) ?_
  refine WL.nil (WE.sub (K' := [(0, .bool false)]) ⟨rfl, trivial⟩ ?_)
  refine WE.next ?_
  refine WC.seq ?_
  refine WC.region ?_
  refine WL.val (.agg #[.int .i64 ((-1)), .slice none 0 0]) rfl rfl rfl (fun za zC zh zk => build_24_0 rfl (zh.ev rfl) zk) ?_
  refine WL.val (.agg #[.int .i64 ((-2)), .slice none 0 0]) rfl rfl rfl (fun za zC zh zk => build_24_0 rfl (zh.ev rfl) zk) ?_
  refine WL.step (post := NewRow w 24 #[.int .i64 ((-1)), .slice none 0 0, .int .i64 ((-2)), .slice none 0 0] 2) rfl rfl rfl (fun za zC zh zk => row_22_2 rfl (zh.ev rfl) (zh.ev rfl) (zk _ _ (newRow _ _ _ _))) ?_
  rintro _ w1 ⟨g2, rfl, hg3, hB4, hb5, hz6⟩
  have hl7 : w.heap.size ≤ g2 := by omega
  refine WL.val (.agg #[.int .i64 2, .slice ((some ⟨g2, 0, none⟩)) 2 2]) rfl rfl rfl (fun za zC zh zk => build_24_0_1 rfl (zh.ev rfl) (zh.ev rfl) zk) ?_
  refine WL.step (post := NewBlk w1 24 #[.int .i64 0, .slice none 0 0]) rfl rfl rfl (fun za zC zh zk => alloc_24 rfl (zk _ _ (newBlk _ _ _))) ?_
  rintro _ w8 ⟨g9, rfl, hg10, hB11, hb12, hz13⟩
  have hl14 : g2 < g9 := by have z1 := hB4.lt; omega
  have hl15 : w.heap.size ≤ g9 := by have z2 := (hb5).size; omega
  refine WL.step (post := fun _ w' => Upd g9 w8 w' ∧ Blk w' g9 24 #[.int .i64 2, .slice ((some ⟨g2, 0, none⟩)) 2 2]) rfl rfl rfl (fun za zC zh zk => st_24 rfl (zh.ev rfl) (zh.ev rfl) rfl rfl hB11 (by first | decide | simp) (fun v => zk v _ ⟨(Upd.at_ _ _ _ _).trans (Upd.at_ _ _ _ _), (hB11.set_ 0 _).set_ 1 _⟩)) ?_
  rintro v19 w16 ⟨hu17, hB18⟩
  have hb20 : Below w.heap.size w w8 := (bstep hb5 hb12)
  have hb21 := upd_below hb20 hu17 (by omega)
  have hB22 := hB4.below hb12
  have hB23 := upd_blk hB22 hu17 (by omega)
  refine WL.nil (WE.sub (K' := [(0, .bool false), (1, .pointer (some ⟨g9, 0, none⟩))]) ⟨rfl, rfl, trivial⟩ ?_)
  refine WE.next ?_
  refine WC.seq ?_
  refine WC.region ?_
  refine WL.val (.agg #[.int .i64 1, .slice none 0 0]) rfl rfl rfl (fun za zC zh zk => build_24_0 rfl (zh.ev rfl) zk) ?_
  refine WL.val (.agg #[.int .i64 ((-1)), .slice none 0 0]) rfl rfl rfl (fun za zC zh zk => build_24_0 rfl (zh.ev rfl) zk) ?_
  refine WL.step (post := NewRow w16 24 #[.int .i64 1, .slice none 0 0, .int .i64 ((-1)), .slice none 0 0] 2) rfl rfl rfl (fun za zC zh zk => row_22_2 rfl (zh.ev rfl) (zh.ev rfl) (zk _ _ (newRow _ _ _ _))) ?_
  rintro _ w24 ⟨g25, rfl, hg26, hB27, hb28, hz29⟩
  have hl30 : g2 < g25 := by have z1 := hB23.lt; omega
  have hl31 : g9 < g25 := by have z1 := hB18.lt; omega
  have hl32 : w.heap.size ≤ g25 := by have z2 := (hb21).size; omega
  refine WL.val (.agg #[.int .i64 2, .slice ((some ⟨g25, 0, none⟩)) 2 2]) rfl rfl rfl (fun za zC zh zk => build_24_0_1 rfl (zh.ev rfl) (zh.ev rfl) zk) ?_
  refine WL.step (post := NewBlk w24 24 #[.int .i64 0, .slice none 0 0]) rfl rfl rfl (fun za zC zh zk => alloc_24 rfl (zk _ _ (newBlk _ _ _))) ?_
  rintro _ w33 ⟨g34, rfl, hg35, hB36, hb37, hz38⟩
  have hl39 : g2 < g34 := by have z1 := hB23.lt; have z2 := (hb28).size; omega
  have hl40 : g9 < g34 := by have z1 := hB18.lt; have z2 := (hb28).size; omega
  have hl41 : g25 < g34 := by have z1 := hB27.lt; omega
  have hb42 : Below w.heap.size w w24 := (bstep hb21 hb28)
  have hl43 : w.heap.size ≤ g34 := by have z2 := (hb42).size; omega
  refine WL.step (post := fun _ w' => Upd g34 w33 w' ∧ Blk w' g34 24 #[.int .i64 2, .slice ((some ⟨g25, 0, none⟩)) 2 2]) rfl rfl rfl (fun za zC zh zk => st_24 rfl (zh.ev rfl) (zh.ev rfl) rfl rfl hB36 (by first | decide | simp) (fun v => zk v _ ⟨(Upd.at_ _ _ _ _).trans (Upd.at_ _ _ _ _), (hB36.set_ 0 _).set_ 1 _⟩)) ?_
  rintro v47 w44 ⟨hu45, hB46⟩
  have hb48 : Below w.heap.size w w33 := (bstep hb42 hb37)
  have hb49 := upd_below hb48 hu45 (by omega)
  have hb51 : Below w16.heap.size w16 w33 := (bstep hb28 hb37)
  have hB50 := hB23.below hb51
  have hB52 := upd_blk hB50 hu45 (by omega)
  have hB53 := hB18.below hb51
  have hB54 := upd_blk hB53 hu45 (by omega)
  have hB55 := hB27.below hb37
  have hB56 := upd_blk hB55 hu45 (by omega)
  refine WL.nil (WE.sub (K' := [(0, .bool false), (1, .pointer (some ⟨g9, 0, none⟩)), (2, .pointer (some ⟨g34, 0, none⟩))]) ⟨rfl, rfl, rfl, trivial⟩ ?_)
  refine WE.next ?_
  refine WC.seq ?_
  refine WC.region ?_
  refine WL.val (.agg #[.int .i64 2, .slice ((some ⟨g2, 0, none⟩)) 2 2]) rfl rfl rfl (fun za zC zh zk => ld_24 rfl (zh.ev rfl) ((hB54.cell 0).trans rfl) ((hB54.cell 1).trans rfl) zk) ?_
  refine WL.val (.agg #[.int .i64 2, .slice ((some ⟨g25, 0, none⟩)) 2 2]) rfl rfl rfl (fun za zC zh zk => ld_24 rfl (zh.ev rfl) ((hB46.cell 0).trans rfl) ((hB46.cell 1).trans rfl) zk) ?_
  refine WL.call rfl rfl rfl (fun za zh zC => wp_call (by kernel_rfl) rfl (hv2 (zh.ev rfl) (zh.ev rfl))) (match_wk1 hB52 hB56) ?_
  rintro _ w57 ⟨⟨ra, rc, rfl, hNB⟩, hbm⟩
  refine WL.val (.tuple #[.slice ra 2 rc, .bool true]) rfl rfl rfl (fun za zC zh zk => wp_move rfl (zh.ev rfl) zk) ?_
  refine WL.val (.slice ra 2 rc) rfl rfl rfl (fun za zC zh zk => ext2_0 rfl (zh.ev rfl) zk) ?_
  refine WL.val (.bool true) rfl rfl rfl (fun za zC zh zk => ext2_1 rfl (zh.ev rfl) zk) ?_
  refine WL.val (.slice ra 2 rc) rfl rfl rfl (fun za zC zh zk => wp_assign rfl (zh.ev rfl) zk) ?_
  refine WL.val (.bool true) rfl rfl rfl (fun za zC zh zk => wp_assign rfl (zh.ev rfl) zk) ?_
  refine WL.nil (WE.sub (K' := [(0, .bool false), (1, .pointer (some ⟨g9, 0, none⟩)), (2, .pointer (some ⟨g34, 0, none⟩)), (3, .slice ra 2 rc), (4, .bool true)]) ⟨rfl, rfl, rfl, rfl, rfl, trivial⟩ ?_)
  refine WE.next ?_
  refine WC.seq ?_
  refine WC.region ?_
  refine WL.val (.agg #[.int .i64 ((-1)), .slice none 0 0]) rfl rfl rfl (fun za zC zh zk => build_24_0 rfl (zh.ev rfl) zk) ?_
  refine WL.val (.agg #[.int .i64 ((-1)), .slice none 0 0]) rfl rfl rfl (fun za zC zh zk => build_24_0 rfl (zh.ev rfl) zk) ?_
  refine WL.step (post := NewRow w57 24 #[.int .i64 ((-1)), .slice none 0 0, .int .i64 ((-1)), .slice none 0 0] 2) rfl rfl rfl (fun za zC zh zk => row_22_2 rfl (zh.ev rfl) (zh.ev rfl) (zk _ _ (newRow _ _ _ _))) ?_
  rintro _ w58 ⟨g59, rfl, hg60, hB61, hb62, hz63⟩
  have hl64 : g2 < g59 := by have z1 := hB52.lt; have z2 := (hbm).size; omega
  have hl65 : g9 < g59 := by have z1 := hB54.lt; have z2 := (hbm).size; omega
  have hl66 : g25 < g59 := by have z1 := hB56.lt; have z2 := (hbm).size; omega
  have hl67 : g34 < g59 := by have z1 := hB46.lt; have z2 := (hbm).size; omega
  have hb68 : Below w.heap.size w w57 := (bstep hb49 hbm)
  have hl69 : w.heap.size ≤ g59 := by have z2 := (hb68).size; omega
  refine WL.val (.agg #[.int .i64 2, .slice ((some ⟨g59, 0, none⟩)) 2 2]) rfl rfl rfl (fun za zC zh zk => build_24_0_1 rfl (zh.ev rfl) (zh.ev rfl) zk) ?_
  refine WL.val (.agg #[.int .i64 1, .slice none 0 0]) rfl rfl rfl (fun za zC zh zk => build_24_0 rfl (zh.ev rfl) zk) ?_
  refine WL.val (.agg #[.int .i64 ((-2)), .slice none 0 0]) rfl rfl rfl (fun za zC zh zk => build_24_0 rfl (zh.ev rfl) zk) ?_
  refine WL.step (post := NewRow w58 24 #[.int .i64 1, .slice none 0 0, .int .i64 ((-2)), .slice none 0 0] 2) rfl rfl rfl (fun za zC zh zk => row_22_2 rfl (zh.ev rfl) (zh.ev rfl) (zk _ _ (newRow _ _ _ _))) ?_
  rintro _ w70 ⟨g71, rfl, hg72, hB73, hb74, hz75⟩
  have hb76 : Below w44.heap.size w44 w58 := (bstep hbm hb62)
  have hl77 : g2 < g71 := by have z1 := hB52.lt; have z2 := (hb76).size; omega
  have hl78 : g9 < g71 := by have z1 := hB54.lt; have z2 := (hb76).size; omega
  have hl79 : g25 < g71 := by have z1 := hB56.lt; have z2 := (hb76).size; omega
  have hl80 : g34 < g71 := by have z1 := hB46.lt; have z2 := (hb76).size; omega
  have hl81 : g59 < g71 := by have z1 := hB61.lt; omega
  have hb82 : Below w.heap.size w w58 := (bstep hb49 hb76)
  have hl83 : w.heap.size ≤ g71 := by have z2 := (hb82).size; omega
  refine WL.val (.agg #[.int .i64 2, .slice ((some ⟨g71, 0, none⟩)) 2 2]) rfl rfl rfl (fun za zC zh zk => build_24_0_1 rfl (zh.ev rfl) (zh.ev rfl) zk) ?_
  have hB84 := hB61.below hb74
  refine WL.call rfl rfl rfl (fun za zh zC => wp_call (by kernel_rfl) rfl (hv2 (zh.ev rfl) (zh.ev rfl))) (match_wk2 hB84 hB73) ?_
  rintro _ w86 ⟨rfl, hq85⟩
  refine WL.val (.tuple #[.slice none 0 0, .bool false]) rfl rfl rfl (fun za zC zh zk => wp_move rfl (zh.ev rfl) zk) ?_
  refine WL.val (.slice none 0 0) rfl rfl rfl (fun za zC zh zk => ext2_0 rfl (zh.ev rfl) zk) ?_
  refine WL.val (.bool false) rfl rfl rfl (fun za zC zh zk => ext2_1 rfl (zh.ev rfl) zk) ?_
  refine WL.val (.slice none 0 0) rfl rfl rfl (fun za zC zh zk => wp_assign rfl (zh.ev rfl) zk) ?_
  refine WL.val (.bool false) rfl rfl rfl (fun za zC zh zk => wp_assign rfl (zh.ev rfl) zk) ?_
  refine WL.nil (WE.sub (K' := [(0, .bool false), (1, .pointer (some ⟨g9, 0, none⟩)), (2, .pointer (some ⟨g34, 0, none⟩)), (3, .slice ra 2 rc), (4, .bool true), (6, .bool false)]) ⟨rfl, rfl, rfl, rfl, rfl, rfl, trivial⟩ ?_)
  refine WE.next ?_
  refine WC.seq ?_
  obtain ⟨b87, o88, A89, C90, ha91, hc92⟩ := InRow.openB hNB.isBs
  have hb93 : Below w57.heap.size w57 w86 := (bstep (bstep hb62 hb74) hq85)
  have hb95 : Below w44.heap.size w44 w86 := (bstep hbm hb93)
  have hB94 := hB54.below hb95
  have hB96 := hB46.below hb95
  have hB97 := hB52.below hb95
  have hB98 := hB56.below hb95
  refine WC.opt [(true, .val (.bool true)), (true, .val (.bool true)), ((true && true), .val (.bool false)), ((true && true), .val (.bool ((!false)))), (true, .val (.bool ((!false)))), (true, .val (.bool ((!false)))), ((true && (!false)), .val (.slice ra 2 rc)), ((true && (!false)), .val (.int .i64 2)), ((true && (!false)), .val (.bool true)), (true, .val (.bool (((!false) && true)))), (true, .val (.bool (((!false) && true)))), ((true && ((!false) && true)), .val (.slice ra 2 rc)), ((true && ((!false) && true)), .val (.pointer (some ⟨b87, o88 + 0 * 3, none⟩))), ((true && ((!false) && true)), .val (.pointer (some ⟨b87, o88 + 0 * 3 + 1, none⟩))), ((true && ((!false) && true)), .val (.pointer (some ⟨b87, o88 + 0 * 3 + 1, none⟩))), ((true && ((!false) && true)), .val (.int .i64 1)), ((true && ((!false) && true)), .val (.bool true)), (true, .val (.bool ((((!false) && true) && true)))), (true, .val (.bool ((((!false) && true) && true)))), ((true && (((!false) && true) && true)), .val (.slice ra 2 rc)), ((true && (((!false) && true) && true)), .val (.pointer (some ⟨b87, o88 + 1 * 3, none⟩))), ((true && (((!false) && true) && true)), .val (.pointer (some ⟨b87, o88 + 1 * 3 + 1, none⟩))), ((true && (((!false) && true) && true)), .val (.pointer (some ⟨b87, o88 + 1 * 3 + 1, none⟩))), ((true && (((!false) && true) && true)), .val (.int .i64 ((-1)))), ((true && (((!false) && true) && true)), .val (.bool true)), (true, .val (.bool (((((!false) && true) && true) && true)))), (true, .val (.bool (((((!false) && true) && true) && true)))), ((true && ((((!false) && true) && true) && true)), .val (.agg #[.int .i64 2, .slice ((some ⟨g2, 0, none⟩)) 2 2])), ((true && ((((!false) && true) && true) && true)), .val (.agg #[.int .i64 2, .slice ((some ⟨g25, 0, none⟩)) 2 2])), ((true && ((((!false) && true) && true) && true)), .val (.bool false)), ((true && ((((!false) && true) && true) && true)), .val (.bool ((!false)))), (true, .val (.bool ((((((!false) && true) && true) && true) && (!false))))), (true, .val (.bool ((((((!false) && true) && true) && true) && (!false)))))] [(1, .pointer (some ⟨g9, 0, none⟩)), (2, .pointer (some ⟨g34, 0, none⟩)), (3, .slice ra 2 rc), (4, .bool true), (6, .bool false)] ⟨rfl, rfl, rfl, rfl, rfl, trivial⟩ (by kernel_rfl) (by kernel_rfl) (by kernel_rfl) ?_ ?_
  · refine ⟨⟨true, .none rfl, fun h w => optUndef h, fun zβ za zw zc => ?_⟩, ?_⟩
    · exact wp_move rfl (zc.kn.ev rfl) ⟨_, rfl, Below.refl _ _, optDef zβ rfl⟩
    refine ⟨⟨true, .none rfl, fun h w => optUndef h, fun zβ za zw zc => ?_⟩, ?_⟩
    · exact wp_move rfl ((show za.eval (.tmp 33) = za.tmps.getD 33 undef from rfl).trans (optVal (zc.dep 0 33 (by kernel_rfl)) rfl rfl)) ⟨_, rfl, Below.refl _ _, optDef zβ rfl⟩
    refine ⟨⟨(true && true), .yes (c := true) (d := true) rfl (fun v w h => h), fun h w => optUndef h, fun zβ za zw zc => ?_⟩, ?_⟩
    · exact wp_move rfl (zc.kn.ev rfl) ⟨_, rfl, Below.refl _ _, optDef zβ rfl⟩
    refine ⟨⟨(true && true), .yes (c := true) (d := true) rfl (fun v w h => h), fun h w => optUndef h, fun zβ za zw zc => ?_⟩, ?_⟩
    · exact wp_not rfl ((show za.eval (.tmp 35) = za.tmps.getD 35 undef from rfl).trans (optVal (zc.dep 2 35 (by kernel_rfl)) rfl rfl)) ⟨_, rfl, Below.refl _ _, optDef zβ rfl⟩
    refine ⟨⟨true, .none rfl, fun h w => optUndef h, fun zβ za zw zc => ?_⟩, ?_⟩
    · exact wp_pickT rfl ((show za.eval (.tmp 34) = za.tmps.getD 34 undef from rfl).trans (optVal (zc.dep 1 34 (by kernel_rfl)) rfl rfl)) ((show za.eval (.tmp 36) = za.tmps.getD 36 undef from rfl).trans (optVal (zc.dep 3 36 (by kernel_rfl)) rfl rfl)) ⟨_, rfl, Below.refl _ _, optDef zβ rfl⟩
    refine ⟨⟨true, .none rfl, fun h w => optUndef h, fun zβ za zw zc => ?_⟩, ?_⟩
    · exact wp_move rfl ((show za.eval (.tmp 37) = za.tmps.getD 37 undef from rfl).trans (optVal (zc.dep 4 37 (by kernel_rfl)) rfl rfl)) ⟨_, rfl, Below.refl _ _, optDef zβ rfl⟩
    refine ⟨⟨(true && (!false)), .yes (c := (!false)) (d := true) rfl (fun v w h => h), fun h w => optUndef h, fun zβ za zw zc => ?_⟩, ?_⟩
    · exact wp_move rfl (zc.kn.ev rfl) ⟨_, rfl, Below.refl _ _, optDef zβ rfl⟩
    refine ⟨⟨(true && (!false)), .yes (c := (!false)) (d := true) rfl (fun v w h => h), fun h w => optUndef h, fun zβ za zw zc => ?_⟩, ?_⟩
    · exact len_26 rfl ((show za.eval (.tmp 39) = za.tmps.getD 39 undef from rfl).trans (optVal (zc.dep 6 39 (by kernel_rfl)) rfl rfl)) ⟨_, rfl, Below.refl _ _, optDef zβ rfl⟩
    refine ⟨⟨(true && (!false)), .yes (c := (!false)) (d := true) rfl (fun v w h => h), fun h w => optUndef h, fun zβ za zw zc => ?_⟩, ?_⟩
    · exact eql_3 rfl ((show za.eval (.tmp 40) = za.tmps.getD 40 undef from rfl).trans (optVal (zc.dep 7 40 (by kernel_rfl)) rfl rfl)) (zc.kn.ev rfl) ⟨_, rfl, Below.refl _ _, optDef zβ rfl⟩
    refine ⟨⟨true, .none rfl, fun h w => optUndef h, fun zβ za zw zc => ?_⟩, ?_⟩
    · exact wp_and rfl ((show za.eval (.tmp 38) = za.tmps.getD 38 undef from rfl).trans (optVal (zc.dep 5 38 (by kernel_rfl)) rfl rfl)) (fun hp => ((show za.eval (.tmp 41) = za.tmps.getD 41 undef from rfl).trans (optVal (zc.dep 8 41 (by kernel_rfl)) rfl rfl))) ⟨_, rfl, Below.refl _ _, optDef zβ rfl⟩
    refine ⟨⟨true, .none rfl, fun h w => optUndef h, fun zβ za zw zc => ?_⟩, ?_⟩
    · exact wp_move rfl ((show za.eval (.tmp 42) = za.tmps.getD 42 undef from rfl).trans (optVal (zc.dep 9 42 (by kernel_rfl)) rfl rfl)) ⟨_, rfl, Below.refl _ _, optDef zβ rfl⟩
    refine ⟨⟨(true && ((!false) && true)), .yes (c := ((!false) && true)) (d := true) rfl (fun v w h => h), fun h w => optUndef h, fun zβ za zw zc => ?_⟩, ?_⟩
    · exact wp_move rfl (zc.kn.ev rfl) ⟨_, rfl, Below.refl _ _, optDef zβ rfl⟩
    refine ⟨⟨(true && ((!false) && true)), .yes (c := ((!false) && true)) (d := true) rfl (fun v w h => h), fun h w => optUndef h, fun zβ za zw zc => ?_⟩, ?_⟩
    · exact ix_26 (k := 0) rfl ((show za.eval (.tmp 44) = za.tmps.getD 44 undef from rfl).trans (optVal (zc.dep 11 44 (by kernel_rfl)) rfl rfl)) (ha91 0 (by decide)) (zc.kn.ev rfl) (by first | omega | (have zz := zβ; simp only [Bool.and_eq_true, Bool.or_eq_true, Bool.true_and, Bool.not_eq_true', Bool.or_eq_false_iff, Bool.and_eq_false_iff, beq_eq_false_iff_ne, ne_eq, beq_iff_eq, decide_eq_true_eq, decide_eq_false_iff_not, bne_iff_ne] at zz; omega)) ⟨_, rfl, Below.refl _ _, optDef zβ rfl⟩
    refine ⟨⟨(true && ((!false) && true)), .yes (c := ((!false) && true)) (d := true) rfl (fun v w h => h), fun h w => optUndef h, fun zβ za zw zc => ?_⟩, ?_⟩
    · exact fld_57_1 rfl ((show za.eval (.tmp 45) = za.tmps.getD 45 undef from rfl).trans (optVal (zc.dep 12 45 (by kernel_rfl)) rfl rfl)) ⟨_, rfl, Below.refl _ _, optDef zβ rfl⟩
    refine ⟨⟨(true && ((!false) && true)), .yes (c := ((!false) && true)) (d := true) rfl (fun v w h => h), fun h w => optUndef h, fun zβ za zw zc => ?_⟩, ?_⟩
    · exact fld_24_0 rfl ((show za.eval (.tmp 46) = za.tmps.getD 46 undef from rfl).trans (optVal (zc.dep 13 46 (by kernel_rfl)) rfl rfl)) ⟨_, rfl, Below.refl _ _, optDef zβ rfl⟩
    refine ⟨⟨(true && ((!false) && true)), .yes (c := ((!false) && true)) (d := true) rfl (fun v w h => h), fun h w => optUndef h, fun zβ za zw zc => ?_⟩, ?_⟩
    · exact ld_3 rfl ((show za.eval (.tmp 47) = za.tmps.getD 47 undef from rfl).trans (optVal (zc.dep 14 47 (by kernel_rfl)) rfl rfl)) (bkeeps (bstep hb93 zc.below) _ _ (hc92 0 (by decide)).2.1) ⟨_, rfl, Below.refl _ _, optDef zβ rfl⟩
    refine ⟨⟨(true && ((!false) && true)), .yes (c := ((!false) && true)) (d := true) rfl (fun v w h => h), fun h w => optUndef h, fun zβ za zw zc => ?_⟩, ?_⟩
    · exact eql_3 rfl ((show za.eval (.tmp 48) = za.tmps.getD 48 undef from rfl).trans (optVal (zc.dep 15 48 (by kernel_rfl)) rfl rfl)) (zc.kn.ev rfl) ⟨_, rfl, Below.refl _ _, optDef zβ rfl⟩
    refine ⟨⟨true, .none rfl, fun h w => optUndef h, fun zβ za zw zc => ?_⟩, ?_⟩
    · exact wp_and rfl ((show za.eval (.tmp 43) = za.tmps.getD 43 undef from rfl).trans (optVal (zc.dep 10 43 (by kernel_rfl)) rfl rfl)) (fun hp => ((show za.eval (.tmp 49) = za.tmps.getD 49 undef from rfl).trans (optVal (zc.dep 16 49 (by kernel_rfl)) rfl rfl))) ⟨_, rfl, Below.refl _ _, optDef zβ rfl⟩
    refine ⟨⟨true, .none rfl, fun h w => optUndef h, fun zβ za zw zc => ?_⟩, ?_⟩
    · exact wp_move rfl ((show za.eval (.tmp 50) = za.tmps.getD 50 undef from rfl).trans (optVal (zc.dep 17 50 (by kernel_rfl)) rfl rfl)) ⟨_, rfl, Below.refl _ _, optDef zβ rfl⟩
    refine ⟨⟨(true && (((!false) && true) && true)), .yes (c := (((!false) && true) && true)) (d := true) rfl (fun v w h => h), fun h w => optUndef h, fun zβ za zw zc => ?_⟩, ?_⟩
    · exact wp_move rfl (zc.kn.ev rfl) ⟨_, rfl, Below.refl _ _, optDef zβ rfl⟩
    refine ⟨⟨(true && (((!false) && true) && true)), .yes (c := (((!false) && true) && true)) (d := true) rfl (fun v w h => h), fun h w => optUndef h, fun zβ za zw zc => ?_⟩, ?_⟩
    · exact ix_26 (k := 1) rfl ((show za.eval (.tmp 52) = za.tmps.getD 52 undef from rfl).trans (optVal (zc.dep 19 52 (by kernel_rfl)) rfl rfl)) (ha91 1 (by decide)) (zc.kn.ev rfl) (by first | omega | (have zz := zβ; simp only [Bool.and_eq_true, Bool.or_eq_true, Bool.true_and, Bool.not_eq_true', Bool.or_eq_false_iff, Bool.and_eq_false_iff, beq_eq_false_iff_ne, ne_eq, beq_iff_eq, decide_eq_true_eq, decide_eq_false_iff_not, bne_iff_ne] at zz; omega)) ⟨_, rfl, Below.refl _ _, optDef zβ rfl⟩
    refine ⟨⟨(true && (((!false) && true) && true)), .yes (c := (((!false) && true) && true)) (d := true) rfl (fun v w h => h), fun h w => optUndef h, fun zβ za zw zc => ?_⟩, ?_⟩
    · exact fld_57_1 rfl ((show za.eval (.tmp 53) = za.tmps.getD 53 undef from rfl).trans (optVal (zc.dep 20 53 (by kernel_rfl)) rfl rfl)) ⟨_, rfl, Below.refl _ _, optDef zβ rfl⟩
    refine ⟨⟨(true && (((!false) && true) && true)), .yes (c := (((!false) && true) && true)) (d := true) rfl (fun v w h => h), fun h w => optUndef h, fun zβ za zw zc => ?_⟩, ?_⟩
    · exact fld_24_0 rfl ((show za.eval (.tmp 54) = za.tmps.getD 54 undef from rfl).trans (optVal (zc.dep 21 54 (by kernel_rfl)) rfl rfl)) ⟨_, rfl, Below.refl _ _, optDef zβ rfl⟩
    refine ⟨⟨(true && (((!false) && true) && true)), .yes (c := (((!false) && true) && true)) (d := true) rfl (fun v w h => h), fun h w => optUndef h, fun zβ za zw zc => ?_⟩, ?_⟩
    · exact ld_3 rfl ((show za.eval (.tmp 55) = za.tmps.getD 55 undef from rfl).trans (optVal (zc.dep 22 55 (by kernel_rfl)) rfl rfl)) (bkeeps (bstep hb93 zc.below) _ _ (hc92 1 (by decide)).2.1) ⟨_, rfl, Below.refl _ _, optDef zβ rfl⟩
    refine ⟨⟨(true && (((!false) && true) && true)), .yes (c := (((!false) && true) && true)) (d := true) rfl (fun v w h => h), fun h w => optUndef h, fun zβ za zw zc => ?_⟩, ?_⟩
    · exact eql_3 rfl ((show za.eval (.tmp 56) = za.tmps.getD 56 undef from rfl).trans (optVal (zc.dep 23 56 (by kernel_rfl)) rfl rfl)) (zc.kn.ev rfl) ⟨_, rfl, Below.refl _ _, optDef zβ rfl⟩
    refine ⟨⟨true, .none rfl, fun h w => optUndef h, fun zβ za zw zc => ?_⟩, ?_⟩
    · exact wp_and rfl ((show za.eval (.tmp 51) = za.tmps.getD 51 undef from rfl).trans (optVal (zc.dep 18 51 (by kernel_rfl)) rfl rfl)) (fun hp => ((show za.eval (.tmp 57) = za.tmps.getD 57 undef from rfl).trans (optVal (zc.dep 24 57 (by kernel_rfl)) rfl rfl))) ⟨_, rfl, Below.refl _ _, optDef zβ rfl⟩
    refine ⟨⟨true, .none rfl, fun h w => optUndef h, fun zβ za zw zc => ?_⟩, ?_⟩
    · exact wp_move rfl ((show za.eval (.tmp 58) = za.tmps.getD 58 undef from rfl).trans (optVal (zc.dep 25 58 (by kernel_rfl)) rfl rfl)) ⟨_, rfl, Below.refl _ _, optDef zβ rfl⟩
    refine ⟨⟨(true && ((((!false) && true) && true) && true)), .yes (c := ((((!false) && true) && true) && true)) (d := true) rfl (fun v w h => h), fun h w => optUndef h, fun zβ za zw zc => ?_⟩, ?_⟩
    · exact ld_24 rfl (zc.kn.ev rfl) (bkeeps zc.below _ _ ((hB94.cell 0).trans rfl)) (bkeeps zc.below _ _ ((hB94.cell 1).trans rfl)) ⟨_, rfl, Below.refl _ _, optDef zβ rfl⟩
    refine ⟨⟨(true && ((((!false) && true) && true) && true)), .yes (c := ((((!false) && true) && true) && true)) (d := true) rfl (fun v w h => h), fun h w => optUndef h, fun zβ za zw zc => ?_⟩, ?_⟩
    · exact ld_24 rfl (zc.kn.ev rfl) (bkeeps zc.below _ _ ((hB96.cell 0).trans rfl)) (bkeeps zc.below _ _ ((hB96.cell 1).trans rfl)) ⟨_, rfl, Below.refl _ _, optDef zβ rfl⟩
    refine ⟨⟨(true && ((((!false) && true) && true) && true)), .yes (c := ((((!false) && true) && true) && true)) (d := true) rfl (fun v w h => h), fun h w => optUndef h, fun zβ za zw zc => ?_⟩, ?_⟩
    · exact wp_call (by kernel_rfl) rfl (hv2 ((show za.eval (.tmp 60) = za.tmps.getD 60 undef from rfl).trans (optVal (zc.dep 27 60 (by kernel_rfl)) rfl rfl)) ((show za.eval (.tmp 61) = za.tmps.getD 61 undef from rfl).trans (optVal (zc.dep 28 61 (by kernel_rfl)) rfl rfl))) (variant_wk (hB97.below zc.below) (hB98.below zc.below)) (fun v w' h => ⟨v, rfl, h.2, optDef zβ h.1⟩)
    refine ⟨⟨(true && ((((!false) && true) && true) && true)), .yes (c := ((((!false) && true) && true) && true)) (d := true) rfl (fun v w h => h), fun h w => optUndef h, fun zβ za zw zc => ?_⟩, ?_⟩
    · exact wp_not rfl ((show za.eval (.tmp 62) = za.tmps.getD 62 undef from rfl).trans (optVal (zc.dep 29 62 (by kernel_rfl)) rfl rfl)) ⟨_, rfl, Below.refl _ _, optDef zβ rfl⟩
    refine ⟨⟨true, .none rfl, fun h w => optUndef h, fun zβ za zw zc => ?_⟩, ?_⟩
    · exact wp_and rfl ((show za.eval (.tmp 59) = za.tmps.getD 59 undef from rfl).trans (optVal (zc.dep 26 59 (by kernel_rfl)) rfl rfl)) (fun hp => ((show za.eval (.tmp 63) = za.tmps.getD 63 undef from rfl).trans (optVal (zc.dep 30 63 (by kernel_rfl)) rfl rfl))) ⟨_, rfl, Below.refl _ _, optDef zβ rfl⟩
    refine ⟨⟨true, .none rfl, fun h w => optUndef h, fun zβ za zw zc => ?_⟩, ?_⟩
    · exact wp_assign rfl ((show za.eval (.tmp 64) = za.tmps.getD 64 undef from rfl).trans (optVal (zc.dep 31 64 (by kernel_rfl)) rfl rfl)) ⟨_, rfl, Below.refl _ _, optDef zβ rfl⟩
    exact trivial
  · intro za w99 zh hb100 zu
    have zh := zh.cons (d := 0) (v := .bool ((((((!false) && true) && true) && true) && (!false)))) (optVal (zu 32 0 (by kernel_rfl)) rfl rfl)
    clear zu
    refine (show WE _ [(0, .bool ((((((!false) && true) && true) && true) && (!false)))), (1, .pointer (some ⟨g9, 0, none⟩)), (2, .pointer (some ⟨g34, 0, none⟩)), (3, .slice ra 2 rc), (4, .bool true), (6, .bool false)] w99 _ .normal from ?_) za (zh.sub ⟨rfl, rfl, rfl, rfl, rfl, rfl, trivial⟩)
    refine WE.next ?_
    refine WC.ret ?_
    refine WE.ret1 rfl rfl ?_
    have hb101 : Below w.heap.size w w99 := (bstep (bstep hb49 hb95) hb100)
    exact ⟨_, rfl, rfl, hb101⟩

end Go.Proofs.Ytcmfjnadjddboaa
