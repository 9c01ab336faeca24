/- slices.SortFunc of bindings by their variables, over a row of the call's own. -/
import Derived.Test.YtcmfjnadjddboaaBdRow
import Derived.Test.YtcmfjnadjddboaaSortFLay
namespace Go.Proofs.Ytcmfjnadjddboaa
open Go.RowKit Go.Sort Go.Shelf Go

def cmpB (x y : BdV) : Int := Lib.compareInt x.1.var y.1.var
theorem ltB (x y : BdV) : ltOf cmpB x y = decide (x.1.var < y.1.var) := by
  unfold ltOf cmpB Lib.compareInt
  congr 1
  (repeat' split) <;> simp <;> omega
theorem swoB : SWO (ltOf cmpB) where
  irrefl x := by rw [ltB]; simp
  trans x y z := by rw [ltB, ltB, ltB]; simp only [decide_eq_true_eq]; omega
  ntrans x y z := by rw [ltB, ltB, ltB]; simp only [decide_eq_false_iff_not]; omega

def normB (v : Value) : Value := if v.oneCell' = true then v else .int .i64 0
theorem normB_one (v : Value) : (normB v).oneCell' = true := by unfold normB; split <;> first | assumption | rfl
def encN (x : BdV) : List Value := [.int .i64 x.1.var, normB x.2.1, normB x.2.2]
theorem encN_eq {S : Nat → Prop} {w : World} {p : BdV} (h : BdOk S w p) : encN p = encB p := by
  obtain ⟨_, a, c, e, _, _, _⟩ := h.2.form
  simp only [Value.agg.injEq, Array.mk.injEq, List.cons.injEq, and_true] at e
  unfold encN encB
  rw [e.1, e.2]; rfl
theorem flat_eq {S : Nat → Prop} {w : World} : ∀ {ds : List BdV}, (∀ p ∈ ds, BdOk S w p) → ds.flatMap encN = ds.flatMap encB
  | [], _ => rfl
  | p :: r, h => by rw [List.flatMap_cons, List.flatMap_cons, encN_eq (h p (by simp)), flat_eq fun q hq => h q (by simp [hq])]
theorem len_encN (ds : List BdV) : (ds.flatMap encN).length = ds.length * 3 := by
  induction ds with
  | nil => rfl
  | cons p r ih => rw [List.flatMap_cons, List.length_append, ih, List.length_cons]; show 3 + _ = _; omega
theorem get_encN : ∀ (ds : List BdV) (t : Nat), t < ds.length * 3 → (ds.flatMap encN)[t]? = some ((encN ds.toArray[t / 3]!)[t % 3]!)
  | [], t, h => by simp at h
  | p :: r, t, h => by
    rw [List.flatMap_cons]
    by_cases h3 : t < 3
    · rw [List.getElem?_append_left (by exact h3), show t / 3 = 0 by omega, show t % 3 = t by omega]
      have e : ((p :: r).toArray[0]!) = p := by simp
      rw [e, List.getElem?_eq_getElem (show t < (encN p).length from h3), getElem!_pos (encN p) t h3]; rfl
    · rw [List.getElem?_append_right (by show 3 ≤ t; omega)]
      show (r.flatMap encN)[t - 3]? = _
      rw [get_encN r (t - 3) (by rw [List.length_cons] at h; omega), show t % 3 = (t - 3) % 3 by omega, show t / 3 = (t - 3) / 3 + 1 by omega]
      have e : ((p :: r).toArray[(t - 3) / 3 + 1]!) = r.toArray[(t - 3) / 3]! := by simp
      rw [e]
theorem flat_encN (ds : List BdV) : (flatK encN 3 ds.toArray).toList = ds.flatMap encN := by
  apply List.ext_getElem?
  intro t
  by_cases h : t < ds.length * 3
  · rw [get_encN ds t h, Array.getElem?_toList, Array.getElem?_eq_getElem (by simpa using h)]
    congr 1
    have := get_flatK encN 3 ds.toArray t (by simpa using h)
    rwa [getElem!_pos _ t (by simpa using h)] at this
  · rw [List.getElem?_eq_none (by simp; omega), List.getElem?_eq_none (by rw [len_encN]; omega)]

theorem heap_sortB {w : World} {g n : Nat} {os : Array Obj} {cur : Array Value} {e : TypeId} {fr : Nat × Nat} (F : Array Value) (hb : w.heap[g]? = some (.cells cur e fr)) :
    (grow (putRow id (Sort.ahead w n) g 0 F) os).heap[g]? = some (.cells (putCells id 0 F cur) e fr) := by
  have hg : g < w.heap.size := (Array.getElem?_eq_some_iff.1 hb).1
  rw [heap_grow_old _ _ (by simpa using hg)]
  simp [putRow, mapBlock, Sort.ahead, Array.getElem?_modify, hb, onCells]
theorem chg_sortB {w : World} {g n : Nat} {os : Array Obj} (F : Array Value) : Chg (fun b => b = g) w (grow (putRow id (Sort.ahead w n) g 0 F) os) := by
  refine ⟨rfl, rfl, rfl, by simp, fun k hk hne => ?_⟩
  rw [heap_grow_old _ _ (by simpa using hk)]
  have : g ≠ k := fun e => hne e.symm
  simp [putRow, mapBlock, Sort.ahead, Array.getElem?_modify, this]
theorem take_sortB (cur F : Array Value) (h : F.size ≤ cur.size) : (putCells id 0 F cur).toList.take F.size = F.toList := by
  apply List.ext_getElem?
  intro j
  by_cases hj : j < F.size
  · rw [List.getElem?_take_of_lt hj, Array.getElem?_toList]
    simp [putCells, hj, show j < cur.size by omega]
  · rw [List.getElem?_take_eq_none (by omega), List.getElem?_eq_none (by simp; omega)]

/-- What the comparison says. -/
def CmpIs (g : Nat) : Prop := (∀ args w, (callFunc g args).run Try.prog w = .ok (.enter g args) w) ∧ ∀ (x y : BdV) (W : World), Calls Try.prog g #[.agg (encN x).toArray, .agg (encN y).toArray] W fun e w' => e = .returned (.int .i64 (cmpB x y)) ∧ ∃ q os', w' = grow (W.drewN q) os'

theorem bitsB (n : Nat) (w : World) (hn : n ≤ 4294967296) : Calls Try.prog 62 #[.int .u64 (n : Int)] w fun e w' => e = .returned (.int .i64 (Lib.bitLen n : Nat)) ∧ w' = w := by
  have h := Any.bits_Len (SlLaysF0.n15.bits { Try.lPdqB with }) (n : Int) w (by omega) (by omega)
  rwa [Int.toNat_natCast] at h

set_option maxHeartbeats 2000000 in
/-- The library's function, about its own. -/
theorem sortF_walk {w : World} {ra : Option Addr} {rc n g : Nat} {R : World → Prop} (hl : Calls Try.prog 62 #[.int .u64 (n : Int)] w fun e w' => e = .returned (.int .i64 (Lib.bitLen n : Nat)) ∧ w' = w)
    (hp : Calls Try.prog 61 #[.slice ra n rc, .int .i64 ((0 : Nat) : Int), .int .i64 (n : Nat), .int .i64 (Lib.bitLen n : Nat), .func (.func g) #[] #[]] w fun e w' => e = .returned (.tuple #[]) ∧ R w') (hn : n ≤ 4294967296 := by omega) :
    Calls Try.prog 40 #[.slice ra n rc, .func (.func g) #[] #[]] w fun e w' => e = .returned (.tuple #[]) ∧ R w' := by
  have wr : IntKind.u64.wrap (n : Int) = n := by simp [IntKind.wrap, IntKind.bits, IntKind.signed]; omega
  go_enter Try.func40, Try.ntmps40
  go_wp2_with (first | (go_at_call 62; refine hl.mono ?_; rintro e w' ⟨rfl, rfl⟩) | (go_at_call 61; refine hp.mono ?_; rintro e w' ⟨rfl, hR⟩))
  go_end0
  exact ⟨rfl, hR⟩

set_option maxRecDepth 100000 in
theorem sortB_own {w : World} {B : Nat} {ra : Option Addr} {rc n : Nat} {l : List Bd} {g : Nat} (h : RowE eltB w B 57 ra rc n l) (hn : n ≤ 4294967296) (hc : CmpIs g) :
    Calls Try.prog 40 #[.slice ra n rc, .func (.func g) #[] #[]] w (Ret fun v' w' => ∃ l' : List Bd, v' = .tuple #[] ∧ l'.Perm l ∧ l'.Pairwise (fun x y => x.var ≤ y.var) ∧ RowE eltB w' B 57 ra rc n l' ∧ Chg (fun b => (Value.slice ra n rc).ownBlock = some b) w w') := by
  obtain ⟨⟨xs, h1, h2⟩, hl⟩ := h
  rcases h1.2 with ⟨e, h0⟩ | ⟨b, cap, cur, e, hB, hb, hcap, hm, hs, hx⟩
  · simp only [Value.slice.injEq] at e
    obtain ⟨rfl, rfl, rfl⟩ := e
    obtain rfl : l = [] := List.length_eq_zero_iff.1 hl.symm
    refine (sortF_walk (g := g) (n := 0) (bitsB 0 w (by omega)) (AnyF.pdqsortCmpFunc_none Try.lPdqB none 0 _ _ w)).mono ?_
    rintro e w' ⟨rfl, rfl⟩
    exact ⟨_, rfl, [], rfl, .refl _, .nil, RowE.nil, .refl _ _⟩
  · have e' := e
    simp only [Value.slice.injEq, true_and] at e'
    obtain ⟨rfl, rfl⟩ := e'
    obtain ⟨ds, rfl, rfl, hds⟩ := elts_bdv h2
    have hn3 : n = ds.length := by simpa using hl
    subst hn3
    have hlen := len_encB ds
    have hg : b < w.heap.size := (Array.getElem?_eq_some_iff.1 hb).1
    have hk3 : eltB.k = 3 := rfl
    rw [hk3] at hs hx
    rw [← flat_eq hds] at hx
    have hH : HoldsK encN 3 w b 0 ds.toArray := by
      intro j hj
      have hj' : j < ds.length * 3 := by simpa using hj
      have hx' : (cur.toList.take (ds.length * 3))[j]? = (ds.flatMap encN)[j]? := by rw [hx]
      rw [List.getElem?_take_of_lt (by omega), Array.getElem?_toList, get_encN ds j hj'] at hx'
      have hf := get_flatK encN 3 ds.toArray j (by simpa using hj')
      refine ⟨?_, by simp [World.frozen?, hb]⟩
      show _ = some ((flatK encN 3 ds.toArray)[j]!)
      rw [hf, ← hx']
      simp only [World.cell?, hb, Nat.zero_add]
      simp
    have hp := AnyQ.pdqsortCmpFunc_all Try.lPdqB 3 (fun _ => rfl) (fun _ => rfl) encN cmpB g #[] swoB b 0 rc ds.toArray w hc.1 (fun m os dk _ x y => hc.2 x y _)
      ⟨fun _ => rfl, fun x v hv => by simp only [encN, List.mem_cons, List.not_mem_nil, or_false] at hv; rcases hv with rfl | rfl | rfl; exact rfl; exact normB_one _; exact normB_one _, hH, hg⟩ (ds.length + 1) 0 ds.length (Lib.bitLen ds.length) ds.toArray w (by omega) (by simp) (SWK.start hH) (Nat.zero_le _) (by simp) (by simp; omega) (Nat.lt_of_le_of_lt (Lib.bitLen_le ds.length 62 (by omega) (by omega)) (by omega)) (Or.inl rfl)
    have hl := bitsB ds.length w hn
    have hsort := pdq_sorts (ltOf cmpB) swoB ds.toArray 0 ds.toArray.size (Lib.bitLen ds.length) true true (Nat.zero_le _) (Nat.le_refl _) (Or.inl rfl)
    change Calls Try.prog 61 #[.slice (some ⟨b, 0, none⟩) ds.length rc, .int .i64 ((0 : Nat) : Int), .int .i64 (ds.length : Nat), .int .i64 (Lib.bitLen ds.length : Nat), .func (.func g) #[] #[]] w _ at hp
    rw [show ds.toArray.size = ds.length from by simp] at hsort
    generalize pdq (ltOf cmpB) ds.toArray 0 ds.length (Lib.bitLen ds.length) true true = d' at hp hsort
    have hw := sortF_walk (g := g) hl hp
    obtain ⟨⟨hsz, _, hperm⟩, hsrt⟩ := hsort
    obtain ⟨ds', rfl⟩ : ∃ ds' : List BdV, d' = ds'.toArray := ⟨d'.toList, by simp⟩
    have hlen' : ds'.length = ds.length := by simpa using hsz
    have hperm' : ds'.Perm ds := by
      have e1 : (ds'.toArray.extract 0 ds.length).toList = ds' := by rw [← hlen']; simp
      have e2 : (ds.toArray.extract 0 ds.length).toList = ds := by simp
      rw [e1, e2] at hperm; exact hperm
    refine hw.mono ?_
    rintro e w' ⟨rfl, m, os, rfl⟩
    have hchg : Chg (fun k => k = b) w (sortWorldK encN 3 w b 0 m ds'.toArray os) := chg_sortB (flatK encN 3 ds'.toArray)
    have hds' : ∀ p ∈ ds', BdOk (fun k => B ≤ k ∧ k ≠ b) (sortWorldK encN 3 w b 0 m ds'.toArray os) p := fun p hp => by
      have h := hds p (hperm'.mem_iff.1 hp)
      exact ⟨h.1, InT.chg (InT.mono (fun k hk _ => ⟨hk.1, fun e => hk.2 (by rw [own_some, e])⟩) h.2) hchg (fun k hk e => hk.2 e)⟩
    refine ⟨_, rfl, ds'.map (·.1), rfl, hperm'.map _, ?_, ?_, ?_⟩
    · rw [List.pairwise_map, List.pairwise_iff_getElem]
      intro i j hi hj hij
      have h := hsrt i j (Nat.zero_le _) hij (by omega)
      rw [ltB] at h
      simp only [decide_eq_false_iff_not] at h
      rw [getElem!_pos ds'.toArray i (by simpa using hi), getElem!_pos ds'.toArray j (by simpa using hj)] at h
      simp only [List.getElem_toArray] at h
      omega
    · refine RowE.mk3 (cur := putCells id 0 (flatK encN 3 ds'.toArray) cur) (heap_sortB _ hb) hds' ?_ hcap hm (by simpa [putCells] using hs) hB hlen'.symm
      have := take_sortB cur (flatK encN 3 ds'.toArray) (by simp [hlen']; omega)
      rw [show (flatK encN 3 ds'.toArray).size = ds.length * 3 from by simp [hlen']] at this
      rw [this, flat_encN, flat_eq hds']
    · exact ⟨hchg.os, hchg.tape, hchg.output, hchg.size, fun k hk hn => hchg.block k hk (fun e => hn (by rw [e, own_some]))⟩

end Go.Proofs.Ytcmfjnadjddboaa
