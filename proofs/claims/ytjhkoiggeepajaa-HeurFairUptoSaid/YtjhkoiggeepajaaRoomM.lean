/- A room in memory. -/
import Derived.Test.YtjhkoiggeepajaaRoomP
import Derived.Test.YtjhkoiggeepajaaHeapM
import Derived.Test.YtjhkoiggeepajaaIMap
namespace Go.Proofs.Ytjhkoiggeepajaa
open Go.RowKit Go
set_option linter.unusedVariables false
set_option linter.unusedSimpArgs false

/-- A row of queues. -/
def IsQs (w : World) (q : List Qu) (a : Option Addr) : Prop := ∃ b o, (∀ k, k < q.length → a = some ⟨b, o, none⟩) ∧ ∀ k, k < q.length → w.cell? ⟨b, o + k * 2, none⟩ = some (.int .i64 (qget q k).by_) ∧ w.cell? ⟨b, o + k * 2 + 1, none⟩ = some (.int .i64 (qget q k).take)
theorem IsQs.below {w w' : World} {q : List Qu} {a : Option Addr} (h : IsQs w q a) (hb : Below w.heap.size w w') : IsQs w' q a := by
  obtain ⟨b, o, h1, h2⟩ := h
  exact ⟨b, o, h1, fun k hk => ⟨bkeeps hb _ _ (h2 k hk).1, bkeeps hb _ _ (h2 k hk).2⟩⟩
def qsC (q : List Qu) : List Value := q.flatMap fun x => [.int .i64 x.by_, .int .i64 x.take]
theorem qsC_len : ∀ (q : List Qu), (qsC q).length = q.length * 2
  | [] => rfl
  | x :: r => by have := qsC_len r; simp [qsC] at this ⊢; omega
theorem qsC_at : ∀ (q : List Qu) (i : Nat), i < q.length → (qsC q)[i * 2]? = some (.int .i64 (qget q i).by_) ∧ (qsC q)[i * 2 + 1]? = some (.int .i64 (qget q i).take)
  | [], i, h => by simp at h
  | x :: r, 0, _ => by simp [qsC, qget]
  | x :: r, i + 1, h => by
    have := qsC_at r i (by simpa using h)
    have e : ∀ p, (qsC (x :: r))[(i + 1) * 2 + p]? = (qsC r)[i * 2 + p]? := fun p => by
      simp only [qsC, List.flatMap_cons]
      rw [List.getElem?_append_right (by simp; omega)]
      congr 1; simp; omega
    have e0 := e 0
    simp only [Nat.add_zero] at e0
    rw [e0, e 1]
    exact this
theorem qsC_one (q : List Qu) : ∀ v ∈ qsC q, v.oneCell' = true := fun v hv => by
  simp only [qsC, List.mem_flatMap, List.mem_cons, List.not_mem_nil, or_false] at hv
  obtain ⟨x, _, rfl | rfl⟩ := hv <;> rfl
/-- What a row of queues is copied from. -/
theorem IsQs.src {w : World} {q : List Qu} {a : Option Addr} {c : Nat} (h : IsQs w q a) (hc : q.length ≤ c) (hq : q ≠ []) : SrcIs w (.slice a q.length c) q.length (qsC q) := by
  obtain ⟨b, o, h1, h2⟩ := h
  have hpos : 0 < q.length := by cases q with | nil => exact absurd rfl hq | cons => simp
  obtain rfl := h1 0 hpos
  refine .inl ⟨_, _, rfl, fun j u hj => ?_⟩
  have hjl : j < q.length * 2 := by
    have := (List.getElem?_eq_some_iff.1 hj).1
    rwa [qsC_len] at this
  rw [add_plain2]
  have hi : j / 2 < q.length := by omega
  obtain ⟨k1, k2⟩ := qsC_at q (j / 2) hi
  obtain ⟨m1, m2⟩ := h2 (j / 2) hi
  rcases (show j = j / 2 * 2 ∨ j = j / 2 * 2 + 1 by omega) with e | e
  · rw [e] at hj ⊢
    rw [m1, ← k1]; simpa using hj
  · rw [e] at hj ⊢
    rw [← Nat.add_assoc, m2, ← k2]; simpa using hj
theorem IsQs.own {w : World} {S : Nat → Prop} {q : List Qu} {ra : Option Addr} {rc : Nat} (h : Own w S 38 2 ra rc q.length (qsC q)) (hq : 0 < q.length) : ∃ g cur, ra = some ⟨g, 0, none⟩ ∧ S g ∧ Blk w g 38 cur ∧ IsQs w q ra := by
  rcases h.1.2 with ⟨_, e⟩ | ⟨g, cap, cur, e1, _, h1, h2, h3, h4, h5⟩
  · omega
  · simp only [Value.slice.injEq] at e1
    obtain ⟨rfl, _, rfl⟩ := e1
    refine ⟨g, cur, rfl, h.2 g rfl, h1, g, 0, fun _ _ => rfl, fun k hk => ?_⟩
    have key : ∀ p, p < 2 → w.cell? ⟨g, 0 + k * 2 + p, none⟩ = (qsC q)[k * 2 + p]? := fun p hp => by
      have hB : Blk w g 38 cur := h1
      rw [hB.cell, ← h5, List.getElem?_take, if_pos (by omega), Array.getElem?_toList]
      congr 1; omega
    have k0 := key 0 (by omega)
    simp only [Nat.add_zero] at k0
    rw [k0, key 1 (by omega)]
    exact qsC_at q k hk
/-- A row of queues in the block 'g'. -/
structure QB (w : World) (g : Nat) (q : List Qu) : Prop where
  blk : ∃ cur, Blk w g 38 cur
  row : ∀ k, k < q.length → w.cell? ⟨g, 0 + k * 2, none⟩ = some (.int .i64 (qget q k).by_) ∧ w.cell? ⟨g, 0 + k * 2 + 1, none⟩ = some (.int .i64 (qget q k).take)
/-- A row of heaps in the block 'g'. -/
structure HB (w : World) (g n : Nat) (hb : Nat → Nat) : Prop where
  blk : ∃ cur, Blk w g 73 cur
  row : ∀ k, k < n → w.cell? ⟨g, 0 + k, none⟩ = some (.pointer (some ⟨hb k, 0, none⟩))
section
variable {w w' : World} {g n : Nat} {q : List Qu} {hb : Nat → Nat}
theorem QB.lt (h : QB w g q) : g < w.heap.size := by obtain ⟨c, h1⟩ := h.blk; exact h1.lt
theorem QB.keep (h : QB w g q) (e : w'.heap[g]? = w.heap[g]?) : QB w' g q := by
  obtain ⟨c, h1⟩ := h.blk
  have hc : ∀ i, w'.cell? ⟨g, i, none⟩ = w.cell? ⟨g, i, none⟩ := fun i => by simp [World.cell?, e]
  exact ⟨⟨c, e.trans h1⟩, fun k hk => by rw [hc, hc]; exact h.row k hk⟩
theorem QB.below (h : QB w g q) (hb : Below w.heap.size w w') : QB w' g q := h.keep (hb.block g h.lt)
theorem QB.upd {b : Nat} (h : QB w g q) (hu : Upd b w w') (hne : g ≠ b) : QB w' g q := h.keep (hu.block g hne)
theorem QB.chg {S : Nat → Prop} (h : QB w g q) (hc : Chg S w w') (hS : ¬ S g) : QB w' g q := h.keep (hc.block g h.lt hS)
theorem HB.lt (h : HB w g n hb) : g < w.heap.size := by obtain ⟨c, h1⟩ := h.blk; exact h1.lt
theorem HB.keep (h : HB w g n hb) (e : w'.heap[g]? = w.heap[g]?) : HB w' g n hb := by
  obtain ⟨c, h1⟩ := h.blk
  have hc : ∀ i, w'.cell? ⟨g, i, none⟩ = w.cell? ⟨g, i, none⟩ := fun i => by simp [World.cell?, e]
  exact ⟨⟨c, e.trans h1⟩, fun k hk => by rw [hc]; exact h.row k hk⟩
theorem HB.below (h : HB w g n hb) (k : Below w.heap.size w w') : HB w' g n hb := h.keep (k.block g h.lt)
theorem HB.upd {b : Nat} (h : HB w g n hb) (hu : Upd b w w') (hne : g ≠ b) : HB w' g n hb := h.keep (hu.block g hne)
theorem HB.chg {S : Nat → Prop} (h : HB w g n hb) (hc : Chg S w w') (hS : ¬ S g) : HB w' g n hb := h.keep (hc.block g h.lt hS)
theorem blk_ne {t t' : TypeId} {c c' : Array Value} {a b : Nat} (h : Blk w a t c) (k : Blk w b t' c') (ht : t ≠ t') : a ≠ b := by
  rintro rfl
  unfold Blk at h k
  rw [h] at k
  simp only [Option.some.injEq, Obj.cells.injEq] at k
  exact ht k.2.1
end
/-- The heaps of a room: apart from one another and from the blocks 'F'. -/
structure Hps (w : World) (F : List Nat) (n : Nat) (hb : Nat → Nat) (S : Nat → Nat → Prop) (Ls : Nat → List It) : Prop where
  at_ : ∀ k, k < n → HeapAt w (hb k) (S k) (Ls k)
  heap : ∀ k, k < n → IsHeap (Ls k)
  lt : ∀ k b, k < n → S k b → b < w.heap.size
  inj : ∀ i j, i < n → j < n → i ≠ j → hb i ≠ hb j
  dis : ∀ i j b, i < n → j < n → i ≠ j → S i b → ¬ S j b
  sep : ∀ i j, i < n → j < n → ¬ S i (hb j)
  ap : ∀ f ∈ F, f < w.heap.size ∧ (∀ k, k < n → f ≠ hb k) ∧ ∀ k, k < n → ¬ S k f
section
variable {w w' : World} {F : List Nat} {n : Nat} {hb : Nat → Nat} {S : Nat → Nat → Prop} {Ls : Nat → List It}
theorem Hps.below (h : Hps w F n hb S Ls) (k : Below w.heap.size w w') : Hps w' F n hb S Ls :=
  ⟨fun i hi => (h.at_ i hi).below k, h.heap, fun i b hi hS => Nat.lt_of_lt_of_le (h.lt i b hi hS) k.size, h.inj, h.dis, h.sep, fun f hf => ⟨Nat.lt_of_lt_of_le (h.ap f hf).1 k.size, (h.ap f hf).2⟩⟩
theorem Hps.chg {T : Nat → Prop} (h : Hps w F n hb S Ls) (hc : Chg T w w') (h0 : (∀ k, k < n → ¬ T (hb k)) ∧ ∀ k b, k < n → S k b → ¬ T b) : Hps w' F n hb S Ls :=
  ⟨fun i hi => (h.at_ i hi).chg hc (h0.1 i hi) (fun b hS => h0.2 i b hi hS), h.heap, fun i b hi hS => Nat.lt_of_lt_of_le (h.lt i b hi hS) hc.size, h.inj, h.dis, h.sep, fun f hf => ⟨Nat.lt_of_lt_of_le (h.ap f hf).1 hc.size, (h.ap f hf).2⟩⟩
theorem Hps.upd {g : Nat} (h : Hps w F n hb S Ls) (hu : Upd g w w') (hg : g ∈ F) : Hps w' F n hb S Ls :=
  h.chg (.ofUpd (S := fun b => b = g) hu rfl) ⟨fun k hk e => (h.ap g hg).2.1 k hk e.symm, fun k b hk hS e => (h.ap g hg).2.2 k hk (e ▸ hS)⟩
theorem Hps.no {f k : Nat} (h : Hps w F n hb S Ls) (hk : k < n) (hf : f ∈ F) : ¬ (f = hb k ∨ S k f) := fun q => q.elim ((h.ap f hf).2.1 k hk) ((h.ap f hf).2.2 k hk)
/-- What one heap's push or pop leaves. -/
theorem Hps.step {k : Nat} {L' : List It} (h : Hps w F n hb S Ls) (hk : k < n) (hp : IsHeap L') (hH : HeapAt w' (hb k) (fun b => S k b ∨ w.heap.size ≤ b) L') (hc : Chg (fun b => b = hb k ∨ S k b) w w') : Hps w' F n hb (fun i b => if i = k then S k b ∨ (w.heap.size ≤ b ∧ b < w'.heap.size) else S i b) (fun i => if i = k then L' else Ls i) := by
  have hl : ∀ i, i < n → hb i < w.heap.size := fun i hi => (h.at_ i hi).lt
  refine ⟨fun i hi => ?_, fun i hi => ?_, fun i b hi hS => ?_, h.inj, fun i j b hi hj hij h1 h2 => ?_, fun i j hi hj h1 => ?_, fun f hf => ⟨Nat.lt_of_lt_of_le (h.ap f hf).1 hc.size, (h.ap f hf).2.1, fun i hi h1 => ?_⟩⟩
  · by_cases e : i = k
    · subst e
      simp only [if_true]
      exact hH.mono (fun b h1 h2 => h1.elim .inl (fun q => .inr ⟨q, h2⟩))
    · simp only [if_neg e]
      refine (h.at_ i hi).chg hc (fun q => ?_) (fun b hS q => ?_)
      · rcases q with q | q
        · exact h.inj i k hi hk e q
        · exact h.sep k i hk hi q
      · rcases q with rfl | q
        · exact h.sep i k hi hk hS
        · exact h.dis i k b hi hk e hS q
  · split
    · exact hp
    · exact h.heap i hi
  · split at hS
    · rcases hS with q | q
      · exact Nat.lt_of_lt_of_le (h.lt k b hk q) hc.size
      · exact q.2
    · exact Nat.lt_of_lt_of_le (h.lt i b hi hS) hc.size
  · split at h1 <;> rename_i e1 <;> split at h2 <;> rename_i e2
    · omega
    · rcases h1 with q | q
      · exact h.dis k j b hk hj (by omega) q h2
      · have := h.lt j b hj h2; omega
    · rcases h2 with q | q
      · exact h.dis i k b hi hk (by omega) h1 q
      · have := h.lt i b hi h1; omega
    · exact h.dis i j b hi hj hij h1 h2
  · have := hl j hj
    split at h1
    · rcases h1 with q | q
      · exact h.sep k j hk hj q
      · omega
    · exact h.sep i j hi hj h1
  · have := (h.ap f hf).1
    split at h1
    · rcases h1 with q | q
      · exact (h.ap f hf).2.2 k hk q
      · omega
    · exact (h.ap f hf).2.2 i hi h1
end
def wmM (ws : List Wt) : List (Int × Value) := ws.map fun x => (x.id, .int .i64 (x.tm : Int))
theorem imFind_wm (n : Int) : ∀ (ws : List Wt) (i : Nat), ((imFind (wmM ws) n i).map (·.2)).getD (.int .i64 0) = .int .i64 (tmOf ws n : Int)
  | [], i => rfl
  | x :: r, i => by
    rw [wmM, List.map_cons, imFind, tmOf]
    by_cases e : n = x.id
    · rw [if_pos e, if_pos e]; rfl
    · rw [if_neg e, if_neg e]; exact imFind_wm n r (i + 1)
theorem look_wm (ws : List Wt) (n : Int) : (imLook (wmM ws) n).getD (.int .i64 0) = .int .i64 (tmOf ws n : Int) := imFind_wm n ws 0
theorem put_wm (ws : List Wt) (x : Wt) : wmM ws ++ [(x.id, .int .i64 (x.tm : Int))] = wmM (ws ++ [x]) := by simp [wmM]
theorem no_wm {ws : List Wt} {n : Int} (h : ∀ x ∈ ws, x.id ≠ n) : ∀ y ∈ wmM ws, y.1 ≠ n := fun y hy => by
  simp only [wmM, List.mem_map] at hy
  obtain ⟨x, hx, rfl⟩ := hy
  exact h x hx
theorem dropW_none {ws : List Wt} {n : Int} (h : ∀ x ∈ ws, x.id ≠ n) : dropW ws n = ws := by
  rw [dropW, List.filter_eq_self]
  intro x hx; simpa using h x hx
theorem del_wm (n : Int) : ∀ (ws : List Wt), (ws.map (·.id)).Nodup → imDel (wmM ws) n = wmM (dropW ws n)
  | [], _ => rfl
  | x :: r, hn => by
    rw [List.map_cons, List.nodup_cons] at hn
    have ih := del_wm n r hn.2
    unfold imDel at ih ⊢
    have e1 : wmM (x :: r) = (x.id, .int .i64 (x.tm : Int)) :: wmM r := rfl
    rw [e1, imFind]
    by_cases e : n = x.id
    · have h0 : ∀ y ∈ r, y.id ≠ n := fun y hy h => hn.1 (List.mem_map.2 ⟨y, hy, h.trans e⟩)
      rw [if_pos e]
      have : dropW (x :: r) n = r := by
        rw [dropW, List.filter_cons, if_neg (by simp [e])]
        exact dropW_none h0
      rw [this]; rfl
    · rw [if_neg e, imFind_shift]
      have e2 : dropW (x :: r) n = x :: dropW r n := by
        rw [dropW, List.filter_cons, if_pos (by simpa using Ne.symm e)]; rfl
      rw [e2]
      cases hf : imFind (wmM r) n 0 with
      | none => rw [hf] at ih; simp only [Option.map_none]; simp only at ih; rw [ih]; rfl
      | some p =>
        rw [hf] at ih
        simp only [Option.map_some, List.eraseIdx_cons_succ]
        simp only at ih
        rw [ih]; rfl
/-- A room at 'r', whose blocks 'Z' holds of. -/
structure RoomIs (w : World) (r : Nat) (Z : Nat → Prop) (q : List Qu) (ws : List Wt) (times at_ dn : Nat) : Prop where
  ex : ∃ mb gq gh qc hc hb S Ls es cl, Blk w r 72 #[.slice (some ⟨gq, 0, none⟩) q.length qc, .slice (some ⟨gh, 0, none⟩) q.length hc, .map (some mb), .int .i64 (times : Int), .int .i64 (at_ : Int), .int .i64 (dn : Int)] ∧
    QB w gq q ∧ HB w gh q.length hb ∧ ObjAt w mb (.map es cl) ∧ ImE es cl (wmM ws) ∧ Hps w [r, mb, gq, gh] q.length hb S Ls ∧
    (Z r ∧ Z mb ∧ Z gq ∧ Z gh ∧ (∀ k, k < q.length → Z (hb k)) ∧ ∀ k b, k < q.length → S k b → Z b) ∧ ∀ k, k < q.length → Rel (qget q k).by_ ws (Ls k) times
  ok : WsOk ws times
  qs : qsOk q = true
  at_lt : at_ < q.length
  dn_lt : dn < 1000
section
variable {w w' : World} {r : Nat} {Z Z' : Nat → Prop} {q : List Qu} {ws : List Wt} {times at_ dn : Nat}
theorem RoomIs.chg {T : Nat → Prop} (h : RoomIs w r Z q ws times at_ dn) (hc : Chg T w w') (hT : ∀ b, Z b → ¬ T b) : RoomIs w' r Z q ws times at_ dn := by
  obtain ⟨mb, gq, gh, qc, hc', hb, S, Ls, es, cl, h1, h2, h3, h4, h5, h6, ⟨z1, z2, z3, z4, z5, z6⟩, h8⟩ := h.ex
  exact ⟨⟨mb, gq, gh, qc, hc', hb, S, Ls, es, cl, chg_blk h1 hc (hT _ z1), h2.chg hc (hT _ z3), h3.chg hc (hT _ z4), h4.chg hc (hT _ z2), h5, h6.chg hc ⟨fun k hk => hT _ (z5 k hk), fun k b hk hS => hT _ (z6 k b hk hS)⟩, ⟨z1, z2, z3, z4, z5, z6⟩, h8⟩, h.ok, h.qs, h.at_lt, h.dn_lt⟩
theorem RoomIs.below (h : RoomIs w r Z q ws times at_ dn) (hb : Below w.heap.size w w') : RoomIs w' r Z q ws times at_ dn := h.chg (.ofBelow (S := fun _ => False) hb) (fun _ _ e => e)
theorem RoomIs.mono (h : RoomIs w r Z q ws times at_ dn) (hZ : ∀ b, Z b → b < w.heap.size → Z' b) : RoomIs w r Z' q ws times at_ dn := by
  obtain ⟨mb, gq, gh, qc, hc', hb, S, Ls, es, cl, h1, h2, h3, h4, h5, h6, ⟨z1, z2, z3, z4, z5, z6⟩, h8⟩ := h.ex
  exact ⟨⟨mb, gq, gh, qc, hc', hb, S, Ls, es, cl, h1, h2, h3, h4, h5, h6, ⟨hZ _ z1 h1.lt, hZ _ z2 h4.lt, hZ _ z3 h2.lt, hZ _ z4 h3.lt, fun k hk => hZ _ (z5 k hk) (h6.at_ k hk).lt, fun k b hk hS => hZ _ (z6 k b hk hS) (h6.lt k b hk hS)⟩, h8⟩, h.ok, h.qs, h.at_lt, h.dn_lt⟩
end
end Go.Proofs.Ytjhkoiggeepajaa
