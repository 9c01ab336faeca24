/- A room in which clauses wait, one after the other told: what stands where. -/
import Derived.Test.YtjhkoiggeepajaaFairP
import Derived.Test.YtjhkoiggeepajaaHWeighs
namespace Go.Proofs.Ytjhkoiggeepajaa
open Go.RowKit Go
set_option linter.unusedVariables false
set_option linter.unusedSimpArgs false

theorem new_bad {q : List Qu} (hq : qsOk q = false) (w : World) (a : Option Addr) (c : Nat) (h : IsQs w q a) (hc : q.length ≤ c) : Calls Try.prog 11 #[.slice a q.length c] w (Ret fun v' w' => v' = .tuple #[.pointer none, .int .i64 2] ∧ Below w.heap.size w w') :=
  (new_any q w a c h hc).mono fun e w' ⟨v, e1, h1⟩ => ⟨v, e1, by
    rcases h1 with ⟨_, h1⟩ | ⟨h1, _⟩
    · exact h1
    · rw [hq] at h1; cases h1⟩
/-- A row of truth values that came in. -/
def bget2 (l : List Bool) (k : Nat) : Bool := l.getD k false
def IsBs (w : World) (l : List Bool) (a : Option Addr) : Prop := ∃ b o, (∀ k, k < l.length → a = some ⟨b, o, none⟩) ∧ ∀ k, k < l.length → w.cell? ⟨b, o + k, none⟩ = some (.bool (bget2 l k))
/-- A row of clauses that came in. -/
def cget (l : List (List Li)) (k : Nat) : List Li := l.getD k []
def IsCls (w : World) (l : List (List Li)) (a : Option Addr) : Prop := ∃ (b o : Nat) (A : Nat → Option Addr) (C : Nat → Nat), (∀ k, k < l.length → a = some ⟨b, o, none⟩) ∧ ∀ k, k < l.length → w.cell? ⟨b, o + k, none⟩ = some (.slice (A k) (cget l k).length (C k)) ∧ IsCl w (cget l k) (A k) (C k) ∧ (cget l k).length ≤ 1048576
/-- A block of 'm' truth values, the i-th of which is 'g i'. -/
structure BRow (w : World) (t : TypeId) (b m : Nat) (g : Nat → Bool) : Prop where
  blk : Blk w b t ((List.range m).map fun i => Value.bool (g i)).toArray
section
variable {w w' : World} {t : TypeId} {b m : Nat} {g : Nat → Bool}
theorem BRow.lt (h : BRow w t b m g) : b < w.heap.size := h.blk.lt
theorem BRow.below (h : BRow w t b m g) (hb : Below w.heap.size w w') : BRow w' t b m g := ⟨h.blk.below hb⟩
theorem BRow.chg {S : Nat → Prop} (h : BRow w t b m g) (hc : Chg S w w') (hS : ¬ S b) : BRow w' t b m g := ⟨chg_blk h.blk hc hS⟩
theorem BRow.upd {q : Nat} (h : BRow w t b m g) (hu : Upd q w w') (hq : b ≠ q) : BRow w' t b m g := ⟨upd_blk h.blk hu hq⟩
theorem BRow.cell (h : BRow w t b m g) {i : Nat} (hi : i < m) : w.cell? ⟨b, 0 + i, none⟩ = some (.bool (g i)) := by
  rw [h.blk.cell]; simp [hi]
theorem BRow.set (h : BRow w t b m g) {i : Nat} (v : Bool) (hi : i < m) : BRow (w.setCell ⟨b, 0 + i, none⟩ (.bool v)) t b m (fun k => if k = i then v else g k) := by
  refine ⟨?_⟩
  have := h.blk.set_ (0 + i) (.bool v)
  have e : ((List.range m).map fun k => Value.bool (g k)).toArray.setIfInBounds (0 + i) (.bool v) = ((List.range m).map fun k => Value.bool (if k = i then v else g k)).toArray := by
    rw [List.setIfInBounds_toArray, Nat.zero_add]
    congr 1
    apply List.ext_getElem
    · simp
    · intro k h1 h2
      simp only [List.getElem_set, List.getElem_map, List.getElem_range]
      by_cases hk : i = k
      · rw [if_pos hk, if_pos hk.symm]
      · rw [if_neg hk, if_neg (Ne.symm hk)]
  rw [← e]; exact this
theorem BRow.size (h : BRow w t b m g) {j : Nat} (hj : j < m) : 0 + j + 0 < ((List.range m).map fun i => Value.bool (g i)).toArray.size := by simpa using hj
end
theorem brow_new {w : World} {t : TypeId} {b n : Nat} (h : Blk w b t (madeCells (Value.cells (.bool false)) (n * 1))) : BRow w t b n (fun _ => false) := by
  refine ⟨?_⟩
  have e : madeCells (Value.cells (.bool false)) (n * 1) = ((List.range n).map fun _ => Value.bool false).toArray := by
    apply Array.ext
    · simp [madeCells, Value.cells]
    · intro i h1 h2
      simp [madeCells, Value.cells, Nat.mod_one]
  rw [← e]; exact h
def ageP (q : List Qu) : Nat → Bool
  | 0 => false
  | i + 1 => ageP q i || ((qget q i).by_ == 0)
theorem ageP_some {q : List Qu} : ∀ {i : Nat}, ageP q i = true → ∃ g, g < i ∧ (qget q g).by_ = 0
  | 0, h => by cases h
  | i + 1, h => by
    rw [ageP, Bool.or_eq_true, beq_iff_eq] at h
    rcases h with h | h
    · obtain ⟨g, h1, h2⟩ := ageP_some h
      exact ⟨g, by omega, h2⟩
    · exact ⟨i, by omega, h⟩
theorem take_ok {q : List Qu} (h : qsOk q = true) : TakeOk q := fun k hk => by
  have := (qsOk_at h).2.2 k hk
  omega
/-- A room into which clauses come. -/
structure AddS (w0 w : World) (r : Nat) (q : List Qu) (Z : Nat → Prop) (ws : List Wt) (n : Nat) : Prop where
  room : RoomIs w r Z q ws n 0 0
  z0 : ∀ b, Z b → w0.heap.size ≤ b ∧ b < w.heap.size
  len : ws.length = n
  lt : ∀ x ∈ ws, x.id < n
  cnt : ∀ x ∈ ws, (cntL ws x.id : Int) ≤ x.id
  le : w0.heap.size ≤ w.heap.size
/-- A room out of which they are told. -/
structure FS (w0 w : World) (r : Nat) (q : List Qu) (n k : Nat) (met : Nat → Bool) (Z : Nat → Prop) (ws : List Wt) (at_ dn : Nat) : Prop where
  room : RoomIs w r Z q ws n at_ dn
  z0 : ∀ b, Z b → w0.heap.size ≤ b ∧ b < w.heap.size
  len : ws.length + k = n
  lt : ∀ x ∈ ws, x.id < n
  met : ∀ x ∈ ws, met x.id.toNat = false
  dnlt : (dn : Int) < (qget q at_).take
  fair : ∀ g, g < q.length → (qget q g).by_ = 0 → Fair q ws at_ dn k g
  le : w0.heap.size ≤ w.heap.size
section
variable {w0 w w' : World} {r n k : Nat} {q : List Qu} {Z : Nat → Prop} {ws : List Wt} {met : Nat → Bool} {at_ dn : Nat}
theorem AddS.below (h : AddS w0 w r q Z ws n) (hb : Below w.heap.size w w') : AddS w0 w' r q Z ws n :=
  ⟨h.room.below hb, fun b u => ⟨(h.z0 b u).1, Nat.lt_of_lt_of_le (h.z0 b u).2 hb.size⟩, h.len, h.lt, h.cnt, Nat.le_trans h.le hb.size⟩
theorem FS.below (h : FS w0 w r q n k met Z ws at_ dn) (hb : Below w.heap.size w w') : FS w0 w' r q n k met Z ws at_ dn :=
  ⟨h.room.below hb, fun b u => ⟨(h.z0 b u).1, Nat.lt_of_lt_of_le (h.z0 b u).2 hb.size⟩, h.len, h.lt, h.met, h.dnlt, h.fair, Nat.le_trans h.le hb.size⟩
theorem FS.chg {T : Nat → Prop} (h : FS w0 w r q n k met Z ws at_ dn) (hc : Chg T w w') (hT : ∀ b, Z b → ¬ T b) : FS w0 w' r q n k met Z ws at_ dn :=
  ⟨h.room.chg hc hT, fun b u => ⟨(h.z0 b u).1, Nat.lt_of_lt_of_le (h.z0 b u).2 hc.size⟩, h.len, h.lt, h.met, h.dnlt, h.fair, Nat.le_trans h.le hc.size⟩
theorem FS.start (h : AddS w0 w r q Z ws n) : FS w0 w r q n 0 (fun _ => false) Z ws 0 0 :=
  have ht := take_ok h.room.qs
  ⟨h.room, h.z0, by have := h.len; omega, h.lt, fun _ _ => rfl, by have := (ht 0 h.room.at_lt).1; omega, fun g hg _ => Fair.start ht hg h.cnt, h.le⟩
theorem fair_add (w : World) (h : AddS w0 w r q Z ws n) (hn : n < 60) (l : List Li) (goal : Bool) (a : Option Addr) (c : Nat) (hb : Below w0.heap.size w0 w) (hl : IsCl w0 l a c) (hlz : l.length ≤ 1048576) :
    Calls Try.prog 12 #[.pointer (some ⟨r, 0, none⟩), .int .i64 (n : Int), .slice a l.length c, .bool goal] w (Ret fun v w' => v = .int .i64 0 ∧ (∃ Z' ws', AddS w0 w' r q Z' ws' (n + 1)) ∧ Chg Z w w') := by
  refine (add_any (n : Int) l goal a c r Z q ws n 0 0 w h.room (fun w' hc => hl.below (chg_below hb hc (fun b hb u => by
    have := h.le
    rcases u with u | u
    · have := h.z0 b u; omega
    · omega))) hlz (by omega)).mono fun e w' ⟨v, e1, h1⟩ => ⟨v, e1, ?_⟩
  have ht : tmOf ws (n : Int) = 0 := tmOf_none (fun x hx e => by have := h.lt x hx; omega)
  rcases h1 with ⟨h1, _⟩ | ⟨h0, h1, rfl, h2, h3⟩
  · omega
  · have hle := h.le
    refine ⟨rfl, ⟨fun b => Z b ∨ (w.heap.size ≤ b ∧ b < w'.heap.size), _, h2.mono (fun b u v => u.imp id (fun u => ⟨u, v⟩)), fun b u => ?_, ?_, fun x hx => ?_, fun x hx => ?_, Nat.le_trans hle h3.size⟩, h3⟩
    · have := h3.size
      rcases u with u | u
      · have := h.z0 b u; omega
      · omega
    · rw [List.length_append, h.len]; rfl
    · rcases List.mem_append.1 hx with u | u
      · have := h.lt x u; omega
      · obtain rfl : x = ⟨(n : Int), n + 1, l, goal⟩ := by simpa using u
        show (n : Int) < ((n + 1 : Nat) : Int)
        omega
    · rw [cntL_app]
      rcases List.mem_append.1 hx with u | u
      · have h4 := h.cnt x u
        have h5 := h.lt x u
        rw [if_neg (by show ¬ (n : Int) < x.id; omega)]; omega
      · obtain rfl : x = ⟨(n : Int), n + 1, l, goal⟩ := by simpa using u
        have h4 := cntL_le ws (n : Int)
        have h5 := h.len
        show ((cntL ws (n : Int) + (if (n : Int) < (n : Int) then 1 else 0) : Nat) : Int) ≤ (n : Int)
        rw [if_neg (by omega)]; omega
theorem fair_next (w : World) (h : FS w0 w r q n k met Z ws at_ dn) (hk : k < n) (hn : n ≤ 60) :
    Calls Try.prog 13 #[.pointer (some ⟨r, 0, none⟩)] w (Ret fun v w' => ∃ m : Nat, v = .tuple #[.int .i64 (m : Int), .bool true] ∧ m < n ∧ met m = false ∧ (ageP q q.length = true → ((k + 1 : Nat) : Int) ≤ ((m : Int) + 2) * sumT q q.length) ∧
      (∃ Z' ws' at' dn', FS w0 w' r q n (k + 1) (fun i => if i = m then true else met i) Z' ws' at' dn' ∧ ∀ b, Z' b → Z b ∨ w.heap.size ≤ b) ∧ Chg Z w w') := by
  refine (next_any r Z q ws n at_ dn w h.room (by omega)).mono fun e w' ⟨v, e1, h1⟩ => ⟨v, e1, ?_⟩
  have hlen := h.len
  have ht := take_ok h.room.qs
  have hat := h.room.at_lt
  rcases h1 with ⟨h1, _⟩ | ⟨x, hx, hm, rfl, h2, h3⟩
  · rw [h1] at hlen; simp at hlen; omega
  · have hp := h.room.ok.pos x hx
    have hxl := h.lt x hx
    obtain ⟨m, hme⟩ : ∃ m : Nat, x.id = (m : Int) := ⟨x.id.toNat, by omega⟩
    have hmet := h.met x hx
    rw [hme, Int.toNat_natCast] at hmet
    have hle := h.le
    have hdl := dropW_len (n := x.id) h.room.ok.nd hx rfl
    have htk := tick_ok ht hat h.dnlt
    refine ⟨m, by rw [hme], by omega, hmet, fun ha => ?_, ⟨fun b => Z b ∨ (w.heap.size ≤ b ∧ b < w'.heap.size), _, _, _, ⟨h2.mono (fun b u v => u.imp id (fun u => ⟨u, v⟩)), fun b u => ?_, by omega, fun y hy => h.lt y (mem_dropW.1 hy).1, fun y hy => ?_, htk.2.1, fun g hg hb => (h.fair g hg hb).step ht h.room.ok.nd hat h.dnlt hg hb hx hm, Nat.le_trans hle h3.size⟩, fun b u => u.imp id (fun u => u.1)⟩, h3⟩
    · obtain ⟨g, hg, hb⟩ := ageP_some ha
      have := (h.fair g hg hb).told ht hat h.dnlt hg hx
      rw [hme] at this; exact this
    · have := h3.size
      rcases u with u | u
      · have := h.z0 b u; omega
      · omega
    · obtain ⟨h4, h5⟩ := mem_dropW.1 hy
      have h6 := (h.room.ok.pos y h4).1
      have h7 := h.met y h4
      show (if y.id.toNat = m then true else met y.id.toNat) = false
      rw [if_neg (by omega)]; exact h7
theorem fair_end (w : World) (h : FS w0 w r q n n met Z ws at_ dn) (hn : n ≤ 60) : Calls Try.prog 13 #[.pointer (some ⟨r, 0, none⟩)] w (Ret fun v' w' => v' = .tuple #[.int .i64 0, .bool false] ∧ Below w.heap.size w w') := by
  obtain rfl : ws = [] := List.eq_nil_of_length_eq_zero (by have := h.len; omega)
  exact next_end w h.room (by omega)
end
end Go.Proofs.Ytjhkoiggeepajaa
