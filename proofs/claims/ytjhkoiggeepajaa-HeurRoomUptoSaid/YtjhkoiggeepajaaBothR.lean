/- Both rooms at once: the program's and the document's. -/
import Derived.Test.YtjhkoiggeepajaaHRef2
namespace Go.Proofs.Ytjhkoiggeepajaa
open Go.RowKit Go
set_option linter.unusedVariables false
set_option linter.unusedSimpArgs false

/-- What is done in a room. -/
structure Ac where
  kind : Int
  id : Int
  l : List Li
  goal : Bool
instance : Inhabited Ac := ⟨⟨0, 0, [], false⟩⟩
def acget (l : List Ac) (k : Nat) : Ac := l.getD k default
theorem acget_lt {l : List Ac} {k : Nat} (h : k < l.length) : acget l k = l[k] := by simp [acget, h]
/-- A row of acts. -/
def IsAcs (w : World) (l : List Ac) (a : Option Addr) : Prop := ∃ (b o : Nat) (A : Nat → Option Addr) (C : Nat → Nat), (∀ k, k < l.length → a = some ⟨b, o, none⟩) ∧ ∀ k, k < l.length → w.cell? ⟨b, o + k * 4, none⟩ = some (.int .i64 (acget l k).kind) ∧ w.cell? ⟨b, o + k * 4 + 1, none⟩ = some (.int .i64 (acget l k).id) ∧
  w.cell? ⟨b, o + k * 4 + 2, none⟩ = some (.slice (A k) (acget l k).l.length (C k)) ∧ w.cell? ⟨b, o + k * 4 + 3, none⟩ = some (.bool (acget l k).goal) ∧ IsCl w (acget l k).l (A k) (C k) ∧ (acget l k).l.length ≤ 1048576
/-- The two rooms: apart from one another and from what was there before. -/
structure BothX (w0 w : World) (r z : Nat) (q : List Qu) (qa : Option Addr) (qc : Nat) (Z Y : Nat → Prop) (ws : List Wt) (tm at_ dn : Nat) (L : List RI) (at' dn' : Nat) : Prop where
  room : RoomIs w r Z q ws tm at_ dn
  ref : RefIs w z Y q qa qc L at' dn'
  z0 : ∀ b, Z b → w0.heap.size ≤ b ∧ b < w.heap.size
  y0 : ∀ b, Y b → w0.heap.size ≤ b ∧ b < w.heap.size
  zy : ∀ b, Z b → ¬ Y b
  cl : ∀ k, k < L.length → IsCl w0 (rget L k).l (rget L k).a (rget L k).c ∧ (rget L k).l.length ≤ 1048576
  le : w0.heap.size ≤ w.heap.size
section
variable {w0 w w' : World} {r z : Nat} {q : List Qu} {qa : Option Addr} {qc : Nat} {Z Y : Nat → Prop} {ws ws' : List Wt} {tm at_ dn tm' at1 dn1 : Nat} {L L' : List RI} {at' dn' at2 dn2 : Nat}
theorem BothX.below (h : BothX w0 w r z q qa qc Z Y ws tm at_ dn L at' dn') (hb : Below w.heap.size w w') : BothX w0 w' r z q qa qc Z Y ws tm at_ dn L at' dn' :=
  ⟨h.room.below hb, h.ref.below hb, fun b hz => ⟨(h.z0 b hz).1, Nat.lt_of_lt_of_le (h.z0 b hz).2 hb.size⟩, fun b hz => ⟨(h.y0 b hz).1, Nat.lt_of_lt_of_le (h.y0 b hz).2 hb.size⟩, h.zy, h.cl, Nat.le_trans h.le hb.size⟩
def ZN (Z : Nat → Prop) (m n : Nat) : Nat → Prop := fun b => Z b ∨ (m ≤ b ∧ b < n)
/-- The program's room has moved on. -/
theorem BothX.stepA (h : BothX w0 w r z q qa qc Z Y ws tm at_ dn L at' dn') (hR : RoomIs w' r (fun b => Z b ∨ w.heap.size ≤ b) q ws' tm' at1 dn1) (hc : Chg Z w w') : BothX w0 w' r z q qa qc (ZN Z w.heap.size w'.heap.size) Y ws' tm' at1 dn1 L at' dn' :=
  ⟨hR.mono (fun b u v => u.imp id (fun u => ⟨u, v⟩)), h.ref.chg hc (fun b hY hZ => h.zy b hZ hY), fun b u => by
    have := hc.size; have := h.le
    rcases u with u | u
    · have := h.z0 b u; omega
    · omega, fun b u => by have := hc.size; have := h.y0 b u; omega, fun b u hY => by
    have := h.y0 b hY
    rcases u with u | u
    · exact h.zy b u hY
    · omega, h.cl, Nat.le_trans h.le hc.size⟩
/-- The document's room has moved on. -/
theorem BothX.stepB (h : BothX w0 w r z q qa qc Z Y ws tm at_ dn L at' dn') (hR : RefIs w' z (fun b => Y b ∨ w.heap.size ≤ b) q qa qc L' at2 dn2) (hc : Chg Y w w') (hcl : ∀ k, k < L'.length → IsCl w0 (rget L' k).l (rget L' k).a (rget L' k).c ∧ (rget L' k).l.length ≤ 1048576) : BothX w0 w' r z q qa qc Z (ZN Y w.heap.size w'.heap.size) ws tm at_ dn L' at2 dn2 :=
  ⟨h.room.chg hc (fun b hZ hY => h.zy b hZ hY), hR.mono (fun b u v => u.imp id (fun u => ⟨u, v⟩)), fun b u => by have := hc.size; have := h.z0 b u; omega, fun b u => by
    have := hc.size; have := h.le
    rcases u with u | u
    · have := h.y0 b u; omega
    · omega, fun b hZ u => by
    have := h.z0 b hZ
    rcases u with u | u
    · exact h.zy b hZ u
    · omega, hcl, Nat.le_trans h.le hc.size⟩
def addE (ws : List Wt) (n : Int) : Int := if n < 0 ∨ tmOf ws n ≠ 0 then 2 else 0
def addW (ws : List Wt) (n : Int) (tm : Nat) (l : List Li) (goal : Bool) : List Wt := if n < 0 ∨ tmOf ws n ≠ 0 then ws else ws ++ [⟨n, tm + 1, l, goal⟩]
def addT (ws : List Wt) (n : Int) (tm : Nat) : Nat := if n < 0 ∨ tmOf ws n ≠ 0 then tm else tm + 1
def addR (ws : List Wt) (L : List RI) (n : Int) (l : List Li) (a : Option Addr) (c : Nat) (goal : Bool) : List RI := if n < 0 ∨ tmOf ws n ≠ 0 then L else L ++ [⟨n, l, a, c, goal⟩]
theorem addT_le (ws : List Wt) (n : Int) (tm : Nat) : addT ws n tm ≤ tm + 1 := by unfold addT; split <;> omega
theorem addR_le (ws : List Wt) (L : List RI) (n : Int) (l : List Li) (a : Option Addr) (c : Nat) (goal : Bool) : (addR ws L n l a c goal).length ≤ L.length + 1 := by unfold addR; split <;> simp
theorem Alike.added (h : Alike ws L) (n : Int) (tm : Nat) (l : List Li) (goal : Bool) (a : Option Addr) (c : Nat) : Alike (addW ws n tm l goal) (addR ws L n l a c goal) := by
  unfold addW addR
  split
  · exact h
  · exact h.add n (tm + 1) l goal a c
theorem rget_app {L : List RI} {x : RI} {k : Nat} (hk : k < (L ++ [x]).length) : (k < L.length ∧ rget (L ++ [x]) k = rget L k) ∨ rget (L ++ [x]) k = x := by
  rcases Nat.lt_or_ge k L.length with e | e
  · exact .inl ⟨e, by simp [rget, List.getElem?_append_left e]⟩
  · simp at hk
    obtain rfl : k = L.length := by omega
    exact .inr (by simp [rget])
theorem mem_dropR {n : Int} {x : RI} : x ∈ dropR L n → x ∈ L := fun h => (List.mem_filter.1 h).1
theorem cl_mem {P : RI → Prop} (h : ∀ k, k < L.length → P (rget L k)) : ∀ x ∈ L, P x := fun x hx => by
  obtain ⟨j, hj, rfl⟩ := List.getElem_of_mem hx
  rw [← rget_lt hj]; exact h j hj
theorem both_addA (w : World) (h : BothX w0 w r z q qa qc Z Y ws tm at_ dn L at' dn') (n : Int) (l : List Li) (goal : Bool) (a : Option Addr) (c : Nat) (hb : Below w0.heap.size w0 w) (hl : IsCl w0 l a c) (hlz : l.length ≤ 1048576) (htm : tm < 1000000) :
    Calls Try.prog 12 #[.pointer (some ⟨r, 0, none⟩), .int .i64 n, .slice a l.length c, .bool goal] w (Ret fun v w' => v = .int .i64 (addE ws n) ∧ (∃ Z', BothX w0 w' r z q qa qc Z' Y (addW ws n tm l goal) (addT ws n tm) at_ dn L at' dn') ∧ Chg Z w w') := by
  refine (add_any n l goal a c r Z q ws tm at_ dn w h.room (fun w' hc => hl.below (chg_below hb hc (fun b hb u => by
    have := h.le
    rcases u with u | u
    · have := h.z0 b u; omega
    · omega))) hlz htm).mono fun e w' ⟨v, e1, h1⟩ => ⟨v, e1, ?_⟩
  unfold addE addW addT
  rcases h1 with ⟨h1, rfl, h2⟩ | ⟨h0, h1, rfl, h2, h3⟩
  · rw [if_pos h1, if_pos h1, if_pos h1]
    exact ⟨rfl, ⟨Z, h.below h2⟩, .ofBelow h2⟩
  · rw [if_neg (by omega), if_neg (by omega), if_neg (by omega)]
    exact ⟨rfl, ⟨_, h.stepA h2 h3⟩, h3⟩
theorem both_addB (w : World) (h : BothX w0 w r z q qa qc Z Y ws' tm' at_ dn L at' dn') (hA : Alike ws L) (hw : WsOk ws tm) (n : Int) (l : List Li) (goal : Bool) (a : Option Addr) (c : Nat) (hl : IsCl w0 l a c) (hlz : l.length ≤ 1048576) (hLz : L.length ≤ 1000000) :
    Calls Try.prog 15 #[.pointer (some ⟨z, 0, none⟩), .int .i64 n, .slice a l.length c, .bool goal] w (Ret fun v w' => v = .int .i64 (addE ws n) ∧ (∃ Y', BothX w0 w' r z q qa qc Z Y' ws' tm' at_ dn (addR ws L n l a c goal) at' dn') ∧ Chg Y w w') := by
  refine (radd_any n l a c goal z Y q qa qc L at' dn' w h.ref (by omega)).mono fun e w' ⟨v, e1, h1⟩ => ⟨v, e1, ?_⟩
  have ht := tmOf_any hw hA (n := n)
  unfold addE addR
  rcases h1 with ⟨h1, rfl, h2⟩ | ⟨h0, h1, rfl, h2, h3⟩
  · have hc : n < 0 ∨ tmOf ws n ≠ 0 := h1.imp id (fun ⟨k, hk, e⟩ e0 => ht.1 e0 k hk e)
    rw [if_pos hc, if_pos hc]
    exact ⟨rfl, ⟨Y, h.below h2⟩, .ofBelow h2⟩
  · have h1' := ht.2 h1
    rw [if_neg (by omega), if_neg (by omega)]
    refine ⟨rfl, ⟨_, h.stepB h2 h3 (fun k hk => ?_)⟩, h3⟩
    rcases rget_app hk with ⟨e, e2⟩ | e2
    · rw [e2]; exact h.cl k e
    · rw [e2]; exact ⟨hl, hlz⟩
theorem both_dropA (w : World) (h : BothX w0 w r z q qa qc Z Y ws tm at_ dn L at' dn') (n : Int) :
    Calls Try.prog 16 #[.pointer (some ⟨r, 0, none⟩), .int .i64 n] w (Ret fun v w' => v = .bool (decide (tmOf ws n ≠ 0)) ∧ (∃ Z', BothX w0 w' r z q qa qc Z' Y (dropW ws n) tm at_ dn L at' dn') ∧ Chg Z w w') := by
  refine (drop_any n r Z q ws tm at_ dn w h.room).mono fun e w' ⟨v, e1, h1⟩ => ⟨v, e1, ?_⟩
  rcases h1 with ⟨h1, rfl, h2⟩ | ⟨h1, rfl, h2, h3⟩
  · rw [dropW_none (h.room.ok.none h1)]
    exact ⟨by simp [h1], ⟨Z, h.below h2⟩, .ofBelow h2⟩
  · exact ⟨by simp [h1], ⟨_, h.stepA (h2.mono (fun b u _ => .inl u)) h3⟩, h3⟩
theorem both_dropB (w : World) (h : BothX w0 w r z q qa qc Z Y ws' tm' at_ dn L at' dn') (hA : Alike ws L) (hw : WsOk ws tm) (n : Int) (hLz : L.length ≤ 1000000) :
    Calls Try.prog 17 #[.pointer (some ⟨z, 0, none⟩), .int .i64 n] w (Ret fun v w' => v = .bool (decide (tmOf ws n ≠ 0)) ∧ (∃ Y', BothX w0 w' r z q qa qc Z Y' ws' tm' at_ dn (dropR L n) at' dn') ∧ Chg Y w w') := by
  refine (rdrop_any n z Y q qa qc L at' dn' w h.ref (by omega)).mono fun e w' ⟨v, e1, h1, h2, h3⟩ => ⟨v, e1, ?_⟩
  have ht := tmOf_any hw hA (n := n)
  refine ⟨?_, ⟨_, h.stepB h2 h3 (fun k hk => cl_mem (P := fun x => IsCl w0 x.l x.a x.c ∧ x.l.length ≤ 1048576) h.cl _ (mem_dropR (rget_mem hk)))⟩, h3⟩
  rw [h1]
  congr 1
  rw [decide_eq_decide]
  have hd := dropR_lt (L := L) (n := n)
  constructor
  · intro u e0
    obtain ⟨k, hk, e2⟩ := hd.1 (by omega)
    exact ht.1 e0 k hk e2
  · intro u
    have : ∃ k, k < L.length ∧ (rget L k).id = n := by
      by_cases he : ∃ k, k < L.length ∧ (rget L k).id = n
      · exact he
      · exact absurd (ht.2 (fun k hk e => he ⟨k, hk, e⟩)) u
    have := hd.2 this
    omega
/-- What the next one is. -/
def NextI (b : Int) (ws : List Wt) (id : Int) (ok : Bool) : Prop := (ws = [] ∧ id = 0 ∧ ok = false) ∨ (∃ x ∈ ws, (∀ x' ∈ ws, (itemOf b x).le (itemOf b x')) ∧ id = x.id ∧ ok = true)
theorem both_nextA (w : World) (h : BothX w0 w r z q qa qc Z Y ws tm at_ dn L at' dn') (htm : tm < 1000000) :
    Calls Try.prog 13 #[.pointer (some ⟨r, 0, none⟩)] w (Ret fun v w' => ∃ id ok, v = .tuple #[.int .i64 id, .bool ok] ∧ NextI (qget q at_).by_ ws id ok ∧ (∃ Z', BothX w0 w' r z q qa qc Z' Y (if ok = true then dropW ws id else ws) tm (if ok = true then (tick q at_ dn).1 else at_) (if ok = true then (tick q at_ dn).2 else dn) L at' dn') ∧ Chg Z w w') := by
  refine (next_any r Z q ws tm at_ dn w h.room (by omega)).mono fun e w' ⟨v, e1, h1⟩ => ⟨v, e1, ?_⟩
  rcases h1 with ⟨h1, rfl, h2⟩ | ⟨x, hx, hm, rfl, h2, h3⟩
  · exact ⟨0, false, rfl, .inl ⟨h1, rfl, rfl⟩, ⟨Z, h.below h2⟩, .ofBelow h2⟩
  · exact ⟨x.id, true, rfl, .inr ⟨x, hx, hm, rfl, rfl⟩, ⟨_, h.stepA h2 h3⟩, h3⟩
theorem both_nextB (w : World) (h : BothX w0 w r z q qa qc Z Y ws' tm' at1 dn1 L at_ dn) (hA : Alike ws L) (hb : Below w0.heap.size w0 w) (hq : IsQs w0 q qa) (hat : at_ < q.length) (hdn : dn < 1000) (hLz : L.length ≤ 1000000) {id : Int} {ok : Bool} (hN : NextI (qget q at_).by_ ws id ok) :
    Calls Try.prog 18 #[.pointer (some ⟨z, 0, none⟩)] w (Ret fun v w' => v = .tuple #[.int .i64 id, .bool ok] ∧ (∃ Y', BothX w0 w' r z q qa qc Z Y' ws' tm' at1 dn1 (if ok = true then dropR L id else L) (if ok = true then (tick q at_ dn).1 else at_) (if ok = true then (tick q at_ dn).2 else dn)) ∧ Chg Y w w') := by
  refine (rnext_any w0 z Y q qa qc L at_ dn w h.ref (by omega) hb (fun b u => (h.y0 b u).1) hq h.room.qs hat hdn h.cl).mono fun e w' ⟨v, e1, h1⟩ => ⟨v, e1, ?_⟩
  rcases h1 with ⟨h1, rfl, h2⟩ | ⟨k, hk, rfl, h2, h3⟩
  · rcases hN with ⟨_, rfl, rfl⟩ | ⟨x, hx, _⟩
    · exact ⟨rfl, ⟨Y, h.below h2⟩, .ofBelow h2⟩
    · obtain ⟨j, hj, _⟩ := hA.mem' hx
      rw [h1] at hj; simp at hj
  · rcases hN with ⟨e, _⟩ | ⟨x, hx, hm, rfl, rfl⟩
    · have e2 := hA.len
      rw [e, List.length_nil] at e2
      have := hk.1; omega
    · have e := hA.same hx hm hk
      rw [e] at h2 ⊢
      exact ⟨rfl, ⟨_, h.stepB h2 h3 (fun j hj => cl_mem (P := fun x => IsCl w0 x.l x.a x.c ∧ x.l.length ≤ 1048576) h.cl _ (mem_dropR (rget_mem hj)))⟩, h3⟩
theorem Alike.nexted (hA : Alike ws L) (id : Int) (ok : Bool) : Alike (if ok = true then dropW ws id else ws) (if ok = true then dropR L id else L) := by
  split
  · exact hA.drop
  · exact hA
end
end Go.Proofs.Ytjhkoiggeepajaa
