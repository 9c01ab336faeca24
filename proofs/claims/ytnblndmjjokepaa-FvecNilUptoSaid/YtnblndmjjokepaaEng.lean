/- What printed walks lean on. -/
import Derived.Test.YtnblndmjjokepaaWalk
import Derived.Test.YtnblndmjjokepaaBlk
import Derived.Maps.AppendAt
namespace Go.Proofs.Ytnblndmjjokepaa
open Go.RowKit Go

theorem tdiv2 (n : Nat) : ((n : Int).tdiv 2) = ((n / 2 : Nat) : Int) := rfl
theorem wrap_eq {e r : Int} (h : e = r) (h0 : -9223372036854775808 ≤ r) (h1 : r ≤ 9223372036854775807) : IntKind.i64.wrap e = r := by
  subst h; exact IntWalk.i64_in _ (by omega)

/-- A byte of a text. -/
def bget (s : ByteArray) (k : Nat) : Int := ((s.data.toList.getD k 0).toNat : Int)
theorem bget_lt {s : ByteArray} {k : Nat} (h : k < s.size) : bget s k = (s[k].toNat : Int) := by
  have h' : k < s.data.size := h
  have : s[k] = s.data[k] := rfl
  rw [this]
  unfold bget
  rw [List.getD_eq_getElem?_getD, Array.getElem?_toList, Array.getElem?_eq_getElem h']
  rfl
theorem bytes_eq (m n : ByteArray) : (m.toList == n.toList) = decide (m = n) := by
  rw [Bool.eq_iff_iff, beq_iff_eq, decide_eq_true_eq]
  refine ⟨fun h => ?_, fun h => by rw [h]⟩
  rw [ByteArray.toList_eq, ByteArray.toList_eq] at h
  exact ByteArray.ext (Array.toList_inj.1 h)

/-- A new block. -/
def NewBlk (w : World) (t : TypeId) (cs : Array Value) (v : Value) (w' : World) : Prop :=
  ∃ g, v = .pointer (some ⟨g, 0, none⟩) ∧ w.heap.size = g ∧ Blk w' g t cs ∧ Below w.heap.size w w' ∧ w'.heap.size = g + 1
theorem newBlk (w : World) (t : TypeId) (cs : Array Value) : NewBlk w t cs (.pointer (some ⟨w.heap.size, 0, none⟩)) (w.alloc (.cells cs t)) :=
  ⟨_, rfl, rfl, Blk.new' rfl, balloc _ _, by simp⟩
/-- A new row. -/
def NewRow (w : World) (t : TypeId) (cs : Array Value) (n : Nat) (v : Value) (w' : World) : Prop :=
  ∃ g, v = .slice (some ⟨g, 0, none⟩) n n ∧ w.heap.size = g ∧ Blk w' g t cs ∧ Below w.heap.size w w' ∧ w'.heap.size = g + 1
theorem newRow (w : World) (t : TypeId) (cs : Array Value) (n : Nat) : NewRow w t cs n (.slice (some ⟨w.heap.size, 0, none⟩) n n) (w.alloc (.cells cs t)) :=
  ⟨_, rfl, rfl, Blk.new' rfl, balloc _ _, by simp⟩

/-- One block may have been written. -/
structure Upd (g : Nat) (w w' : World) : Prop where
  os : w'.os = w.os
  tape : w'.tape = w.tape
  output : w'.output = w.output
  size : w'.heap.size = w.heap.size
  block : ∀ k, k ≠ g → w'.heap[k]? = w.heap[k]?
theorem Upd.set (w : World) (p : Addr) (v : Value) : Upd p.block w (w.setCell p v) := ⟨rfl, rfl, rfl, by simp [World.setCell], fun _ hk => Below.heap_setCell _ _ _ _ hk⟩
theorem Upd.at_ (w : World) (g i : Nat) (v : Value) : Upd g w (w.setCell ⟨g, i, none⟩ v) := Upd.set w ⟨g, i, none⟩ v
theorem Upd.trans {g : Nat} {a b c : World} (h : Upd g a b) (k : Upd g b c) : Upd g a c :=
  ⟨k.os.trans h.os, k.tape.trans h.tape, k.output.trans h.output, k.size.trans h.size, fun i hi => (k.block i hi).trans (h.block i hi)⟩
theorem upd_below {g : Nat} {w0 w w' : World} (h : Below w0.heap.size w0 w) (hu : Upd g w w') (hg : w0.heap.size ≤ g) : Below w0.heap.size w0 w' :=
  h.trans ⟨hu.os, hu.tape, hu.output, Nat.le_of_eq hu.size.symm, fun k hk => hu.block k (by omega)⟩
theorem upd_blk {g b : Nat} {t : TypeId} {cs : Array Value} {w w' : World} (h : Blk w b t cs) (hu : Upd g w w') (hne : b ≠ g) : Blk w' b t cs := (hu.block b hne).trans h

/-- The address of a slice's slice. -/
def slA (r : Option Addr) (k size c : Nat) : Option Addr := if c = k then r else r.map (·.add (k * size))
theorem slA_some {b o k size c : Nat} (h : k < c) : slA (some ⟨b, o, none⟩) k size c = some ⟨b, o + k * size, none⟩ := by
  unfold slA
  rw [if_neg (by omega), Option.map_some, add_plain2]

/-- It returns. -/
abbrev Ret (Post : Value → World → Prop) : Ending → World → Prop := fun e w' => ∃ v, e = .returned v ∧ Post v w'
theorem ret_of {P : Program} {F : FuncId} {vs : Array Value} {w : World} {v : Value} (h : Calls P F vs w fun e w' => e = .returned v ∧ Below w.heap.size w w') :
    Calls P F vs w (Ret fun v' w' => v' = v ∧ Below w.heap.size w w') := h.mono (by rintro e w' ⟨rfl, hb⟩; exact ⟨_, rfl, rfl, hb⟩)

section
variable {P : Program} {n : Fr} {K : Known} {w : World} {ops : Array Oper} {o : Oper} {rest : List Oper} {Q : Exit → Act → World → Prop}
theorem WL.call {d : Option Nat} {F : FuncId} {vs : Array Value} {Post : Value → World → Prop} (hd : o.dst = d) (hlt : dstB n.n d = true) (hg : o.guard = none)
    (h : ∀ a, Kn n K a → ∀ C : Act → World → Prop, Calls P F vs w (Ret Post) → (∀ v w', Post v w' → C (a.put o.dst v) w') → o.wp P a w C Q)
    (hc : Calls P F vs w (Ret Post)) (k : ∀ v w', Post v w' → WL P ops n (putK K d v) w' rest Q) : WL P ops n K w (o :: rest) Q :=
  WL.step hd hlt hg (fun a C ha hC => h a ha C hc hC) k

theorem hv4 {g : Operand → Value} {x y z x4 : Operand} {u v r v4 : Value} (h1 : g x = u) (h2 : g y = v) (h3 : g z = r) (h4 : g x4 = v4) : #[x, y, z, x4].map g = #[u, v, r, v4] := by simp [h1, h2, h3, h4]
theorem hv5 {g : Operand → Value} {x y z x4 x5 : Operand} {u v r v4 v5 : Value} (h1 : g x = u) (h2 : g y = v) (h3 : g z = r) (h4 : g x4 = v4) (h5 : g x5 = v5) : #[x, y, z, x4, x5].map g = #[u, v, r, v4, v5] := by simp [h1, h2, h3, h4, h5]

variable {a : Act} {C : Act → World → Prop}
theorem mkfn {fn : Fn} {xs ys : Array Operand} {us vs : Array Value} (ho : o.op = .makeFunc fn xs ys) (hx : xs.map a.eval = us) (hy : ys.map a.eval = vs) (hK : C (a.put o.dst (.func fn us vs)) w) : o.wp P a w C Q := by
  unfold Oper.wp execOp
  simp only [ho, hx, hy]
  go_simp
  exact hK
theorem wp_callv {F : FuncId} {f : Operand} {xs : Array Operand} {tys : Array TypeId} {us first cap : Array Value} {R : Value → World → Prop} (hF : callB P F = true) (ho : o.op = .call { callee := .value f, args := xs, argTypes := tys }) (hf : a.eval f = .func (.func F) first cap) (hv : xs.map a.eval = us)
    (h : Calls P F (first ++ us ++ cap) w fun e w' => ∃ v, e = .returned v ∧ R v w') (hK : ∀ v w', R v w' → C (a.put o.dst v) w') : o.wp P a w C Q := by
  unfold callB at hF
  split at hF
  · rename_i fn hfn
    simp only [Bool.and_eq_true, Bool.not_eq_true'] at hF
    have hp : (Sem.run P program w) = .ok P w := rfl
    unfold Oper.wp execOp
    simp only [ho, resolve, hv, hf, Deferred.ofValue, invoke, callFunc, Sem.run_bind, Sem.run_pure, Result.andThen_ok, hp, hfn, hF.1, hF.2, Bool.false_eq_true, if_false]
    refine h.mono ?_
    rintro e w' ⟨v, rfl, hR⟩
    exact hK v w' hR
  · simp at hF
end

/-! ### Rows of the call's own, appended to -/

/-- What is appended: the cells of a slice. -/
def SrcIs (w : World) (x : Value) (m : Nat) (news : List Value) : Prop :=
  (∃ ad c, x = .slice (some ad) m c ∧ ∀ j u, news[j]? = some u → w.cell? (ad.add j) = some u) ∨ (∃ c, x = .slice none 0 c ∧ m = 0 ∧ news = [])

theorem SrcIs.ofBlk {w : World} {g : Nat} {t : TypeId} {cs : List Value} {m c : Nat} (h : Blk w g t cs.toArray) : SrcIs w (.slice (some ⟨g, 0, none⟩) m c) m cs := by
  refine .inl ⟨_, _, rfl, fun j u hj => ?_⟩
  rw [add_plain2, Nat.zero_add, h.cell]
  simpa using hj

/-- What an append leaves. -/
structure Grown (w : World) (base : Nat) (e : TypeId) (size : Nat) (v : Value) (n : Nat) (xs : List Value) (ra : Option Addr) (rc : Nat) (w' : World) : Prop where
  own : w'.ownsRow base e size (.slice ra n rc) n xs
  grow : w.grownBy w' v.ownBlock
  at_ : (Value.slice ra n rc).ownBlock = v.ownBlock ∨ (Value.slice ra n rc).ownBlock = some w.heap.size

theorem ownsRow_form {w : World} {base : Nat} {e : TypeId} {size : Nat} {v : Value} {n : Nat} {xs : List Value} (h : w.ownsRow base e size v n xs) : ∃ ra rc, v = .slice ra n rc := by
  rcases h.2 with ⟨rfl, rfl⟩ | ⟨g, cap, cur, rfl, _⟩
  · exact ⟨_, _, rfl⟩
  · exact ⟨_, _, rfl⟩

section
variable {P : Program} {w : World} {a : Act} {K : Act → World → Prop} {Q : Exit → Act → World → Prop} {o : Oper}
theorem wp_app {s x : Operand} {t e : TypeId} {z : Value} {size bytes base n m : Nat} {v y : Value} {xs news : List Value} (ht : P.underlying t = some (.slice e)) (hinfo : (P.info? e).map (fun i => (i.zero, i.size, i.bytes)) = some (some z, size, bytes)) (hzs : z.cells.size = size) (hsz : 0 < size)
    (ho : o.op = .call { callee := .builtin .append, args := #[s, x], argTypes := #[t, t] }) (hs : a.eval s = v) (hx : a.eval x = y) (hown : w.ownsRow base e size v n xs) (hsrc : SrcIs w y m news) (hl : news.length = m * size) (h1 : ∀ u ∈ news, u.oneCell' = true)
    (hb : (n + m) * bytes ≤ 140737488355328) (hn : n + m ≤ 9223372036854775807) (hbase : base ≤ w.heap.size) (hK : ∀ ra rc w', Grown w base e size v (n + m) (xs ++ news) ra rc w' → K (a.put o.dst (.slice ra (n + m) rc)) w') : o.wp P a w K Q := by
  obtain ⟨i, hi, hz0, hz1, hz2⟩ := info_parts hinfo
  rcases hsrc with ⟨ad, c, rfl, hnews⟩ | ⟨c, rfl, rfl, rfl⟩
  · obtain ⟨v', w', hr, h2, h3, h4, h5⟩ := run_append_own_at (P := P) w base t o.type e i z size bytes ht hi hz0 hz1 hz2 hzs hsz v n xs hown ad m c news hl hnews h1 (by unfold maxLen; omega) hb hbase
    obtain ⟨ra, rc, rfl⟩ := ownsRow_form h2
    unfold Oper.wp execOp
    simp only [ho, resolve, invoke, builtin, Sem.run_bind, Sem.run_pure, Result.andThen_ok, List.map_toArray, List.map_cons, List.map_nil, hs, hx, hr]
    exact hK _ _ _ ⟨h2, h3, h5⟩
  · obtain ⟨ra, rc, rfl⟩ := ownsRow_form hown
    have hcap : n ≤ rc := by
      rcases hown.2 with ⟨e, h⟩ | ⟨_, _, _, e, _, _, h, _⟩
      · omega
      · simp only [Value.slice.injEq] at e; omega
    have hr : (Builtin.append_ #[t, t] o.type #[.slice ra n rc, .slice none 0 c]).run P w = .ok (.slice ra n rc) w := by
      cases ra <;> simp [Builtin.append_, run_underlying ht, sizeOf, typeInfo, hi, Builtin.lenOf, Builtin.firstCells, hcap, storeCells]
    unfold Oper.wp execOp
    simp only [ho, resolve, invoke, builtin, Sem.run_bind, Sem.run_pure, Result.andThen_ok, List.map_toArray, List.map_cons, List.map_nil, hs, hx, hr]
    exact hK _ _ _ ⟨by simpa using hown, ⟨rfl, rfl, rfl, Nat.le_refl _, fun _ _ _ => rfl⟩, .inl rfl⟩
end

/-- Blocks that 'S' holds of may have been written. -/
structure Chg (S : Nat → Prop) (w w' : World) : Prop where
  os : w'.os = w.os
  tape : w'.tape = w.tape
  output : w'.output = w.output
  size : w.heap.size ≤ w'.heap.size
  block : ∀ k, k < w.heap.size → ¬ S k → w'.heap[k]? = w.heap[k]?
theorem chg_below {S : Nat → Prop} {w0 w w' : World} (h : Below w0.heap.size w0 w) (k : Chg S w w') (hS : ∀ b, b < w0.heap.size → ¬ S b) : Below w0.heap.size w0 w' :=
  h.trans ⟨k.os, k.tape, k.output, k.size, fun b hb => k.block b (Nat.lt_of_lt_of_le hb h.size) (hS b hb)⟩
theorem chg_blk {S : Nat → Prop} {b : Nat} {t : TypeId} {cs : Array Value} {w w' : World} (h : Blk w b t cs) (k : Chg S w w') (hS : ¬ S b) : Blk w' b t cs := (k.block b h.lt hS).trans h

/-- A row of the call's own, in a block that 'S' holds of. -/
def Own (w : World) (S : Nat → Prop) (e : TypeId) (size : Nat) (ra : Option Addr) (rc n : Nat) (xs : List Value) : Prop :=
  w.ownsRow 0 e size (.slice ra n rc) n xs ∧ ∀ b, (Value.slice ra n rc).ownBlock = some b → S b
section
variable {w w' : World} {S S' : Nat → Prop} {e : TypeId} {size : Nat} {ra : Option Addr} {rc n g : Nat} {xs : List Value}
theorem own_nil : Own w S e size none 0 0 [] := ⟨World.ownsRow_nil _ _ _ _, fun b h => by cases h⟩
theorem Own.lt (h : Own w S e size ra rc n xs) : ∀ b, (Value.slice ra n rc).ownBlock = some b → S b ∧ b < w.heap.size := fun b hb => ⟨h.2 b hb, (h.1.lt b hb).2⟩
theorem Own.of {base : Nat} (h : w.ownsRow base e size (.slice ra n rc) n xs) : Own w (fun b => base ≤ b) e size ra rc n xs := by
  refine ⟨⟨h.1, h.2.imp id ?_⟩, fun b hb => (h.lt b hb).1⟩
  rintro ⟨g, cap, cur, e1, _, r⟩
  exact ⟨g, cap, cur, e1, Nat.zero_le _, r⟩
theorem Own.to {base : Nat} (h : Own w S e size ra rc n xs) (hS : ∀ b, S b → base ≤ b) : w.ownsRow base e size (.slice ra n rc) n xs := by
  refine ⟨h.1.1, h.1.2.imp id ?_⟩
  rintro ⟨g, cap, cur, e1, _, r⟩
  exact ⟨g, cap, cur, e1, hS g (h.2 g (by rw [e1]; rfl)), r⟩
theorem Own.mono (h : Own w S e size ra rc n xs) (hS : ∀ b, S b → b < w.heap.size → S' b) : Own w S' e size ra rc n xs := ⟨h.1, fun b hb => hS b (h.2 b hb) (h.1.lt b hb).2⟩
theorem own_keep (h : Own w S e size ra rc n xs) (hb : ∀ b, S b → b < w.heap.size → w'.heap[b]? = w.heap[b]?) : Own w' S e size ra rc n xs := by
  refine ⟨⟨h.1.1, h.1.2.imp id ?_⟩, h.2⟩
  rintro ⟨g, cap, cur, e1, e2, e3, r⟩
  exact ⟨g, cap, cur, e1, e2, (hb g (h.2 g (by rw [e1]; rfl)) (Array.getElem?_eq_some_iff.1 e3).1).trans e3, r⟩
theorem Own.below (h : Own w S e size ra rc n xs) (hb : Below w.heap.size w w') : Own w' S e size ra rc n xs := own_keep h (fun b _ hlt => hb.block b hlt)
theorem Own.upd (h : Own w S e size ra rc n xs) (hu : Upd g w w') (hg : ¬ S g) : Own w' S e size ra rc n xs := own_keep h (fun b hS _ => hu.block b (fun e => hg (e ▸ hS)))
theorem Own.chg {S2 : Nat → Prop} (h : Own w S e size ra rc n xs) (hu : Chg S2 w w') (hg : ∀ b, S b → ¬ S2 b) : Own w' S e size ra rc n xs := own_keep h (fun b hS hlt => hu.block b hlt (hg b hS))
theorem own_empty (h : Blk w g e #[]) (hS : S g) : Own w S e size (some ⟨g, 0, none⟩) 0 0 [] :=
  ⟨⟨by simp, .inr ⟨g, 0, #[], rfl, Nat.zero_le _, h, Nat.le_refl _, by unfold maxLen; omega, by simp, by simp⟩⟩, fun b hb => by
    have : g = b := by simpa [Value.ownBlock] using hb
    exact this ▸ hS⟩
end

section
variable {P : Program} {w : World} {a : Act} {K : Act → World → Prop} {Q : Exit → Act → World → Prop} {o : Oper}
theorem wp_own {s x : Operand} {t e : TypeId} {z : Value} {size bytes n m rc : Nat} {S : Nat → Prop} {ra : Option Addr} {y : Value} {xs news : List Value} (ht : P.underlying t = some (.slice e)) (hinfo : (P.info? e).map (fun i => (i.zero, i.size, i.bytes)) = some (some z, size, bytes)) (hzs : z.cells.size = size) (hsz : 0 < size)
    (ho : o.op = .call { callee := .builtin .append, args := #[s, x], argTypes := #[t, t] }) (hs : a.eval s = .slice ra n rc) (hx : a.eval x = y) (hown : Own w S e size ra rc n xs) (hsrc : SrcIs w y m news) (hl : news.length = m * size) (h1 : ∀ u ∈ news, u.oneCell' = true)
    (hb : (n + m) * bytes ≤ 140737488355328) (hn : n + m ≤ 9223372036854775807) (hS : S w.heap.size) (hK : ∀ ra rc w', Own w' S e size ra rc (n + m) (xs ++ news) → Chg S w w' → K (a.put o.dst (.slice ra (n + m) rc)) w') : o.wp P a w K Q := by
  refine wp_app ht hinfo hzs hsz ho hs hx hown.1 hsrc hl h1 hb hn (Nat.zero_le _) (fun ra' rc' w' h => hK _ _ _ ⟨h.own, fun b hb => ?_⟩ ⟨h.grow.os, h.grow.tape, h.grow.output, h.grow.size, fun k hk hSk => h.grow.block k hk (fun e => hSk (hown.2 k e.symm))⟩)
  rcases h.at_ with e | e
  · exact hown.2 b (e ▸ hb)
  · rw [e] at hb; obtain rfl := Option.some.inj hb; exact hS
end

end Go.Proofs.Ytnblndmjjokepaa
