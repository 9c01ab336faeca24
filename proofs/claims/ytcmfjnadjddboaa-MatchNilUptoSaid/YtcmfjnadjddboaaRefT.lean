/- The document's matcher: how it matches a term, plain. -/
import Derived.Test.YtcmfjnadjddboaaRefM
namespace Go.Proofs.Ytcmfjnadjddboaa
open Go.RowKit Go

theorem subFind_here {v : Int} : ∀ {st : List Bd} {k : Nat}, k < st.length → (∀ i, i < k → (dget st i).var ≠ v) → (dget st k).var = v → subFind st v = some (dget st k).t
  | b :: st, 0, _, _, h => by simp [dget] at h; simp [subFind, dget, h]
  | b :: st, k + 1, hk, hn, h => by
    have h0 : ¬ b.var = v := by simpa [dget] using hn 0 (by omega)
    have := subFind_here (v := v) (st := st) (k := k) (by simpa using hk) (fun i hi => by simpa [dget] using hn (i + 1) (by omega)) (by simpa [dget] using h)
    simpa [subFind, h0, dget] using this
theorem subFind_gone {v : Int} {st : List Bd} (h : ∀ i, i < st.length → (dget st i).var ≠ v) : subFind st v = none := by
  unfold subFind
  rw [Option.map_eq_none_iff, List.find?_eq_none]
  intro x hx e
  obtain ⟨i, hi, rfl⟩ := List.getElem_of_mem hx
  have := h i hi
  rw [dget_lt hi] at this
  exact this (by simpa using e)
/-- What 'get' tells. -/
def GetIs (st : List Bd) (v : Int) (x : Value) (w : World) : Prop := match subFind st v with
  | none => x = .tuple #[.agg #[.int .i64 0, .slice none 0 0], .bool false]
  | some o => ∃ (a : Option Addr) (c : Nat), x = .tuple #[.agg #[.int .i64 o.f, .slice a o.args.length c], .bool true] ∧ IsT w o (.agg #[.int .i64 o.f, .slice a o.args.length c])
def mtB (p t : T) (st : List Bd) : Bool := (p.mt st t).isSome
/-- What is bound when a term was matched, or was not. -/
structure RtOk (p t : T) (st st' : List Bd) : Prop where
  ok : ∀ s, p.mt st t = some s → st' = s
  lo : st.length ≤ st'.length
  hi : st'.length ≤ st.length + p.size
  pre : st'.take st.length = st
theorem RtOk.same {p t : T} {st : List Bd} (h : ∀ s, p.mt st t = some s → st = s) : RtOk p t st st := ⟨h, Nat.le_refl _, Nat.le_add_right _ _, List.take_length⟩
theorem mt_oldr {f : Int} {l : List T} {st : List Bd} {t o : T} (hf : f < 0) (h : subFind st (-1 - f) = some o) : (T.mk f l).mt st t = if T.same o t = true then some st else none := by rw [T.mt, if_pos hf, h]
theorem mt_old_ok {f : Int} {l : List T} {st : List Bd} {t o : T} (hf : f < 0) (h : subFind st (-1 - f) = some o) : RtOk (.mk f l) t st st ∧ mtB (.mk f l) t st = T.same o t := by
  unfold mtB
  rw [mt_oldr hf h]
  refine ⟨.same fun s e => ?_, ?_⟩
  · rw [mt_oldr hf h] at e; split at e <;> cases e; rfl
  · cases T.same o t <;> rfl
theorem mt_offr {f : Int} {l : List T} {st : List Bd} {t : T} (hf : ¬ f < 0) (h : ¬ (f = t.f ∧ l.length = t.args.length)) : (T.mk f l).mt st t = none := by rw [T.mt, if_neg hf, if_neg h]
theorem mt_new_ok {f : Int} {l : List T} {st : List Bd} {t : T} (hf : f < 0) (h : subFind st (-1 - f) = none) : RtOk (.mk f l) t st (st ++ [⟨-1 - f, t⟩]) ∧ mtB (.mk f l) t st = true := by
  unfold mtB
  have e : (T.mk f l).mt st t = some (st ++ [⟨-1 - f, t⟩]) := by rw [T.mt, if_pos hf, h]
  refine ⟨⟨fun s q => by rw [e] at q; exact Option.some.inj q, by simp, by rw [T.size]; simp, by simp⟩, by rw [e]; rfl⟩
theorem mt_args {f : Int} {l : List T} {st : List Bd} {t : T} (hf : ¬ f < 0) (h : f = t.f ∧ l.length = t.args.length) : (T.mk f l).mt st t = T.mtL l st t.args := by rw [T.mt, if_neg hf, if_pos h]
theorem mtL_step {l ts : List T} {k : Nat} {x : List Bd} (hk : k < l.length) (hl : l.length = ts.length) : T.mtL (l.drop k) x (ts.drop k) = match (tget l k).mt x (tget ts k) with | none => none | some s => T.mtL (l.drop (k + 1)) s (ts.drop (k + 1)) := by
  rw [List.drop_eq_getElem_cons hk, List.drop_eq_getElem_cons (show k < ts.length by omega), T.mtL, tget_lt hk, tget_lt (by omega)]
  cases l[k].mt x ts[k] <;> rfl
theorem sizeL_drop {l : List T} {k : Nat} (hk : k < l.length) : T.sizeL (l.drop k) = (tget l k).size + T.sizeL (l.drop (k + 1)) := by
  rw [List.drop_eq_getElem_cons hk, T.sizeL, tget_lt hk]
/-- The loop over the arguments. -/
structure RtL (l ts : List T) (st : List Bd) (k : Nat) (x : List Bd) : Prop where
  ans : T.mtL l st ts = T.mtL (l.drop k) x (ts.drop k)
  lo : st.length ≤ x.length
  hi : x.length + T.sizeL (l.drop k) ≤ st.length + T.sizeL l
  pre : x.take st.length = st
theorem RtL.start {l ts : List T} {st : List Bd} : RtL l ts st 0 st := ⟨by simp, Nat.le_refl _, by simp, List.take_length⟩
theorem RtL.next {l ts : List T} {st x x' : List Bd} {k : Nat} (h : RtL l ts st k x) (hk : k < l.length) (hl : l.length = ts.length) (hr : RtOk (tget l k) (tget ts k) x x') (hs : mtB (tget l k) (tget ts k) x = true) : RtL l ts st (k + 1) x' := by
  obtain ⟨s, hs⟩ := Option.isSome_iff_exists.1 hs
  obtain rfl := hr.ok s hs
  have := sizeL_drop hk
  have h1 := hr.hi
  have h2 := hr.lo
  have h3 := h.lo
  have h4 := h.hi
  refine ⟨by rw [h.ans, mtL_step hk hl, hs], by omega, by omega, ?_⟩
  have e9 : x'.take st.length = (x'.take x.length).take st.length := by rw [List.take_take, Nat.min_eq_left h3]
  rw [e9, hr.pre, h.pre]
theorem RtL.bad {f : Int} {l : List T} {t : T} {st x x' : List Bd} {k : Nat} (h : RtL l t.args st k x) (hf : ¬ f < 0) (he : f = t.f ∧ l.length = t.args.length) (hk : k < l.length) (hr : RtOk (tget l k) (tget t.args k) x x') (hs : ¬ mtB (tget l k) (tget t.args k) x = true) : RtOk (.mk f l) t st x' ∧ mtB (.mk f l) t st = false := by
  unfold mtB at hs ⊢
  have e : (T.mk f l).mt st t = none := by
    rw [mt_args hf he, h.ans, mtL_step hk he.2]
    rw [Option.isSome_iff_ne_none, Classical.not_not] at hs
    rw [hs]
  have := sizeL_drop hk
  have h1 := hr.hi
  have h2 := hr.lo
  have h3 := h.lo
  have h4 := h.hi
  refine ⟨⟨fun s q => (by rw [e] at q; cases q), by omega, by rw [T.size]; omega, ?_⟩, by rw [e]; rfl⟩
  have e9 : x'.take st.length = (x'.take x.length).take st.length := by rw [List.take_take, Nat.min_eq_left h3]
  rw [e9, hr.pre, h.pre]
theorem RtL.good {f : Int} {l : List T} {t : T} {st x : List Bd} {k : Nat} (h : RtL l t.args st k x) (hf : ¬ f < 0) (he : f = t.f ∧ l.length = t.args.length) (hk : l.length ≤ k) : RtOk (.mk f l) t st x ∧ mtB (.mk f l) t st = true := by
  unfold mtB
  have e : (T.mk f l).mt st t = some x := by
    rw [mt_args hf he, h.ans, List.drop_of_length_le hk]; rfl
  have h3 := h.lo
  have h4 := h.hi
  refine ⟨⟨fun s q => by rw [e] at q; exact Option.some.inj q, h3, by rw [T.size]; omega, h.pre⟩, by rw [e]; rfl⟩
theorem mtB_some {p t : T} {st st' : List Bd} (hr : RtOk p t st st') (h : mtB p t st = true) : p.mt st t = some st' := by
  unfold mtB at h
  obtain ⟨s, hs⟩ := Option.isSome_iff_exists.1 h
  rw [hr.ok s hs, hs]
theorem mtB_none {p t : T} {st : List Bd} (h : ¬ mtB p t st = true) : p.mt st t = none := by
  unfold mtB at h
  rwa [Option.isSome_iff_ne_none, Classical.not_not] at h
theorem rgo_of {F : FuncId} {xs : Array Value} {r : Value} {w0 w : World} {g : Nat} {st st' : List Bd} {D : Nat → Prop} (h : RefGo w0 D g st w) (hany : ∀ D', RefAt w g st D' → (∀ b, D' b → Since w0 D b) → Calls Try.prog F xs w (Ret fun v' w' => (∃ D'', v' = r ∧ RefAt w' g st' D'' ∧ ∀ b, D'' b → D' b ∨ w.heap.size ≤ b) ∧ Chg D' w w')) :
    Calls Try.prog F xs w (Ret fun v' w' => (v' = r ∧ RefGo w0 D g st' w') ∧ Chg (Since w0 D) w w') := by
  obtain ⟨⟨D', h, h1⟩, h2⟩ := h
  refine (hany D' h h1).mono ?_
  rintro e w' ⟨v, rfl, ⟨D'', rfl, h3, h4⟩, h5⟩
  refine ⟨_, rfl, ⟨rfl, ⟨D'', h3, fun b q => ?_⟩, Nat.le_trans h2 h5.size⟩, h5.mono h1⟩
  rcases h4 b q with q | q
  · exact h1 b q
  · exact .inr (Nat.le_trans h2 q)
def RtSpec (p : T) : Prop := ∀ (t : T) (g : Nat) (st : List Bd) (D A : Nat → Prop) (w : World) (u v : Value), RefAt w g st D → InT A w p u → InT A w t v → (∀ b, A b → ¬ D b) → p.size ≤ 4294967296 → t.size ≤ 4294967296 → st.length + p.size ≤ 1099511627776 →
  Calls Try.prog 37 #[.pointer (some ⟨g, 0, none⟩), u, v] w (Ret fun v' w' => (∃ st' D', v' = .bool (mtB p t st) ∧ RefAt w' g st' D' ∧ (∀ b, D' b → D b ∨ w.heap.size ≤ b) ∧ RtOk p t st st') ∧ Chg D w w')
theorem rterm_go {p t : T} {w0 w : World} {g : Nat} {st : List Bd} {D A : Nat → Prop} {u v : Value} (ih : RtSpec p) (h : RefGo w0 D g st w) (hp : InT A w p u) (ht : InT A w t v) (hA : ∀ b, A b → ¬ Since w0 D b) (hzp : p.size ≤ 4294967296) (hzt : t.size ≤ 4294967296) (hn : st.length + p.size ≤ 1099511627776) :
    Calls Try.prog 37 #[.pointer (some ⟨g, 0, none⟩), u, v] w (Ret fun v' w' => (∃ st', v' = .bool (mtB p t st) ∧ RefGo w0 D g st' w' ∧ RtOk p t st st') ∧ Chg (Since w0 D) w w') := by
  obtain ⟨⟨D', h, h1⟩, h2⟩ := h
  refine (ih t g st D' A w u v h hp ht (fun b q q2 => hA b q (h1 b q2)) hzp hzt hn).mono ?_
  rintro e w' ⟨v, rfl, ⟨st', D'', rfl, h3, h4, h6⟩, h5⟩
  refine ⟨_, rfl, ⟨st', rfl, ⟨⟨D'', h3, fun b q => ?_⟩, Nat.le_trans h2 h5.size⟩, h6⟩, h5.mono h1⟩
  rcases h4 b q with q | q
  · exact h1 b q
  · exact .inr (Nat.le_trans h2 q)

end Go.Proofs.Ytcmfjnadjddboaa
