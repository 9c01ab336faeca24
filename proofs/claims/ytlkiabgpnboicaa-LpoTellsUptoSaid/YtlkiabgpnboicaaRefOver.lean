/- The table of what was found, while it is made. -/
import Derived.Test.YtlkiabgpnboicaaRegM
import Derived.Test.YtlkiabgpnboicaaRefWalk2
import Derived.Test.YtlkiabgpnboicaaLpoCmp
import Derived.Laws.MakeOwn
namespace Go.Proofs.Ytlkiabgpnboicaa
open Go.RowKit Go

def zeros (n : Nat) : Array Value := madeCells (Value.int .i64 0).cells (n * 1)
theorem zeros_size (n : Nat) : (zeros n).size = n := by unfold zeros; rw [size_madeCells]; omega
theorem zeros_at {n k : Nat} (h : k < n) : (zeros n)[k]? = some (.int .i64 0) := by
  unfold zeros madeCells
  simp [h, Value.cells, Nat.mod_one]
set_option maxRecDepth 20000 in
theorem wp_mkI {w : World} {a : Act} {K : Act → World → Prop} {Q : Exit → Act → World → Prop} {o : Oper} {x y : Operand} {n : Nat} (ho : o.op = .makeSlice 22 x y) (hx : a.eval x = .int .i64 (n : Int)) (hy : a.eval y = .int .i64 (n : Int)) (hn : n ≤ 4294967296)
    (hK : K (a.put o.dst (.slice (some ⟨w.heap.size, 0, none⟩) n n)) (w.alloc (.cells (zeros n) 3))) : o.wp Try.prog a w K Q := by
  have hint : (Try.prog.info? 3).map (fun i => (i.zero, i.size, i.bytes)) = some (some (.int .i64 0), 1, 8) := by kernel_rfl
  obtain ⟨i, hi, hz0, hz1, hz2⟩ := info_parts hint
  have hr := run_make (P := Try.prog) w 22 3 i (.int .i64 0) Try.underlying22 hi hz0 .i64 .i64 n n (by omega) (Int.le_refl _) (by rw [hz2]; omega) (by omega)
  simp only [Int.toNat_natCast, hz1] at hr
  unfold Oper.wp execOp
  simp only [ho, hx, hy, Sem.run_bind, Sem.run_pure, hr, Result.andThen_ok]
  exact hK

structure TabX where
  fa : Option Addr
  fc : Nat
  bo : Nat
  lo : Nat
  F : Nat → Nat
  k : Nat
def rowsOf (F : Nat → Nat) (n2 k : Nat) : List Value := (List.range k).map fun i => .slice (some ⟨F i, 0, none⟩) n2 n2
theorem rowsOf_succ (F : Nat → Nat) (n2 k : Nat) : rowsOf F n2 (k + 1) = rowsOf F n2 k ++ [.slice (some ⟨F k, 0, none⟩) n2 n2] := by simp [rowsOf, List.range_succ]
theorem rowsOf_upd (F : Nat → Nat) (n2 k g : Nat) : rowsOf (fun i => if i = k then g else F i) n2 k = rowsOf F n2 k := by
  unfold rowsOf
  refine List.map_congr_left fun i hi => ?_
  have := List.mem_range.1 hi
  dsimp only
  rw [if_neg (by omega)]
structure TabSt (sz n2 : Nat) (fa : Option Addr) (fc bo lo : Nat) (F : Nat → Nat) (k : Nat) (w : World) : Prop where
  own : Own w (fun b => b = bo ∧ b < lo) 22 1 fa fc k (rowsOf F n2 k)
  rows : ∀ i, i < k → Blk w (F i) 3 (zeros n2) ∧ sz ≤ F i ∧ ¬ (F i = bo ∧ F i < lo)
  inj : ∀ i j, i < k → j < k → F i = F j → i = j
  hlo : lo ≤ w.heap.size
  hbo : bo < lo → sz ≤ bo
theorem TabSt.bel {sz n2 : Nat} {fa : Option Addr} {fc bo lo : Nat} {F : Nat → Nat} {k : Nat} {w w' : World} (h : TabSt sz n2 fa fc bo lo F k w) (hb : Below w.heap.size w w') : TabSt sz n2 fa fc bo lo F k w' :=
  ⟨h.own.below hb, fun i hi => ⟨(h.rows i hi).1.below hb, (h.rows i hi).2⟩, h.inj, Nat.le_trans h.hlo hb.size, h.hbo⟩
theorem TabSt.start (sz n2 : Nat) (w : World) : TabSt sz n2 none 0 0 0 (fun _ => 0) 0 w := ⟨own_nil, fun i hi => by omega, fun i j hi => by omega, Nat.zero_le _, fun h => by omega⟩
theorem TabSt.step {sz n2 : Nat} {fa : Option Addr} {fc bo lo : Nat} {F : Nat → Nat} {k : Nat} {w w' : World} {g b' rc' gI : Nat} (h : TabSt sz n2 fa fc bo lo F k w) (hsz : sz ≤ w.heap.size) (hg : g < sz) (hc : Chg (fun b => (b = bo ∧ b < lo) ∨ b = g) w w')
    (hO : Own w' (fun b => b = b') 22 1 (some ⟨b', 0, none⟩) rc' (k + 1) (rowsOf F n2 k ++ [.slice (some ⟨gI, 0, none⟩) n2 n2])) (hS : (b' = bo ∧ b' < lo) ∨ w.heap.size ≤ b') (hne : b' ≠ gI) (hlt : b' < w'.heap.size) (hI : w.heap.size ≤ gI) (hB : Blk w' gI 3 (zeros n2)) :
    TabSt sz n2 (some ⟨b', 0, none⟩) rc' b' (b' + 1) (fun i => if i = k then gI else F i) (k + 1) w' := by
  have hlo := h.hlo
  have hbo := h.hbo
  refine ⟨?_, fun i hi => ?_, fun i j hi hj e => ?_, by omega, fun _ => by omega⟩
  · rw [rowsOf_succ, rowsOf_upd, if_pos rfl]
    exact own_mono hO (fun b hb => ⟨hb, by omega⟩)
  · try dsimp only
    by_cases e : i = k
    · rw [if_pos e]
      exact ⟨hB, by omega, by omega⟩
    · rw [if_neg e]
      obtain ⟨h1, h2, h3⟩ := h.rows i (by omega)
      have h4 := h1.lt
      exact ⟨chg_blk h1 hc (by omega), h2, by omega⟩
  · try dsimp only at e
    by_cases e1 : i = k <;> by_cases e2 : j = k
    · omega
    · rw [if_pos e1, if_neg e2] at e
      have := (h.rows j (by omega)).1.lt
      omega
    · rw [if_neg e1, if_pos e2] at e
      have := (h.rows i (by omega)).1.lt
      omega
    · rw [if_neg e1, if_neg e2] at e
      exact h.inj i j (by omega) (by omega) e

theorem flat_of {w0 w : World} {t : T} {v : Value} (hb : Below w0.heap.size w0 w) (hT : IsT w0 t v) (hz : t.size ≤ 4294967296) : Calls Try.prog 33 #[v, .slice none 0 0] w (Ret fun v' w' => PartsOf 84 w0 t v' w' ∧ Below w.heap.size w w') := by
  refine (flat_any t w0 w v none 0 0 w0.heap.size 0 [] hb hT own_nil (Nat.zero_le _) (Nat.le_refl _) (by omega)).mono ?_
  rintro e w' ⟨v', rfl, bm, rc, ys, rfl, h1, h2, _, h4, _⟩
  refine ⟨_, rfl, ⟨bm, rc, ys, by rw [lay_len, Nat.zero_add], by rw [lay_len]; simpa using h1, h2.keep (S := fun _ => False) (.refl _ _) (fun _ _ _ => ⟨id, trivial⟩)⟩, chg_none h4 (fun k => by omega)⟩

/-- The pair is made, the table is not. -/
structure RBox (o : Od) (s t : T) (q : RefQ) (w0 wa w : World) : Prop where
  below : Below w0.heap.size w0 wa
  below1 : Below wa.heap.size wa w
  m1 : NdRow w0 (lay s 0) q.b1 q.A1 q.X1 q.C1 q.Z1 q.x1 wa
  m2 : NdRow w0 (lay t 0) q.b2 q.A2 q.X2 q.C2 q.Z2 q.x2 wa
  blk : Blk w q.gw 67 #[.bool o.lpo, .slice q.p1 o.prec.length q.k1, .slice q.p2 o.weights.length q.k2, .int .i64 o.var, .slice (some ⟨q.b1, 0, none⟩) (lay s 0).length q.r1, .slice (some ⟨q.b2, 0, none⟩) (lay t 0).length q.r2, .slice none 0 0]
  eq : q.gw = wa.heap.size
def RBoxOf (o : Od) (s t : T) (w0 : World) (v : Value) (w : World) : Prop := ∃ q wa, v = .pointer (some ⟨q.gw, 0, none⟩) ∧ RBox o s t q w0 wa w
theorem RBoxOf.bel {o : Od} {s t : T} {w0 w w' : World} {v : Value} (h : RBoxOf o s t w0 v w) (hb : Below w.heap.size w w') : RBoxOf o s t w0 v w' := by
  obtain ⟨q, wa, h1, h2⟩ := h
  exact ⟨q, wa, h1, h2.below, bstep h2.below1 hb, h2.m1, h2.m2, h2.blk.below hb, h2.eq⟩
theorem rbox_st {o : Od} {s t : T} {w0 w : World} {v1 v2 : Value} {p1 p2 : Option Addr} {k1 k2 : Nat} (hb : Below w0.heap.size w0 w) (h1 : PartsOf 84 w0 s v1 w) (h2 : PartsOf 84 w0 t v2 w) :
    RBoxOf o s t w0 (.pointer (some ⟨w.heap.size, 0, none⟩)) (w.alloc (.cells #[.bool o.lpo, .slice p1 o.prec.length k1, .slice p2 o.weights.length k2, .int .i64 o.var, v1, v2, .slice none 0 0] 67)) := by
  have hB : Blk (w.alloc (.cells #[.bool o.lpo, .slice p1 o.prec.length k1, .slice p2 o.weights.length k2, .int .i64 o.var, v1, v2, .slice none 0 0] 67)) w.heap.size 67 #[.bool o.lpo, .slice p1 o.prec.length k1, .slice p2 o.weights.length k2, .int .i64 o.var, v1, v2, .slice none 0 0] := Blk.new' rfl
  obtain ⟨b1, r1, xs1, rfl, o1, n1⟩ := h1
  obtain ⟨b2, r2, xs2, rfl, o2, n2⟩ := h2
  obtain ⟨A1, X1, C1, Z1, x1, m1⟩ := NdRow.of n1 o1
  obtain ⟨A2, X2, C2, Z2, x2, m2⟩ := NdRow.of n2 o2
  exact ⟨⟨w.heap.size, 0, 0, 0, 0, fun _ => 0, b1, b2, r1, r2, A1, A2, X1, X2, C1, C2, Z1, Z2, x1, x2, p1, p2, k1, k2⟩, w, rfl, hb, balloc _ _, m1, m2, hB, rfl⟩
theorem ref_st {o : Od} {s t : T} {q : RefQ} {w0 wa wb w : World} {fa : Option Addr} {fc bo lo k : Nat} {F : Nat → Nat} (hR : RBox o s t q w0 wa wb) (hb : Below wa.heap.size wa w) (hp : IsInts w0 o.prec q.p1) (hk : k = (lay s 0).length) (hT : TabSt (q.gw + 1) (lay t 0).length fa fc bo lo F k w)
    (hB : Blk w q.gw 67 #[.bool o.lpo, .slice q.p1 o.prec.length q.k1, .slice q.p2 o.weights.length q.k2, .int .i64 o.var, .slice (some ⟨q.b1, 0, none⟩) (lay s 0).length q.r1, .slice (some ⟨q.b2, 0, none⟩) (lay t 0).length q.r2, .slice fa k fc]) :
    ∃ q' : RefQ, q'.gw = q.gw ∧ RefSt o (lay s 0) (lay t 0) q' w0 wa (fun _ _ => False) w := by
  subst hk
  have hl := lay_len s 0
  have hs := T.size_eq s
  obtain ⟨fb, ⟨h1, h2⟩, rfl, h3, h4⟩ := own_pick hT.own (by omega)
  subst h1
  have hsz := hR.below.size
  have he := hR.eq
  have hgl := hB.lt
  refine ⟨⟨q.gw, fb, fc, q.gw + 1, w.heap.size - 1, F, q.b1, q.b2, q.r1, q.r2, q.A1, q.A2, q.X1, q.X2, q.C1, q.C2, q.Z1, q.Z2, q.x1, q.x2, q.p1, q.p2, q.k1, q.k2⟩, rfl, bstep hR.below hb, hb, hp, hR.m1, hR.m2, hB, fun i hi => ?_, fun i hi => ?_, fun i hi => ?_, fun i j hi hj e => hT.inj i j hi hj e, by dsimp only; omega, by dsimp only; omega⟩
  · rw [Nat.zero_add]
    exact own_cell h4 (by simp [rowsOf, hi])
  · refine ⟨zeros (lay t 0).length, (hT.rows i hi).1, zeros_size _, fun k hk => ⟨0, zeros_at hk, fun h => h.elim, fun _ => .inl rfl⟩⟩
  · obtain ⟨h5, h6, h7⟩ := hT.rows i hi
    have := h5.lt
    dsimp only
    omega
theorem rabove0 {o : Od} {s t : T} {q : RefQ} {w0 wa w : World} (hs : o.lknows s = true) (ht : o.lknows t = true) (h1 : s.size ≤ 4294967296) (h2 : t.size ≤ 4294967296) (hst : RefSt o (lay s 0) (lay t 0) q w0 wa (fun _ _ => False) w) :
    Calls Try.prog 34 #[.pointer (some ⟨q.gw, 0, none⟩), .int .i64 0, .int .i64 0] w (Ret fun v' w' => v' = .bool (o.lg s t) ∧ Below w0.heap.size w0 w') := by
  have e1 := lay_len s 0
  have e2 := lay_len t 0
  have e3 := T.size_eq s
  have e4 := T.size_eq t
  have h := rabove_any o (lay s 0) (lay t 0) q w0 wa (lpoH_of hs ht h1 h2) (s.size + t.size) 0 0 _ w (by omega) (by omega) (by rw [lay_head, lay_head]; exact Nat.le_refl _) (fun a b h => h.elim) hst
  rw [lay_head, lay_head] at h
  refine h.mono ?_
  rintro e w' ⟨v', rfl, rfl, h5, _⟩
  exact ⟨_, rfl, rfl, h5.below⟩

end Go.Proofs.Ytlkiabgpnboicaa
