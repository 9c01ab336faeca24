/- Arguments of a law, opened: rows of terms, rows of integers. -/
import Derived.Test.YtibncmnmjhimeaaFPEd
import Derived.Test.YtibncmnmjhimeaaFPEb
import Derived.Test.YtibncmnmjhimeaaFPEa
import Derived.WalkKit
import Derived.ProofKit
import Derived.JoinedCond
import Derived.OpenShut

/- Two indexes beside each other; terms in a turned order. -/
namespace Go.Proofs.Ytibncmnmjhimeaa
open Go.RowKit Go
set_option linter.unusedVariables false
set_option linter.unusedSimpArgs false
def TwoIx (w : World) (Bq gx gy : Nat) (B C : List TI) : Prop := ∃ Zx Zy, FpIs w gx Zx B ∧ FpIs w gy Zy C ∧ (∀ b, Zx b → Bq ≤ b) ∧ (∀ b, Zy b → Bq ≤ b) ∧ ∀ b, Zx b → ¬ Zy b
section
variable {w w' : World} {Bq gx gy : Nat} {B C : List TI}
theorem TwoIx.below (h : TwoIx w Bq gx gy B C) (hb : Below w.heap.size w w') : TwoIx w' Bq gx gy B C := by
  obtain ⟨Zx, Zy, h1, h2, h3⟩ := h
  exact ⟨Zx, Zy, h1.below hb, h2.below hb, h3⟩
theorem TwoIx.swap (h : TwoIx w Bq gx gy B C) : TwoIx w Bq gy gx C B := by
  obtain ⟨Zx, Zy, h1, h2, h3, h4, h5⟩ := h
  exact ⟨Zy, Zx, h2, h1, h4, h3, fun b q e => h5 b e q⟩
theorem TwoIx.x (h : TwoIx w Bq gx gy B C) : ∃ Z, FpIs w gx Z B := by
  obtain ⟨Zx, Zy, h1, _⟩ := h
  exact ⟨Zx, h1⟩
theorem TwoIx.y (h : TwoIx w Bq gx gy B C) : ∃ Z, FpIs w gy Z C := h.swap.x
theorem two_new {w0 : World} (h1 : FpIs w gx (fun b => w0.heap.size ≤ b ∧ b < w.heap.size) []) (h2 : FpIs w' gy (fun b => w.heap.size ≤ b ∧ b < w'.heap.size) []) (hb : Below w.heap.size w w') (h0 : w0.heap.size ≤ w.heap.size) : TwoIx w' w0.heap.size gx gy [] [] :=
  ⟨_, _, h1.below hb, h2, fun b q => q.1, fun b q => Nat.le_trans h0 q.1, fun b q e => by have z1 := q.2; have z2 := e.1; omega⟩
theorem two_addx (h : TwoIx w Bq gx gy B C) {t : T} {v : Value} {id : Int} (hid : 0 ≤ id) (hi : I64 id) (hz : t.size ≤ 4294967296) (hBl : B.length ≤ 1000000) (ht : IsT w t v) (hq : Bq ≤ w.heap.size) :
    Calls Try.prog 9 #[.pointer (some ⟨gx, 0, none⟩), v, .int .i64 id] w (Ret fun v' w' => v' = .int .i64 0 ∧ TwoIx w' Bq gx gy (B ++ [(t, id)]) C ∧ Chg (fun b => Bq ≤ b) w w') := by
  obtain ⟨Zx, Zy, h1, h2, h3, h4, h5⟩ := h
  refine (fadd_any gx Zx B w t v id hid hi hz hBl ht h1).mono ?_
  rintro e w' ⟨v', rfl, rfl, ⟨Z2, k1, k2⟩, k3⟩
  refine ⟨_, rfl, rfl, ⟨Z2, Zy, k1, h2.chg k3 (fun b q e => h5 b e q), fun b q => ?_, h4, fun b q e => ?_⟩, k3.mono (fun b q => h3 b q)⟩
  · rcases k2 b q with z | z
    · exact h3 b z
    · omega
  · rcases k2 b q with z | z
    · exact h5 b z e
    · have := h2.lt b e; omega
theorem two_addy (h : TwoIx w Bq gx gy B C) {t : T} {v : Value} {id : Int} (hid : 0 ≤ id) (hi : I64 id) (hz : t.size ≤ 4294967296) (hBl : C.length ≤ 1000000) (ht : IsT w t v) (hq : Bq ≤ w.heap.size) :
    Calls Try.prog 9 #[.pointer (some ⟨gy, 0, none⟩), v, .int .i64 id] w (Ret fun v' w' => v' = .int .i64 0 ∧ TwoIx w' Bq gx gy B (C ++ [(t, id)]) ∧ Chg (fun b => Bq ≤ b) w w') := by
  refine (two_addx h.swap hid hi hz hBl ht hq).mono ?_
  rintro e w' ⟨v', rfl, rfl, k1, k2⟩
  exact ⟨_, rfl, rfl, k1.swap, k2⟩
theorem two_del (h : TwoIx w Bq gx gy B C) {t : T} {v : Value} {id : Int} (hi : I64 id) (hBl : B.length ≤ 1000000) (ht : IsT w t v) (hin : (t, id) ∈ B) :
    Calls Try.prog 17 #[.pointer (some ⟨gx, 0, none⟩), v, .int .i64 id] w (Ret fun v' w' => v' = .bool true ∧ TwoIx w' Bq gx gy (delB t id B) C ∧ Chg (fun b => Bq ≤ b) w w') := by
  obtain ⟨Zx, Zy, h1, h2, h3, h4, h5⟩ := h
  refine (fdel_any gx Zx B w t v id hi hBl ht hin h1).mono ?_
  rintro e w' ⟨v', rfl, rfl, k1, k3⟩
  exact ⟨_, rfl, rfl, ⟨Zx, Zy, k1, h2.chg k3 (fun b q e => h5 b e q), h3, h4, h5⟩, k3.mono (fun b q => h3 b q)⟩
end
/-- While a term is added, or taken out. -/
def TwoG (Bq gx gy : Nat) (B C B2 C2 : List TI) : List Value → World → Prop
  | [], w => TwoIx w Bq gx gy B C
  | _ :: _, w => TwoIx w Bq gx gy B2 C2
theorem TwoG.below {Bq gx gy : Nat} {B C B2 C2 : List TI} : ∀ (vals : List Value) (w w' : World), Below w.heap.size w w' → TwoG Bq gx gy B C B2 C2 vals w → TwoG Bq gx gy B C B2 C2 vals w'
  | [], _, _, hb, h => TwoIx.below h hb
  | _ :: _, _, _, hb, h => TwoIx.below h hb
theorem askP_congr {B C : List TI} {way : Nat} {q : List Int} (h : ∀ r, r ∈ B ↔ r ∈ C) : askP B way q = askP C way q := by
  refine RiseP.eq (riseN_rise _) (riseN_rise _) (fun x => ?_)
  show x ∈ askP B way q ↔ x ∈ askP C way q
  rw [askP_mem, askP_mem]
  constructor
  · rintro ⟨r, h1, h2⟩; exact ⟨r, (h r).1 h1, h2⟩
  · rintro ⟨r, h1, h2⟩; exact ⟨r, (h r).2 h1, h2⟩
def rAt (l : List T) (ids : List Int) (i : Nat) : TI := (tget l i, bits .and .i64 (ids.getD i 0) 7)
def bX (l : List T) (ids : List Int) (k : Nat) : List TI := (List.range k).map (rAt l ids)
def bY (l : List T) (ids : List Int) (r k : Nat) : List TI := (List.range k).map (fun i => rAt l ids ((i + r) % l.length))
def bR (l : List T) (ids : List Int) (r k : Nat) : List TI := (List.range' k (l.length - k)).map (fun i => rAt l ids ((i + r) % l.length))
section
variable {l : List T} {ids : List Int} {r k : Nat}
theorem bX_succ : bX l ids (k + 1) = bX l ids k ++ [rAt l ids k] := by unfold bX; rw [List.range_succ, List.map_append]; rfl
theorem bY_succ : bY l ids r (k + 1) = bY l ids r k ++ [rAt l ids ((k + r) % l.length)] := by unfold bY; rw [List.range_succ, List.map_append]; rfl
theorem bX_len : (bX l ids k).length = k := by simp [bX]
theorem bY_len : (bY l ids r k).length = k := by simp [bY]
theorem bR_succ (h : k < l.length) : bR l ids r k = rAt l ids ((k + r) % l.length) :: bR l ids r (k + 1) := by
  unfold bR
  rw [show l.length - k = (l.length - (k + 1)) + 1 by omega, List.range'_succ]; rfl
theorem bR_nil : bR l ids r l.length = [] := by unfold bR; rw [Nat.sub_self]; rfl
theorem rot_perm {n r : Nat} (h : r < n) : (List.range n).Perm ((List.range n).map (fun i => (i + r) % n)) := by
  have e : (List.range n).map (fun i => (i + r) % n) = List.range' r (n - r) ++ List.range r := by
    apply List.ext_getElem
    · simp; omega
    · intro i h1 h2
      have hi : i < n := by simpa using h1
      rw [List.getElem_map, List.getElem_range, List.getElem_append]
      split
      · rename_i c
        have c : i < n - r := by simpa using c
        rw [List.getElem_range', Nat.mod_eq_of_lt (by omega)]; omega
      · rename_i c
        have c : ¬ i < n - r := by simpa using c
        rw [List.getElem_range, Nat.mod_eq_sub_mod (by omega), Nat.mod_eq_of_lt (by omega)]
        simp; omega
  rw [e]
  refine List.Perm.trans ?_ List.perm_append_comm
  have : List.range n = List.range r ++ List.range' r (n - r) := by
    rw [List.range_eq_range', List.range_eq_range']
    have := List.range'_append (s := 0) (m := r) (n := n - r) (step := 1)
    rw [show 0 + 1 * r = r by omega, show r + (n - r) = n by omega] at this
    exact this.symm
  rw [this]
theorem bXY (h : r < l.length) : (bX l ids l.length).Perm (bR l ids r 0) := by
  unfold bX bR
  rw [Nat.sub_zero, ← List.range_eq_range']
  have := (rot_perm h).map (rAt l ids)
  rw [List.map_map] at this
  exact this
theorem bY_bR : bY l ids r l.length = bR l ids r 0 := by
  unfold bY bR; rw [Nat.sub_zero, ← List.range_eq_range']
theorem bXY_ask (h : r < l.length) {way : Nat} {q : List Int} : askP (bY l ids r l.length) way q = askP (bX l ids l.length) way q :=
  askP_congr (fun x => by rw [bY_bR]; exact (bXY h).mem_iff.symm)
end
structure DT where
  k : Nat
  D : List TI
end Go.Proofs.Ytibncmnmjhimeaa

/- Literals, clauses: how they lie in memory. -/
namespace Go.Proofs.Ytibncmnmjhimeaa
open Go.RowKit Go
set_option linter.unusedVariables false
set_option linter.unusedSimpArgs false
/-- A literal. -/
structure Li where
  neg : Bool
  l : T
  r : T
instance : Inhabited Li := ⟨⟨false, .mk 0 [], .mk 0 []⟩⟩
end Go.Proofs.Ytibncmnmjhimeaa

/- Terms, literals, clauses that are built in a region: what is known of each. -/
namespace Go.Proofs.Ytibncmnmjhimeaa
open Go.RowKit Go
set_option linter.unusedVariables false
set_option linter.unusedSimpArgs false
/-- The value is a row of terms. -/
def RowT (l : List T) (v : Value) (w : World) : Prop := ∃ (a : Option Addr) (c : Nat), v = .slice a l.length c ∧ l.length ≤ c ∧ c ≤ maxLen ∧ IsTs w l a 0
theorem RowT.below {l : List T} {v : Value} {w w' : World} (hb : Below w.heap.size w w') (h : RowT l v w) : RowT l v w' := by
  obtain ⟨a, c, e, h1, h2, h3⟩ := h
  exact ⟨a, c, e, h1, h2, h3.below hb⟩
theorem RowT.nil {w : World} : RowT [] (.slice none 0 0) w := ⟨none, 0, rfl, Nat.le_refl _, Nat.zero_le _, trivial⟩
theorem isT_mk {w : World} {f : Int} {l : List T} {a : Option Addr} {n c : Nat} (hf : I64 f) (h : RowT l (.slice a n c) w) : IsT w (.mk f l) (.agg #[.int .i64 f, .slice a n c]) := by
  obtain ⟨a', c', e, h1, h2, h3⟩ := h
  simp only [Value.slice.injEq] at e
  obtain ⟨rfl, rfl, rfl⟩ := e
  exact ⟨hf, _, _, rfl, h1, h2, h3⟩
theorem isT_lf {w : World} {f : Int} (hf : -9223372036854775808 ≤ f ∧ f ≤ 9223372036854775807) : IsT w (.mk f []) (.agg #[.int .i64 f, .slice none 0 0]) := isT_mk hf RowT.nil
theorem isT_keep {t : T} (v : Value) (w w' : World) (hb : Below w.heap.size w w') (h : IsT w t v) : IsT w' t v := h.below hb
end Go.Proofs.Ytibncmnmjhimeaa

/- Rows of integers, opened. -/
namespace Go.Proofs.Ytibncmnmjhimeaa
open Go.RowKit Go
set_option linter.unusedVariables false
set_option linter.unusedSimpArgs false
theorem InRow.openI {S : Nat → Prop} {w : World} {l : List Int} {a : Option Addr} (h : InRow eltI S w l a) : ∃ b o : Nat, (∀ k, k < l.length → a = some ⟨b, o, none⟩) ∧ ∀ k, k < l.length → w.cell? ⟨b, o + k, none⟩ = some (.int .i64 (l.getD k 0)) := by
  rcases Nat.eq_zero_or_pos l.length with h0 | h0
  · exact ⟨0, 0, fun k hk => by omega, fun k hk => by omega⟩
  · obtain ⟨b, o, _, ha, _⟩ := h 0 h0
    refine ⟨b, o, fun _ _ => ha, fun k hk => ?_⟩
    obtain ⟨b', o', cs, ha', _, h1, h2⟩ := h k hk
    rw [ha] at ha'
    simp only [Option.some.injEq, Addr.mk.injEq, and_true] at ha'
    obtain ⟨rfl, rfl⟩ := ha'
    have h1' : cs = [.int .i64 l[k]] := h1
    subst h1'
    have := h2 0 (by decide)
    simpa [eltI, hk] using this
end Go.Proofs.Ytibncmnmjhimeaa

/- No index; the example that every law shows. -/
namespace Go.Proofs.Ytibncmnmjhimeaa
open Go.RowKit Go
set_option linter.unusedVariables false
set_option linter.unusedSimpArgs false
set_option maxRecDepth 100000 in
theorem okNil  (w : World) : Calls Try.prog 24 #[.pointer none] w (Ret fun v' w' => v' = .bool false ∧ Below w.heap.size w w') := by
 skip
 refine Calls.walk (l := [.pointer none]) Try.func24 rfl (by kernel_rfl) ?_
 refine WC.sub (K' := [(0, .pointer none)]) ⟨rfl, trivial⟩ ?_
 refine WC.seq (WC.region (WL.asg rfl rfl rfl rfl rfl (WL.nil (WE.next (WC.seq (WC.region (WL.mv rfl rfl rfl rfl rfl ?_)))))))
 refine WL.val (.bool false) rfl rfl rfl (fun za zC zh zk => neqn_27 rfl (zh.ev rfl) (zh.ev rfl) zk) ?_
 refine WL.mv rfl rfl rfl rfl rfl ?_
 refine WL.skip (d := 5) rfl rfl rfl rfl rfl ?_
 refine WL.skip (d := 5) rfl rfl rfl rfl rfl ?_
 refine WL.skip (d := 5) rfl rfl rfl rfl rfl ?_
 refine WL.skip (d := 5) rfl rfl rfl rfl rfl ?_
 refine WL.skip (d := 5) rfl rfl rfl rfl rfl ?_
 refine WL.val (.bool false) rfl rfl rfl (fun za zC zh zk => wp_pickF rfl (zh.ev rfl) (zh.ev rfl) zk) ?_
 refine WL.asg rfl rfl rfl rfl rfl (WL.nil (WE.next (WC.ret (WE.ret1 rfl rfl ?_))))
 exact ⟨_, rfl, rfl, (Below.refl _ _)⟩
set_option maxRecDepth 100000 in
theorem addNil (f : Int) (a : Option Addr) (n c : Nat) (id : Int) (w : World) : Calls Try.prog 9 #[.pointer none, .agg #[.int .i64 f, .slice a n c], .int .i64 id] w (Ret fun v' w' => v' = .int .i64 1 ∧ Below w.heap.size w w') := by
 skip
 refine Calls.walk (l := [.pointer none, .agg #[.int .i64 f, .slice a n c], .int .i64 id]) Try.func9 rfl (by kernel_rfl) ?_
 refine WC.sub (K' := [(0, .pointer none), (1, .agg #[.int .i64 f, .slice a n c]), (2, .int .i64 id)]) ⟨rfl, rfl, rfl, trivial⟩ ?_
 refine WC.seq (WC.region ?_)
 refine WL.step (post := NewBlk w 24 #[.int .i64 f, .slice a n c]) rfl rfl rfl (fun za zC zh zk => box_24 rfl (zh.ev rfl) (zk _ _ (newBlk _ _ _))) ?_
 rintro _ w1 ⟨g2, rfl, hg3, hB4, hb5, hz6⟩
 have hl7 : w.heap.size ≤ g2 := by omega
 refine WL.asg rfl rfl rfl rfl rfl (WL.nil (WE.next (WC.seq (WC.block (WC.seq (WC.region (WL.mv rfl rfl rfl rfl rfl ?_)))))))
 refine WL.call rfl rfl rfl (fun za zh zC => wp_call (by kernel_rfl) rfl (hv1 (zh.ev rfl))) (okNil _) ?_
 rintro _ w9 ⟨rfl, hq8⟩
 refine WL.val (.bool true) rfl rfl rfl (fun za zC zh zk => wp_not rfl (zh.ev rfl) zk) ?_
 refine WL.asg rfl rfl rfl rfl rfl (WL.nil (WE.next ?_))
 refine WC.condT rfl rfl ?_
 refine WC.seq (WC.region (WL.asg rfl rfl rfl rfl rfl (WL.nil (WE.next (WC.ret (WE.blockRet (WE.thenRet (WE.ret1 rfl rfl ?_))))))))
 have hb10 : Below w.heap.size w w9 := (bstep hb5 hq8)
 exact ⟨_, rfl, rfl, hb10⟩
set_option maxRecDepth 100000 in
theorem lof_any (f : Int) (a : Option Addr) (n c : Nat) (w : World) : Calls Try.prog 20 #[.int .i64 f, .slice a n c] w (Ret fun v' w' => v' = .agg #[.int .i64 f, .slice a n c] ∧ Below w.heap.size w w') := by
 skip
 refine Calls.walk (l := [.int .i64 f, .slice a n c]) Try.func20 rfl (by kernel_rfl) ?_
 refine WC.sub (K' := [(0, .int .i64 f), (1, .slice a n c)]) ⟨rfl, rfl, trivial⟩ ?_
 refine WC.seq (WC.region ?_)
 refine WL.step (post := NewBlk w 24 #[.int .i64 0, .slice none 0 0]) rfl rfl rfl (fun za zC zh zk => alloc_24 rfl (zk _ _ (newBlk _ _ _))) ?_
 rintro _ w1 ⟨g2, rfl, hg3, hB4, hb5, hz6⟩
 have hl7 : w.heap.size ≤ g2 := by omega
 refine WL.nil (WE.next (WC.seq (WC.region (WL.mv rfl rfl rfl rfl rfl (WL.mv rfl rfl rfl rfl rfl ?_)))))
 refine WL.val (.agg #[.int .i64 f, .slice a n c]) rfl rfl rfl (fun za zC zh zk => build_24_0_1 rfl (zh.ev rfl) (zh.ev rfl) zk) ?_
 refine WL.step (post := fun _ w' => Upd g2 w1 w' ∧ Blk w' g2 24 #[.int .i64 f, .slice a n c]) rfl rfl rfl (fun za zC zh zk => st_24 rfl (zh.ev rfl) (zh.ev rfl) rfl rfl hB4 (by first | decide | simp) (fun v => zk v _ ⟨(Upd.at_ _ _ _ _).trans (Upd.at_ _ _ _ _), (hB4.set_ 0 _).set_ 1 _⟩)) ?_
 rintro v11 w8 ⟨hu9, hB10⟩
 have hb12 := upd_below hb5 hu9 (by omega)
 refine WL.nil (WE.next (WC.ret ?_))
 refine WE.retAny (v := .agg #[.int .i64 f, .slice a n c]) (fun za zh => ?_) ?_
 ·have z0 : za.tmps[4]?.getD undef = .pointer (some ⟨g2, 0, none⟩) := by rw [← Array.getD_eq_getD_getElem?]; exact zh.knows 4 _ rfl
  have y0 : w8.cell? ⟨g2, 0, none⟩ = some (.int .i64 f) := ((hB10.cell 0).trans rfl)
  have y1 : w8.cell? ⟨g2, 1, none⟩ = some (.slice a n c) := ((hB10.cell 1).trans rfl)
  simp [results, Try.results20, z0, y0, y1, go_sem]
 ·exact ⟨_, rfl, rfl, hb12⟩
set_option maxRecDepth 100000 in
theorem row_same {S1 S2 : Nat → Prop} {L : List Int} {w : World} {a b : Option Addr} {c e : Nat} (h1 : InRow eltI S1 w L a) (h2 : InRow eltI S2 w L b) (hz : L.length ≤ 1073741824) : Calls Try.prog 19 #[.slice a L.length c, .slice b L.length e] w (Ret fun v' w' => v' = .bool true ∧ Below w.heap.size w w') := by
 skip
 refine Calls.walk (l := [.slice a L.length c, .slice b L.length e]) Try.func19 rfl (by kernel_rfl) ?_
 refine WC.sub (K' := [(0, .slice a L.length c), (1, .slice b L.length e)]) ⟨rfl, rfl, trivial⟩ ?_
 refine WC.seq (WC.region (WL.asg rfl rfl rfl rfl rfl (WL.nil (WE.next (WC.seq (WC.seq (WC.region (WL.mv rfl rfl rfl rfl rfl ?_))))))))
 refine WL.val (.int .i64 (((L.length : Nat) : Int))) rfl rfl rfl (fun za zC zh zk => len_31 rfl (zh.ev rfl) zk) ?_
 refine WL.mv rfl rfl rfl rfl rfl ?_
 refine WL.val (.int .i64 (((L.length : Nat) : Int))) rfl rfl rfl (fun za zC zh zk => len_31 rfl (zh.ev rfl) zk) ?_
 refine WL.val (.bool (((((L.length : Nat) : Int) : Int) != (((L.length : Nat) : Int) : Int)))) rfl rfl rfl (fun za zC zh zk => neq_3 rfl (zh.ev rfl) (zh.ev rfl) zk) ?_
 refine WL.nil (WE.next ?_)
 refine WC.condF rfl ((by simp)) ?_
 refine WC.skip (WE.next (WC.seq (WC.seq (WC.region (WL.asg rfl rfl rfl rfl rfl (WL.nil (WE.next (WC.block ?_))))))))
 refine WC.loop (X := Nat) (fun k => L.length - k) (fun k => [(0, .slice a L.length c), (1, .slice b L.length e), (5, .int .i64 (((k : Nat) : Int))), (10, .bool (((((L.length : Nat) : Int) : Int) != (((L.length : Nat) : Int) : Int))))]) (fun k w1 => k ≤ L.length ∧ Below w.heap.size w w1) 0 ⟨rfl, rfl, rfl, rfl, trivial⟩ ?_ ?_
 ·exact ⟨Nat.zero_le _, (Below.refl _ _)⟩
 ·rintro k w1 ⟨hk, hb2⟩
  refine WC.seq (WC.seq (WC.region (WL.mv rfl rfl rfl rfl rfl (WL.mv rfl rfl rfl rfl rfl ?_))))
  refine WL.val (.int .i64 (((L.length : Nat) : Int))) rfl rfl rfl (fun za zC zh zk => len_31 rfl (zh.ev rfl) zk) ?_
  refine WL.val (.bool ((decide ((((k : Nat) : Int) : Int) < (((L.length : Nat) : Int) : Int))))) rfl rfl rfl (fun za zC zh zk => lss_3 rfl (zh.ev rfl) (zh.ev rfl) zk) ?_
  refine WL.nil (WE.next ?_)
  refine WC.cond rfl (fun h3 => ?_) (fun h3 => ?_)
  ·have h3 : (((k : Nat) : Int) : Int) < (((L.length : Nat) : Int) : Int) := by simpa using h3
   refine WC.skip (WE.next (WC.seq (WC.block (WC.seq ?_))))
   obtain ⟨b4, o5, ha6, hc7⟩ := InRow.openI (h1.below hb2)
   obtain ⟨b8, o9, ha10, hc11⟩ := InRow.openI (h2.below hb2)
   refine WC.opt [(true, .val (.slice a L.length c)), (true, .val (.int .i64 (((k : Nat) : Int)))), (true, .val (.pointer (some ⟨b4, o5 + k, none⟩))), (true, .val (.int .i64 ((List.getD L k 0)))), (true, .val (.slice b L.length e)), (true, .val (.int .i64 (((k : Nat) : Int)))), (true, .val (.pointer (some ⟨b8, o9 + k, none⟩))), (true, .val (.int .i64 ((List.getD L k 0)))), (true, .val (.bool ((((List.getD L k 0) : Int) != ((List.getD L k 0) : Int)))))] [(0, .slice a L.length c), (1, .slice b L.length e), (5, .int .i64 (((k : Nat) : Int))), (10, .bool (((((L.length : Nat) : Int) : Int) != (((L.length : Nat) : Int) : Int)))), (14, .bool ((decide ((((k : Nat) : Int) : Int) < (((L.length : Nat) : Int) : Int)))))] ⟨rfl, rfl, rfl, rfl, rfl, trivial⟩ (by kernel_rfl) (by kernel_rfl) (by kernel_rfl) ?_ ?_
   ·refine ⟨⟨true, .none rfl, fun h w => optUndef h, fun zβ za zw zc => ?_⟩, ?_⟩
    ·exact wp_move rfl (zc.kn.ev rfl) ⟨_, rfl, Below.refl _ _, optDef zβ rfl⟩
    refine ⟨⟨true, .none rfl, fun h w => optUndef h, fun zβ za zw zc => ?_⟩, ?_⟩
    ·exact wp_move rfl (zc.kn.ev rfl) ⟨_, rfl, Below.refl _ _, optDef zβ rfl⟩
    refine ⟨⟨true, .none rfl, fun h w => optUndef h, fun zβ za zw zc => ?_⟩, ?_⟩
    ·exact ix_31 (k := k) rfl ((evt za 17).trans (optVal (zc.dep 0 17 (by kernel_rfl)) rfl rfl)) (ha6 k (by omega)) ((evt za 18).trans (optVal (zc.dep 1 18 (by kernel_rfl)) rfl rfl)) (by first | omega | (simp; omega)) ⟨_, rfl, Below.refl _ _, optDef zβ rfl⟩
    refine ⟨⟨true, .none rfl, fun h w => optUndef h, fun zβ za zw zc => ?_⟩, ?_⟩
    ·exact ld_3 rfl ((evt za 19).trans (optVal (zc.dep 2 19 (by kernel_rfl)) rfl rfl)) (bkeeps zc.below _ _ (hc7 k (by omega))) ⟨_, rfl, Below.refl _ _, optDef zβ rfl⟩
    refine ⟨⟨true, .none rfl, fun h w => optUndef h, fun zβ za zw zc => ?_⟩, ?_⟩
    ·exact wp_move rfl (zc.kn.ev rfl) ⟨_, rfl, Below.refl _ _, optDef zβ rfl⟩
    refine ⟨⟨true, .none rfl, fun h w => optUndef h, fun zβ za zw zc => ?_⟩, ?_⟩
    ·exact wp_move rfl (zc.kn.ev rfl) ⟨_, rfl, Below.refl _ _, optDef zβ rfl⟩
    refine ⟨⟨true, .none rfl, fun h w => optUndef h, fun zβ za zw zc => ?_⟩, ?_⟩
    ·exact ix_31 (k := k) rfl ((evt za 21).trans (optVal (zc.dep 4 21 (by kernel_rfl)) rfl rfl)) (ha10 k (by omega)) ((evt za 22).trans (optVal (zc.dep 5 22 (by kernel_rfl)) rfl rfl)) (by first | omega | (simp; omega)) ⟨_, rfl, Below.refl _ _, optDef zβ rfl⟩
    refine ⟨⟨true, .none rfl, fun h w => optUndef h, fun zβ za zw zc => ?_⟩, ?_⟩
    ·exact ld_3 rfl ((evt za 23).trans (optVal (zc.dep 6 23 (by kernel_rfl)) rfl rfl)) (bkeeps zc.below _ _ (hc11 k (by omega))) ⟨_, rfl, Below.refl _ _, optDef zβ rfl⟩
    refine ⟨⟨true, .none rfl, fun h w => optUndef h, fun zβ za zw zc => ?_⟩, ?_⟩
    ·exact neq_3 rfl ((evt za 20).trans (optVal (zc.dep 3 20 (by kernel_rfl)) rfl rfl)) ((evt za 24).trans (optVal (zc.dep 7 24 (by kernel_rfl)) rfl rfl)) ⟨_, rfl, Below.refl _ _, optDef zβ rfl⟩
    exact trivial
   ·intro za w12 zh hb13 zu
    have zh := zh.cons (d := 25) (v := .bool ((((List.getD L k 0) : Int) != ((List.getD L k 0) : Int)))) (optVal (zu 8 25 (by kernel_rfl)) rfl rfl)
    clear zu
    refine WE.go zh ?_
    refine WE.next ?_
    refine WC.condF rfl ((by simp)) ?_
    refine WC.skip (WE.blockNormal (WE.next (WC.region (WL.mv rfl rfl rfl rfl rfl ?_))))
    refine WL.val (.int .i64 ((((k + 1) : Nat) : Int))) rfl rfl rfl (fun za zC zh zk => addb_3 rfl (zh.ev rfl) (zh.ev rfl) (wrap_eq (by omega) (by omega) (by omega)) zk) ?_
    refine WL.asg rfl rfl rfl rfl rfl (WL.nil ?_)
    refine WE.round (k + 1) ⟨rfl, rfl, rfl, rfl, trivial⟩ ?_ ?_
    ·have hb14 : Below w.heap.size w w12 := (bstep hb2 hb13)
     exact ⟨(by (try dsimp only at *); omega), hb14⟩
    ·(try dsimp only at *); omega
  ·have h3 : ¬ ((((k : Nat) : Int) : Int) < (((L.length : Nat) : Int) : Int)) := by simpa using h3
   refine WC.exit (WE.thenExit (WE.thenExit (WE.blockIs rfl (WE.next (WC.seq (WC.region (WL.asg rfl rfl rfl rfl rfl (WL.nil (WE.next (WC.ret (WE.ret1 rfl rfl ?_)))))))))))
   exact ⟨_, rfl, rfl, hb2⟩
def Told0 (w : World) (l : List Int) (v : Value) : Prop := ∃ a c, v = .slice a l.length c ∧ InRow eltI (fun _ => True) w l a
theorem Told0.below {w w' : World} {l : List Int} {v : Value} (h : Told0 w l v) (hb : Below w.heap.size w w') : Told0 w' l v := by
 obtain ⟨a, c, e, h⟩ := h
 exact ⟨a, c, e, h.below hb⟩
theorem told0 {w0 w : World} {l m : List Int} {v : Value} (h : Told w0 w l v) (e : l = m) : Told0 w m v := by
 obtain ⟨a, c, e1, _, _, h⟩ := h
 subst e
 exact ⟨a, c, e1, h.mono (by decide) (fun _ _ _ => trivial)⟩
theorem told_blk {w : World} {g t c : Nat} {l : List Int} (h : Blk w g t ((l.map (Value.int .i64)).toArray)) : Told0 w l (.slice (some ⟨g, 0, none⟩) l.length c) := ⟨_, c, rfl, fun i hi => ⟨g, 0, [.int .i64 l[i]], rfl, trivial, rfl, fun j hj => by
 have hj0 : j = 0 := by have z : j < 1 := hj; omega
 subst hj0
 rw [h.cell]
 show _ = some _
 simp [show eltI.k = 1 from rfl, hi]⟩⟩
theorem row_told {w : World} {l : List Int} {v u : Value} (h1 : Told0 w l v) (h2 : Told0 w l u) (hz : l.length ≤ 1073741824) : Calls Try.prog 19 #[v, u] w (Ret fun v' w' => v' = .bool true ∧ Below w.heap.size w w') := by
 obtain ⟨a, c, rfl, h1⟩ := h1
 obtain ⟨b, e, rfl, h2⟩ := h2
 exact row_same h1 h2 hz
def wkB : List TI := [(((.mk 2 [(.mk (-1) []), (.mk 1 [])]) : T), (1 : Int)), ((.mk 2 [(.mk 1 []), (.mk (-1) [])]), 2), ((.mk (-1) []), 3), ((.mk 1 []), 4)]
theorem wk1 : askP wkB 0 (prt (.mk 2 [(.mk 1 []), (.mk 1 [])])) = [1, 2, 3] := by decide +kernel
theorem wk2 : askP wkB 0 (prt (.mk 1 [])) = [3, 4] := by decide +kernel
theorem wk3 : askP wkB 1 (prt (.mk 2 [(.mk (-1) []), (.mk (-2) [])])) = [3] := by decide +kernel
theorem wk4 : askP wkB 2 (prt (.mk 2 [(.mk (-1) []), (.mk (-2) [])])) = [1, 2] := by decide +kernel
set_option maxRecDepth 100000 in
set_option maxHeartbeats 1000000 in
theorem wakes_any (w : World) : Calls Try.prog 7 #[] w (Ret fun v' w' => v' = .bool true ∧ Below w.heap.size w w') := by
 skip
 refine Calls.walk (l := []) Try.func7 rfl (by kernel_rfl) ?_
 refine WC.sub (K' := []) trivial ?_
 refine WC.seq (WC.region (WL.asg rfl rfl rfl rfl rfl (WL.nil (WE.next (WC.seq (WC.region ?_))))))
 refine WL.call rfl rfl rfl (fun za zh zC => wp_call (by kernel_rfl) rfl (hv0)) (fnew_any _) ?_
 rintro _ w1 ⟨⟨g9, rfl, hF9⟩, hb9⟩
 refine WL.asg rfl rfl rfl rfl rfl (WL.nil (WE.next (WC.seq (WC.region ?_))))
 refine WL.call rfl rfl rfl (fun za zh zC => wp_call (by kernel_rfl) rfl (hv2 (zh.ev rfl) (zh.ev rfl))) (lof_any _ _ _ _ _) ?_
 rintro _ w3 ⟨rfl, hq2⟩
 refine WL.call rfl rfl rfl (fun za zh zC => wp_call (by kernel_rfl) rfl (hv2 (zh.ev rfl) (zh.ev rfl))) (lof_any _ _ _ _ _) ?_
 rintro _ w5 ⟨rfl, hq4⟩
 refine WL.step (post := NewBlk w5 24 #[.int .i64 0, .slice none 0 0]) rfl rfl rfl (fun za zC zh zk => alloc_24 rfl (zk _ _ (newBlk _ _ _))) ?_
 rintro _ w6 ⟨g7, rfl, hg8, hB9, hb10, hz11⟩
 have hb12 : Below w.heap.size w w5 := (bstep (bstep hb9 hq2) hq4)
 have hl13 : w.heap.size ≤ g7 := by have z2 := (hb12).size; omega
 have hb14 : Below w1.heap.size w1 w5 := (bstep hq2 hq4)
 have hl15 : w1.heap.size ≤ g7 := by have z2 := (hb14).size; omega
 refine WL.step (post := NewBlk w6 24 #[.int .i64 0, .slice none 0 0]) rfl rfl rfl (fun za zC zh zk => alloc_24 rfl (zk _ _ (newBlk _ _ _))) ?_
 rintro _ w16 ⟨g17, rfl, hg18, hB19, hb20, hz21⟩
 have hl22 : g7 < g17 := by have z1 := hB9.lt; omega
 have hb23 : Below w.heap.size w w6 := (bstep hb12 hb10)
 have hl24 : w.heap.size ≤ g17 := by have z2 := (hb23).size; omega
 have hb25 : Below w1.heap.size w1 w6 := (bstep hb14 hb10)
 have hl26 : w1.heap.size ≤ g17 := by have z2 := (hb25).size; omega
 have hB27 := hB9.below hb20
 refine WL.step (post := fun _ w' => Upd g7 w16 w' ∧ Blk w' g7 24 #[.int .i64 1, .slice none 0 0]) rfl rfl rfl (fun za zC zh zk => st_24 rfl (zh.ev rfl) (zh.ev rfl) rfl rfl hB27 (by first | decide | simp) (fun v => zk v _ ⟨(Upd.at_ _ _ _ _).trans (Upd.at_ _ _ _ _), (hB27.set_ 0 _).set_ 1 _⟩)) ?_
 rintro v31 w28 ⟨hu29, hB30⟩
 have hb32 : Below w.heap.size w w16 := (bstep hb23 hb20)
 have hb33 : Below w1.heap.size w1 w16 := (bstep hb25 hb20)
 have hb34 := upd_below hb32 hu29 (by omega)
 have hb35 := upd_below hb33 hu29 (by omega)
 have hB36 := upd_blk hB19 hu29 (by omega)
 refine WL.step (post := fun _ w' => Upd g17 w28 w' ∧ Blk w' g17 24 #[.int .i64 ((-1)), .slice none 0 0]) rfl rfl rfl (fun za zC zh zk => st_24 rfl (zh.ev rfl) (zh.ev rfl) rfl rfl hB36 (by first | decide | simp) (fun v => zk v _ ⟨(Upd.at_ _ _ _ _).trans (Upd.at_ _ _ _ _), (hB36.set_ 0 _).set_ 1 _⟩)) ?_
 rintro v40 w37 ⟨hu38, hB39⟩
 have hb41 := upd_below hb34 hu38 (by omega)
 have hb42 := upd_below hb35 hu38 (by omega)
 have hB43 := upd_blk hB30 hu38 (by omega)
 refine WL.nil (WE.next (WC.seq (WC.seq (WC.region (WL.mv rfl rfl rfl rfl rfl ?_)))))
 refine WL.val (.bool false) rfl rfl rfl (fun za zC zh zk => eqlp_27 rfl (zh.ev rfl) (zh.ev rfl) zk) ?_
 refine WL.mv rfl rfl rfl rfl rfl ?_
 refine WL.want (d := 9) rfl rfl rfl ?_
 refine WL.mv rfl rfl rfl rfl rfl ?_
 refine WL.want (d := 9) rfl rfl rfl ?_
 refine WL.val _ rfl rfl rfl (fun za zC zh zk => ld_24 rfl (zh.ev rfl) ((hB39.cell 0).trans rfl) ((hB39.cell 1).trans rfl) zk) ?_
 refine WL.want (d := 9) rfl rfl rfl ?_
 refine WL.val _ rfl rfl rfl (fun za zC zh zk => ld_24 rfl (zh.ev rfl) ((hB43.cell 0).trans rfl) ((hB43.cell 1).trans rfl) zk) ?_
 refine WL.want (d := 9) rfl rfl rfl ?_
 refine WL.step (post := NewRow w37 24 #[.int .i64 ((-1)), .slice none 0 0, .int .i64 1, .slice none 0 0] 2) rfl rfl rfl (fun za zC zh zk => row_22_2 rfl (zh.ev rfl) (zh.ev rfl) (zk _ _ (newRow _ _ _ _))) ?_
 rintro _ w44 ⟨g45, rfl, hg46, hB47, hb48, hz49⟩
 have hl50 : g7 < g45 := by have z1 := hB43.lt; omega
 have hl51 : g17 < g45 := by have z1 := hB39.lt; omega
 have hl52 : w.heap.size ≤ g45 := by have z2 := (hb41).size; omega
 have hl53 : w1.heap.size ≤ g45 := by have z2 := (hb42).size; omega
 refine WL.want (d := 9) rfl rfl rfl ?_
 refine WL.call rfl rfl rfl (fun za zh zC => wp_call (by kernel_rfl) rfl (hv2 (zh.ev rfl) (zh.ev rfl))) (lof_any _ _ _ _ _) ?_
 rintro _ w55 ⟨rfl, hq54⟩
 refine WL.want (d := 9) rfl rfl rfl ?_
 have hb57 : Below w37.heap.size w37 w55 := (bstep hb48 hq54)
 have hB56 := hB43.below hb57
 have hB58 := hB39.below hb57
 have hB59 := hB47.below hq54
 have hq0 : ∀ b, (fun b => w.heap.size ≤ b ∧ b < w1.heap.size) b → w.heap.size ≤ b ∧ b ≠ g7 ∧ b ≠ g17 := fun b q => ⟨by have z := q.1; (have z2 := q.1); omega, by have z := q.2; (have z3 := q.2); omega, by have z := q.2; (have z3 := q.2); omega⟩
 have hT0 : IsT w55 (.mk 2 [(.mk ((-1)) []), (.mk 1 [])]) (.agg #[.int .i64 2, .slice ((some ⟨g45, 0, none⟩)) 2 2]) := (isT_mk (by unfold I64; decide) ⟨_, _, rfl, Nat.le_refl _, by unfold maxLen; decide, ⟨⟨_, 0, _, _, rfl, (hB59.cell _).trans rfl, (hB59.cell _).trans rfl, (isT_lf (by decide))⟩, ⟨⟨_, 0, _, _, rfl, (hB59.cell _).trans rfl, (hB59.cell _).trans rfl, (isT_lf (by decide))⟩, trivial⟩⟩⟩)
 have hb61 : Below w1.heap.size w1 w55 := (bstep hb42 hb57)
 have ho60 := hF9.below hb61
 have hl62 := hB56.lt
 have hl63 := hB58.lt
 refine WL.call rfl rfl rfl (fun za zh zC => wp_call (by kernel_rfl) rfl (hv3 (zh.ev rfl) (zh.ev rfl) (zh.ev rfl))) (fadd_any g9 _ [] _ (.mk 2 [(.mk ((-1)) []), (.mk 1 [])]) _ 1 (by decide) (by unfold I64; decide) (by decide) (by decide) hT0 ho60) ?_
 rintro _ w64 ⟨rfl, ⟨Z0_, hf0_, hz0_⟩, hc0_⟩
 have hb65 : Below w.heap.size w w55 := (bstep hb9 hb61)
 have hb66 := chg_below hb65 hc0_ (fun b hb => (fun h => by have z := hq0 _ h; (try dsimp only at *); omega))
 have hB67 := chg_blk hB56 hc0_ (fun h => by have z := hq0 _ h; (try dsimp only at *); omega)
 have hB68 := chg_blk hB58 hc0_ (fun h => by have z := hq0 _ h; (try dsimp only at *); omega)
 have hw0_ := (hb65).size
 have hq1 : ∀ b, Z0_ b → w.heap.size ≤ b ∧ b ≠ g7 ∧ b ≠ g17 := fun b q => by
  rcases hz0_ b q with q | q
  ·exact hq0 b q
  ·omega
 refine WL.want (d := 9) rfl rfl rfl ?_
 refine WL.val (.bool false) rfl rfl rfl (fun za zC zh zk => neq_29 rfl (zh.ev rfl) (zh.ev rfl) (by rw [show ((0 : Int) != (0 : Int)) = false from rfl]; exact zk)) ?_
 refine WL.val (.bool false) rfl rfl rfl (fun za zC zh zk => wp_pickF rfl (zh.ev rfl) (zh.ev rfl) zk) ?_
 refine WL.mv rfl rfl rfl rfl rfl ?_
 refine WL.want (d := 18) rfl rfl rfl ?_
 refine WL.mv rfl rfl rfl rfl rfl ?_
 refine WL.want (d := 18) rfl rfl rfl ?_
 refine WL.val _ rfl rfl rfl (fun za zC zh zk => ld_24 rfl (zh.ev rfl) ((hB67.cell 0).trans rfl) ((hB67.cell 1).trans rfl) zk) ?_
 refine WL.want (d := 18) rfl rfl rfl ?_
 refine WL.val _ rfl rfl rfl (fun za zC zh zk => ld_24 rfl (zh.ev rfl) ((hB68.cell 0).trans rfl) ((hB68.cell 1).trans rfl) zk) ?_
 refine WL.want (d := 18) rfl rfl rfl ?_
 refine WL.step (post := NewRow w64 24 #[.int .i64 1, .slice none 0 0, .int .i64 ((-1)), .slice none 0 0] 2) rfl rfl rfl (fun za zC zh zk => row_22_2 rfl (zh.ev rfl) (zh.ev rfl) (zk _ _ (newRow _ _ _ _))) ?_
 rintro _ w69 ⟨g70, rfl, hg71, hB72, hb73, hz74⟩
 have hl75 : g7 < g70 := by have z1 := hB67.lt; omega
 have hl76 : g17 < g70 := by have z1 := hB68.lt; omega
 have hl77 : w.heap.size ≤ g70 := by have z2 := (hb66).size; omega
 have hl78 : w64.heap.size ≤ g70 := by omega
 refine WL.want (d := 18) rfl rfl rfl ?_
 refine WL.call rfl rfl rfl (fun za zh zC => wp_call (by kernel_rfl) rfl (hv2 (zh.ev rfl) (zh.ev rfl))) (lof_any _ _ _ _ _) ?_
 rintro _ w80 ⟨rfl, hq79⟩
 refine WL.want (d := 18) rfl rfl rfl ?_
 have hB81 := hB72.below hq79
 have hT1 : IsT w80 (.mk 2 [(.mk 1 []), (.mk ((-1)) [])]) (.agg #[.int .i64 2, .slice ((some ⟨g70, 0, none⟩)) 2 2]) := (isT_mk (by unfold I64; decide) ⟨_, _, rfl, Nat.le_refl _, by unfold maxLen; decide, ⟨⟨_, 0, _, _, rfl, (hB81.cell _).trans rfl, (hB81.cell _).trans rfl, (isT_lf (by decide))⟩, ⟨⟨_, 0, _, _, rfl, (hB81.cell _).trans rfl, (hB81.cell _).trans rfl, (isT_lf (by decide))⟩, trivial⟩⟩⟩)
 have hb83 : Below w64.heap.size w64 w80 := (bstep hb73 hq79)
 have ho82 := hf0_.below hb83
 have hB84 := hB67.below hb83
 have hl85 := hB84.lt
 have hB86 := hB68.below hb83
 have hl87 := hB86.lt
 refine WL.call rfl rfl rfl (fun za zh zC => wp_call (by kernel_rfl) rfl (hv3 (zh.ev rfl) (zh.ev rfl) (zh.ev rfl))) (fadd_any g9 _ [((.mk 2 [(.mk (-1) []), (.mk 1 [])]), 1)] _ (.mk 2 [(.mk 1 []), (.mk ((-1)) [])]) _ 2 (by decide) (by unfold I64; decide) (by decide) (by decide) hT1 ho82) ?_
 rintro _ w88 ⟨rfl, ⟨Z1_, hf1_, hz1_⟩, hc1_⟩
 have hb89 : Below w.heap.size w w80 := (bstep hb66 hb83)
 have hb90 := chg_below hb89 hc1_ (fun b hb => (fun h => by have z := hq1 _ h; (try dsimp only at *); omega))
 have hB91 := chg_blk hB84 hc1_ (fun h => by have z := hq1 _ h; (try dsimp only at *); omega)
 have hB92 := chg_blk hB86 hc1_ (fun h => by have z := hq1 _ h; (try dsimp only at *); omega)
 have hw1_ := (hb89).size
 have hq2 : ∀ b, Z1_ b → w.heap.size ≤ b ∧ b ≠ g7 ∧ b ≠ g17 := fun b q => by
  rcases hz1_ b q with q | q
  ·exact hq1 b q
  ·omega
 refine WL.want (d := 18) rfl rfl rfl ?_
 refine WL.val (.bool false) rfl rfl rfl (fun za zC zh zk => neq_29 rfl (zh.ev rfl) (zh.ev rfl) (by rw [show ((0 : Int) != (0 : Int)) = false from rfl]; exact zk)) ?_
 refine WL.val (.bool false) rfl rfl rfl (fun za zC zh zk => wp_pickF rfl (zh.ev rfl) (zh.ev rfl) zk) ?_
 refine WL.mv rfl rfl rfl rfl rfl ?_
 refine WL.want (d := 27) rfl rfl rfl ?_
 refine WL.mv rfl rfl rfl rfl rfl ?_
 refine WL.want (d := 27) rfl rfl rfl ?_
 refine WL.val _ rfl rfl rfl (fun za zC zh zk => ld_24 rfl (zh.ev rfl) ((hB92.cell 0).trans rfl) ((hB92.cell 1).trans rfl) zk) ?_
 refine WL.want (d := 27) rfl rfl rfl ?_
 have hT2 : IsT w88 (.mk ((-1)) []) (.agg #[.int .i64 ((-1)), .slice none 0 0]) := (isT_lf (by decide))
 have hl93 := hB91.lt
 have hl94 := hB92.lt
 refine WL.call rfl rfl rfl (fun za zh zC => wp_call (by kernel_rfl) rfl (hv3 (zh.ev rfl) (zh.ev rfl) (zh.ev rfl))) (fadd_any g9 _ [((.mk 2 [(.mk (-1) []), (.mk 1 [])]), 1), ((.mk 2 [(.mk 1 []), (.mk (-1) [])]), 2)] _ (.mk ((-1)) []) _ 3 (by decide) (by unfold I64; decide) (by decide) (by decide) hT2 hf1_) ?_
 rintro _ w95 ⟨rfl, ⟨Z2_, hf2_, hz2_⟩, hc2_⟩
 have hb96 := chg_below hb90 hc2_ (fun b hb => (fun h => by have z := hq2 _ h; (try dsimp only at *); omega))
 have hB97 := chg_blk hB91 hc2_ (fun h => by have z := hq2 _ h; (try dsimp only at *); omega)
 have hB98 := chg_blk hB92 hc2_ (fun h => by have z := hq2 _ h; (try dsimp only at *); omega)
 have hw2_ := (hb90).size
 have hq3 : ∀ b, Z2_ b → w.heap.size ≤ b ∧ b ≠ g7 ∧ b ≠ g17 := fun b q => by
  rcases hz2_ b q with q | q
  ·exact hq2 b q
  ·omega
 refine WL.want (d := 27) rfl rfl rfl ?_
 refine WL.val (.bool false) rfl rfl rfl (fun za zC zh zk => neq_29 rfl (zh.ev rfl) (zh.ev rfl) (by rw [show ((0 : Int) != (0 : Int)) = false from rfl]; exact zk)) ?_
 refine WL.val (.bool false) rfl rfl rfl (fun za zC zh zk => wp_pickF rfl (zh.ev rfl) (zh.ev rfl) zk) ?_
 refine WL.mv rfl rfl rfl rfl rfl ?_
 refine WL.want (d := 33) rfl rfl rfl ?_
 refine WL.mv rfl rfl rfl rfl rfl ?_
 refine WL.want (d := 33) rfl rfl rfl ?_
 refine WL.val _ rfl rfl rfl (fun za zC zh zk => ld_24 rfl (zh.ev rfl) ((hB97.cell 0).trans rfl) ((hB97.cell 1).trans rfl) zk) ?_
 refine WL.want (d := 33) rfl rfl rfl ?_
 have hT3 : IsT w95 (.mk 1 []) (.agg #[.int .i64 1, .slice none 0 0]) := (isT_lf (by decide))
 have hl99 := hB97.lt
 have hl100 := hB98.lt
 refine WL.call rfl rfl rfl (fun za zh zC => wp_call (by kernel_rfl) rfl (hv3 (zh.ev rfl) (zh.ev rfl) (zh.ev rfl))) (fadd_any g9 _ [((.mk 2 [(.mk (-1) []), (.mk 1 [])]), 1), ((.mk 2 [(.mk 1 []), (.mk (-1) [])]), 2), ((.mk (-1) []), 3)] _ (.mk 1 []) _ 4 (by decide) (by unfold I64; decide) (by decide) (by decide) hT3 hf2_) ?_
 rintro _ w101 ⟨rfl, ⟨Z3_, hf3_, hz3_⟩, hc3_⟩
 have hb102 := chg_below hb96 hc3_ (fun b hb => (fun h => by have z := hq3 _ h; (try dsimp only at *); omega))
 have hB103 := chg_blk hB97 hc3_ (fun h => by have z := hq3 _ h; (try dsimp only at *); omega)
 have hB104 := chg_blk hB98 hc3_ (fun h => by have z := hq3 _ h; (try dsimp only at *); omega)
 have hw3_ := (hb96).size
 have hq4 : ∀ b, Z3_ b → w.heap.size ≤ b ∧ b ≠ g7 ∧ b ≠ g17 := fun b q => by
  rcases hz3_ b q with q | q
  ·exact hq3 b q
  ·omega
 refine WL.want (d := 33) rfl rfl rfl ?_
 refine WL.val (.bool false) rfl rfl rfl (fun za zC zh zk => neq_29 rfl (zh.ev rfl) (zh.ev rfl) (by rw [show ((0 : Int) != (0 : Int)) = false from rfl]; exact zk)) ?_
 refine WL.val (.bool false) rfl rfl rfl (fun za zC zh zk => wp_pickF rfl (zh.ev rfl) (zh.ev rfl) zk) ?_
 refine WL.nil (WE.sub (K' := [(0, .bool false), (1, .pointer (some ⟨g9, 0, none⟩)), (2, .pointer (some ⟨g7, 0, none⟩)), (3, .pointer (some ⟨g17, 0, none⟩)), (38, .bool false)]) ⟨rfl, rfl, rfl, rfl, rfl, trivial⟩ ?_)
 refine WE.next ?_
 refine WC.condF rfl rfl ?_
 refine WC.skip (WE.next (WC.seq ?_))
 refine WC.opt [(true, .val (.pointer (some ⟨g9, 0, none⟩))), (true, .val (.agg #[.int .i64 1, .slice none 0 0])), (true, .val (.agg #[.int .i64 1, .slice none 0 0])), (true, .mem (fun v w => RowT ([(.mk 1 []), (.mk 1 [])]) v w) (fun v w w' hb h => h.below hb)), (true, .mem (fun v w => IsT w ((.mk 2 [(.mk 1 []), (.mk 1 [])])) v) isT_keep), (true, .mem (fun v w => Told0 w [1, 2, 3] v) (fun v w w' hb h => h.below hb)), (true, .mem (fun v w => Told0 w [1, 2, 3] v) (fun v w w' hb h => h.below hb)), (true, .val (.bool true)), (true, .val (.bool true)), ((true && true), .val (.pointer (some ⟨g9, 0, none⟩))), ((true && true), .val (.agg #[.int .i64 1, .slice none 0 0])), ((true && true), .mem (fun v w => Told0 w [3, 4] v) (fun v w w' hb h => h.below hb)), ((true && true), .mem (fun v w => Told0 w [3, 4] v) (fun v w w' hb h => h.below hb)), ((true && true), .val (.bool true)), (true, .val (.bool true)), (true, .val (.bool true)), ((true && true), .val (.pointer (some ⟨g9, 0, none⟩))), ((true && true), .val (.agg #[.int .i64 ((-1)), .slice none 0 0])), ((true && true), .mem (fun v w => IsT w ((.mk ((-2)) [])) v) isT_keep), ((true && true), .mem (fun v w => RowT ([(.mk ((-1)) []), (.mk ((-2)) [])]) v w) (fun v w w' hb h => h.below hb)), ((true && true), .mem (fun v w => IsT w ((.mk 2 [(.mk ((-1)) []), (.mk ((-2)) [])])) v) isT_keep), ((true && true), .mem (fun v w => Told0 w [3] v) (fun v w w' hb h => h.below hb)), ((true && true), .mem (fun v w => Told0 w [3] v) (fun v w w' hb h => h.below hb)), ((true && true), .val (.bool true)), (true, .val (.bool true)), (true, .val (.bool true)), ((true && true), .val (.pointer (some ⟨g9, 0, none⟩))), ((true && true), .val (.agg #[.int .i64 ((-1)), .slice none 0 0])), ((true && true), .mem (fun v w => IsT w ((.mk ((-2)) [])) v) isT_keep), ((true && true), .mem (fun v w => RowT ([(.mk ((-1)) []), (.mk ((-2)) [])]) v w) (fun v w w' hb h => h.below hb)), ((true && true), .mem (fun v w => IsT w ((.mk 2 [(.mk ((-1)) []), (.mk ((-2)) [])])) v) isT_keep), ((true && true), .mem (fun v w => Told0 w [1, 2] v) (fun v w w' hb h => h.below hb)), ((true && true), .mem (fun v w => Told0 w [1, 2] v) (fun v w w' hb h => h.below hb)), ((true && true), .val (.bool true)), (true, .val (.bool true)), (true, .val (.bool true)), ((true && true), .val (.pointer (some ⟨g9, 0, none⟩))), ((true && true), .val (.int .i64 (((List.length wkB : Nat) : Int)))), ((true && true), .val (.bool true)), (true, .val (.bool true)), (true, .val (.bool true)), ((true && true), .val (.pointer (some ⟨g9, 0, none⟩))), ((true && true), .val (.agg #[.int .i64 1, .slice none 0 0])), ((true && true), .val (.int .i64 2)), ((true && true), .val (.bool true)), (true, .val (.bool true)), (true, .val (.bool true))] [(1, .pointer (some ⟨g9, 0, none⟩)), (2, .pointer (some ⟨g7, 0, none⟩)), (3, .pointer (some ⟨g17, 0, none⟩)), (38, .bool false)] ⟨rfl, rfl, rfl, rfl, trivial⟩ (by kernel_rfl) (by kernel_rfl) (by kernel_rfl) ?_ ?_
 ·refine ⟨⟨true, .none rfl, fun h w => optUndef h, fun zβ za zw zc => ?_⟩, ?_⟩
  ·exact wp_move rfl (zc.kn.ev rfl) ⟨_, rfl, Below.refl _ _, optDef zβ rfl⟩
  refine ⟨⟨true, .none rfl, fun h w => optUndef h, fun zβ za zw zc => ?_⟩, ?_⟩
  ·exact ld_24 rfl (zc.kn.ev rfl) (bkeeps zc.below _ _ ((hB103.cell 0).trans rfl)) (bkeeps zc.below _ _ ((hB103.cell 1).trans rfl)) ⟨_, rfl, Below.refl _ _, optDef zβ rfl⟩
  refine ⟨⟨true, .none rfl, fun h w => optUndef h, fun zβ za zw zc => ?_⟩, ?_⟩
  ·exact ld_24 rfl (zc.kn.ev rfl) (bkeeps zc.below _ _ ((hB103.cell 0).trans rfl)) (bkeeps zc.below _ _ ((hB103.cell 1).trans rfl)) ⟨_, rfl, Below.refl _ _, optDef zβ rfl⟩
  refine ⟨⟨true, .none rfl, fun h w => optUndef h, fun zβ za zw zc => ?_⟩, ?_⟩
  ·have m0 : IsT zw (.mk 1 []) (.agg #[.int .i64 1, .slice none 0 0]) := isT_lf (by decide)
   have E0 := ((evt za 40).trans (optVal (zc.dep 1 40 (by kernel_rfl)) rfl rfl))
   have m1 : IsT zw (.mk 1 []) (.agg #[.int .i64 1, .slice none 0 0]) := isT_lf (by decide)
   have E1 := ((evt za 41).trans (optVal (zc.dep 2 41 (by kernel_rfl)) rfl rfl))
   exact row_22_2 rfl E0 E1 ⟨_, rfl, balloc _ _, optDef zβ ⟨_, _, rfl, Nat.le_refl _, by unfold maxLen; decide, ⟨⟨_, 0, _, _, rfl, (Blk.cell (Blk.new' rfl) _).trans rfl, (Blk.cell (Blk.new' rfl) _).trans rfl, IsT.below (balloc _ _) m0⟩, ⟨⟨_, 0, _, _, rfl, (Blk.cell (Blk.new' rfl) _).trans rfl, (Blk.cell (Blk.new' rfl) _).trans rfl, IsT.below (balloc _ _) m1⟩, trivial⟩⟩⟩⟩
  refine ⟨⟨true, .none rfl, fun h w => optUndef h, fun zβ za zw zc => ?_⟩, ?_⟩
  ·obtain ⟨a1, c1, e1, hr1⟩ := (optMem (zc.dep 3 42 (by kernel_rfl)) rfl rfl)
   have m1 := (optMem (zc.dep 3 42 (by kernel_rfl)) rfl rfl)
   rw [e1] at m1
   exact wp_call (by kernel_rfl) rfl (hv2 (zc.kn.ev rfl) (((evt za 42)).trans e1)) (lof_any _ _ _ _ _) (fun v w' h => ⟨v, rfl, h.2, optDef zβ (by rw [h.1]; exact isT_mk (by unfold I64; decide) (m1.below h.2))⟩)
  refine ⟨⟨true, .none rfl, fun h w => optUndef h, fun zβ za zw zc => ?_⟩, ?_⟩
  ·obtain ⟨_, aq, cq, eq, _, _, _⟩ := IsT.form (optMem (zc.dep 4 43 (by kernel_rfl)) rfl rfl)
   have mq := (optMem (zc.dep 4 43 (by kernel_rfl)) rfl rfl)
   rw [eq] at mq
   have Eq := ((evt za 43)).trans eq
   exact wp_call (by kernel_rfl) rfl (hv2 ((evt za 39).trans (optVal (zc.dep 0 39 (by kernel_rfl)) rfl rfl)) Eq) (fUni_any g9 _ wkB _ (.mk 2 [(.mk 1 []), (.mk 1 [])]) _ (by decide) mq (FpIs.below hf3_ zc.below)) (fun v w' h => ⟨v, rfl, h.2, optDef zβ (told0 h.1 wk1)⟩)
  refine ⟨⟨true, .none rfl, fun h w => optUndef h, fun zβ za zw zc => ?_⟩, ?_⟩
  ·exact row_31_3 rfl (zc.kn.ev rfl) (zc.kn.ev rfl) (zc.kn.ev rfl) ⟨_, rfl, balloc _ _, optDef zβ (told_blk (l := [1, 2, 3]) (Blk.new' rfl))⟩
  refine ⟨⟨true, .none rfl, fun h w => optUndef h, fun zβ za zw zc => ?_⟩, ?_⟩
  ·exact wp_call (by kernel_rfl) rfl (hv2 (evt za 44) (evt za 45)) (row_told (optMem (zc.dep 5 44 (by kernel_rfl)) rfl rfl) (optMem (zc.dep 6 45 (by kernel_rfl)) rfl rfl) (by decide)) (fun v w' h => ⟨v, rfl, h.2, optDef zβ h.1⟩)
  refine ⟨⟨true, .none rfl, fun h w => optUndef h, fun zβ za zw zc => ?_⟩, ?_⟩
  ·exact wp_move rfl ((evt za 46).trans (optVal (zc.dep 7 46 (by kernel_rfl)) rfl rfl)) ⟨_, rfl, Below.refl _ _, optDef zβ rfl⟩
  refine ⟨⟨_, .yes (d := true) rfl (fun v w h => h), fun h w => optUndef h, fun zβ za zw zc => ?_⟩, ?_⟩
  ·exact wp_move rfl (zc.kn.ev rfl) ⟨_, rfl, Below.refl _ _, optDef zβ rfl⟩
  refine ⟨⟨_, .yes (d := true) rfl (fun v w h => h), fun h w => optUndef h, fun zβ za zw zc => ?_⟩, ?_⟩
  ·exact ld_24 rfl (zc.kn.ev rfl) (bkeeps zc.below _ _ ((hB103.cell 0).trans rfl)) (bkeeps zc.below _ _ ((hB103.cell 1).trans rfl)) ⟨_, rfl, Below.refl _ _, optDef zβ rfl⟩
  refine ⟨⟨_, .yes (d := true) rfl (fun v w h => h), fun h w => optUndef h, fun zβ za zw zc => ?_⟩, ?_⟩
  ·have mq : IsT zw (.mk 1 []) (.agg #[.int .i64 1, .slice none 0 0]) := isT_lf (by decide)
   have Eq := ((evt za 49).trans (optVal (zc.dep 10 49 (by kernel_rfl)) rfl rfl))
   exact wp_call (by kernel_rfl) rfl (hv2 ((evt za 48).trans (optVal (zc.dep 9 48 (by kernel_rfl)) rfl rfl)) Eq) (fUni_any g9 _ wkB _ (.mk 1 []) _ (by decide) mq (FpIs.below hf3_ zc.below)) (fun v w' h => ⟨v, rfl, h.2, optDef zβ (told0 h.1 wk2)⟩)
  refine ⟨⟨_, .yes (d := true) rfl (fun v w h => h), fun h w => optUndef h, fun zβ za zw zc => ?_⟩, ?_⟩
  ·exact row_31_2 rfl (zc.kn.ev rfl) (zc.kn.ev rfl) ⟨_, rfl, balloc _ _, optDef zβ (told_blk (l := [3, 4]) (Blk.new' rfl))⟩
  refine ⟨⟨_, .yes (d := true) rfl (fun v w h => h), fun h w => optUndef h, fun zβ za zw zc => ?_⟩, ?_⟩
  ·exact wp_call (by kernel_rfl) rfl (hv2 (evt za 50) (evt za 51)) (row_told (optMem (zc.dep 11 50 (by kernel_rfl)) rfl rfl) (optMem (zc.dep 12 51 (by kernel_rfl)) rfl rfl) (by decide)) (fun v w' h => ⟨v, rfl, h.2, optDef zβ h.1⟩)
  refine ⟨⟨true, .none rfl, fun h w => optUndef h, fun zβ za zw zc => ?_⟩, ?_⟩
  ·exact wp_pickT rfl ((evt za 47).trans (optVal (zc.dep 8 47 (by kernel_rfl)) rfl rfl)) ((evt za 52).trans (optVal (zc.dep 13 52 (by kernel_rfl)) rfl rfl)) ⟨_, rfl, Below.refl _ _, optDef zβ rfl⟩
  refine ⟨⟨true, .none rfl, fun h w => optUndef h, fun zβ za zw zc => ?_⟩, ?_⟩
  ·exact wp_move rfl ((evt za 53).trans (optVal (zc.dep 14 53 (by kernel_rfl)) rfl rfl)) ⟨_, rfl, Below.refl _ _, optDef zβ rfl⟩
  refine ⟨⟨_, .yes (d := true) rfl (fun v w h => h), fun h w => optUndef h, fun zβ za zw zc => ?_⟩, ?_⟩
  ·exact wp_move rfl (zc.kn.ev rfl) ⟨_, rfl, Below.refl _ _, optDef zβ rfl⟩
  refine ⟨⟨_, .yes (d := true) rfl (fun v w h => h), fun h w => optUndef h, fun zβ za zw zc => ?_⟩, ?_⟩
  ·exact ld_24 rfl (zc.kn.ev rfl) (bkeeps zc.below _ _ ((hB104.cell 0).trans rfl)) (bkeeps zc.below _ _ ((hB104.cell 1).trans rfl)) ⟨_, rfl, Below.refl _ _, optDef zβ rfl⟩
  refine ⟨⟨_, .yes (d := true) rfl (fun v w h => h), fun h w => optUndef h, fun zβ za zw zc => ?_⟩, ?_⟩
  ·exact wp_call (by kernel_rfl) rfl (hv2 (zc.kn.ev rfl) (zc.kn.ev rfl)) (lof_any _ _ _ _ _) (fun v w' h => ⟨v, rfl, h.2, optDef zβ (by rw [h.1]; exact isT_lf (by decide))⟩)
  refine ⟨⟨_, .yes (d := true) rfl (fun v w h => h), fun h w => optUndef h, fun zβ za zw zc => ?_⟩, ?_⟩
  ·have m0 : IsT zw (.mk ((-1)) []) (.agg #[.int .i64 ((-1)), .slice none 0 0]) := isT_lf (by decide)
   have E0 := ((evt za 56).trans (optVal (zc.dep 17 56 (by kernel_rfl)) rfl rfl))
   obtain ⟨_, a1, c1, e1, _, _, _⟩ := IsT.form (optMem (zc.dep 18 57 (by kernel_rfl)) rfl rfl)
   have m1 := (optMem (zc.dep 18 57 (by kernel_rfl)) rfl rfl)
   rw [e1] at m1
   have E1 := ((evt za 57)).trans e1
   exact row_22_2 rfl E0 E1 ⟨_, rfl, balloc _ _, optDef zβ ⟨_, _, rfl, Nat.le_refl _, by unfold maxLen; decide, ⟨⟨_, 0, _, _, rfl, (Blk.cell (Blk.new' rfl) _).trans rfl, (Blk.cell (Blk.new' rfl) _).trans rfl, IsT.below (balloc _ _) m0⟩, ⟨⟨_, 0, _, _, rfl, (Blk.cell (Blk.new' rfl) _).trans rfl, (Blk.cell (Blk.new' rfl) _).trans rfl, IsT.below (balloc _ _) m1⟩, trivial⟩⟩⟩⟩
  refine ⟨⟨_, .yes (d := true) rfl (fun v w h => h), fun h w => optUndef h, fun zβ za zw zc => ?_⟩, ?_⟩
  ·obtain ⟨a1, c1, e1, hr1⟩ := (optMem (zc.dep 19 58 (by kernel_rfl)) rfl rfl)
   have m1 := (optMem (zc.dep 19 58 (by kernel_rfl)) rfl rfl)
   rw [e1] at m1
   exact wp_call (by kernel_rfl) rfl (hv2 (zc.kn.ev rfl) (((evt za 58)).trans e1)) (lof_any _ _ _ _ _) (fun v w' h => ⟨v, rfl, h.2, optDef zβ (by rw [h.1]; exact isT_mk (by unfold I64; decide) (m1.below h.2))⟩)
  refine ⟨⟨_, .yes (d := true) rfl (fun v w h => h), fun h w => optUndef h, fun zβ za zw zc => ?_⟩, ?_⟩
  ·obtain ⟨_, aq, cq, eq, _, _, _⟩ := IsT.form (optMem (zc.dep 20 59 (by kernel_rfl)) rfl rfl)
   have mq := (optMem (zc.dep 20 59 (by kernel_rfl)) rfl rfl)
   rw [eq] at mq
   have Eq := ((evt za 59)).trans eq
   exact wp_call (by kernel_rfl) rfl (hv2 ((evt za 55).trans (optVal (zc.dep 16 55 (by kernel_rfl)) rfl rfl)) Eq) (fGen_any g9 _ wkB _ (.mk 2 [(.mk ((-1)) []), (.mk ((-2)) [])]) _ (by decide) mq (FpIs.below hf3_ zc.below)) (fun v w' h => ⟨v, rfl, h.2, optDef zβ (told0 h.1 wk3)⟩)
  refine ⟨⟨_, .yes (d := true) rfl (fun v w h => h), fun h w => optUndef h, fun zβ za zw zc => ?_⟩, ?_⟩
  ·exact row_31_1 rfl (zc.kn.ev rfl) ⟨_, rfl, balloc _ _, optDef zβ (told_blk (l := [3]) (Blk.new' rfl))⟩
  refine ⟨⟨_, .yes (d := true) rfl (fun v w h => h), fun h w => optUndef h, fun zβ za zw zc => ?_⟩, ?_⟩
  ·exact wp_call (by kernel_rfl) rfl (hv2 (evt za 60) (evt za 61)) (row_told (optMem (zc.dep 21 60 (by kernel_rfl)) rfl rfl) (optMem (zc.dep 22 61 (by kernel_rfl)) rfl rfl) (by decide)) (fun v w' h => ⟨v, rfl, h.2, optDef zβ h.1⟩)
  refine ⟨⟨true, .none rfl, fun h w => optUndef h, fun zβ za zw zc => ?_⟩, ?_⟩
  ·exact wp_pickT rfl ((evt za 54).trans (optVal (zc.dep 15 54 (by kernel_rfl)) rfl rfl)) ((evt za 62).trans (optVal (zc.dep 23 62 (by kernel_rfl)) rfl rfl)) ⟨_, rfl, Below.refl _ _, optDef zβ rfl⟩
  refine ⟨⟨true, .none rfl, fun h w => optUndef h, fun zβ za zw zc => ?_⟩, ?_⟩
  ·exact wp_move rfl ((evt za 63).trans (optVal (zc.dep 24 63 (by kernel_rfl)) rfl rfl)) ⟨_, rfl, Below.refl _ _, optDef zβ rfl⟩
  refine ⟨⟨_, .yes (d := true) rfl (fun v w h => h), fun h w => optUndef h, fun zβ za zw zc => ?_⟩, ?_⟩
  ·exact wp_move rfl (zc.kn.ev rfl) ⟨_, rfl, Below.refl _ _, optDef zβ rfl⟩
  refine ⟨⟨_, .yes (d := true) rfl (fun v w h => h), fun h w => optUndef h, fun zβ za zw zc => ?_⟩, ?_⟩
  ·exact ld_24 rfl (zc.kn.ev rfl) (bkeeps zc.below _ _ ((hB104.cell 0).trans rfl)) (bkeeps zc.below _ _ ((hB104.cell 1).trans rfl)) ⟨_, rfl, Below.refl _ _, optDef zβ rfl⟩
  refine ⟨⟨_, .yes (d := true) rfl (fun v w h => h), fun h w => optUndef h, fun zβ za zw zc => ?_⟩, ?_⟩
  ·exact wp_call (by kernel_rfl) rfl (hv2 (zc.kn.ev rfl) (zc.kn.ev rfl)) (lof_any _ _ _ _ _) (fun v w' h => ⟨v, rfl, h.2, optDef zβ (by rw [h.1]; exact isT_lf (by decide))⟩)
  refine ⟨⟨_, .yes (d := true) rfl (fun v w h => h), fun h w => optUndef h, fun zβ za zw zc => ?_⟩, ?_⟩
  ·have m0 : IsT zw (.mk ((-1)) []) (.agg #[.int .i64 ((-1)), .slice none 0 0]) := isT_lf (by decide)
   have E0 := ((evt za 66).trans (optVal (zc.dep 27 66 (by kernel_rfl)) rfl rfl))
   obtain ⟨_, a1, c1, e1, _, _, _⟩ := IsT.form (optMem (zc.dep 28 67 (by kernel_rfl)) rfl rfl)
   have m1 := (optMem (zc.dep 28 67 (by kernel_rfl)) rfl rfl)
   rw [e1] at m1
   have E1 := ((evt za 67)).trans e1
   exact row_22_2 rfl E0 E1 ⟨_, rfl, balloc _ _, optDef zβ ⟨_, _, rfl, Nat.le_refl _, by unfold maxLen; decide, ⟨⟨_, 0, _, _, rfl, (Blk.cell (Blk.new' rfl) _).trans rfl, (Blk.cell (Blk.new' rfl) _).trans rfl, IsT.below (balloc _ _) m0⟩, ⟨⟨_, 0, _, _, rfl, (Blk.cell (Blk.new' rfl) _).trans rfl, (Blk.cell (Blk.new' rfl) _).trans rfl, IsT.below (balloc _ _) m1⟩, trivial⟩⟩⟩⟩
  refine ⟨⟨_, .yes (d := true) rfl (fun v w h => h), fun h w => optUndef h, fun zβ za zw zc => ?_⟩, ?_⟩
  ·obtain ⟨a1, c1, e1, hr1⟩ := (optMem (zc.dep 29 68 (by kernel_rfl)) rfl rfl)
   have m1 := (optMem (zc.dep 29 68 (by kernel_rfl)) rfl rfl)
   rw [e1] at m1
   exact wp_call (by kernel_rfl) rfl (hv2 (zc.kn.ev rfl) (((evt za 68)).trans e1)) (lof_any _ _ _ _ _) (fun v w' h => ⟨v, rfl, h.2, optDef zβ (by rw [h.1]; exact isT_mk (by unfold I64; decide) (m1.below h.2))⟩)
  refine ⟨⟨_, .yes (d := true) rfl (fun v w h => h), fun h w => optUndef h, fun zβ za zw zc => ?_⟩, ?_⟩
  ·obtain ⟨_, aq, cq, eq, _, _, _⟩ := IsT.form (optMem (zc.dep 30 69 (by kernel_rfl)) rfl rfl)
   have mq := (optMem (zc.dep 30 69 (by kernel_rfl)) rfl rfl)
   rw [eq] at mq
   have Eq := ((evt za 69)).trans eq
   exact wp_call (by kernel_rfl) rfl (hv2 ((evt za 65).trans (optVal (zc.dep 26 65 (by kernel_rfl)) rfl rfl)) Eq) (fIns_any g9 _ wkB _ (.mk 2 [(.mk ((-1)) []), (.mk ((-2)) [])]) _ (by decide) mq (FpIs.below hf3_ zc.below)) (fun v w' h => ⟨v, rfl, h.2, optDef zβ (told0 h.1 wk4)⟩)
  refine ⟨⟨_, .yes (d := true) rfl (fun v w h => h), fun h w => optUndef h, fun zβ za zw zc => ?_⟩, ?_⟩
  ·exact row_31_2 rfl (zc.kn.ev rfl) (zc.kn.ev rfl) ⟨_, rfl, balloc _ _, optDef zβ (told_blk (l := [1, 2]) (Blk.new' rfl))⟩
  refine ⟨⟨_, .yes (d := true) rfl (fun v w h => h), fun h w => optUndef h, fun zβ za zw zc => ?_⟩, ?_⟩
  ·exact wp_call (by kernel_rfl) rfl (hv2 (evt za 70) (evt za 71)) (row_told (optMem (zc.dep 31 70 (by kernel_rfl)) rfl rfl) (optMem (zc.dep 32 71 (by kernel_rfl)) rfl rfl) (by decide)) (fun v w' h => ⟨v, rfl, h.2, optDef zβ h.1⟩)
  refine ⟨⟨true, .none rfl, fun h w => optUndef h, fun zβ za zw zc => ?_⟩, ?_⟩
  ·exact wp_pickT rfl ((evt za 64).trans (optVal (zc.dep 25 64 (by kernel_rfl)) rfl rfl)) ((evt za 72).trans (optVal (zc.dep 33 72 (by kernel_rfl)) rfl rfl)) ⟨_, rfl, Below.refl _ _, optDef zβ rfl⟩
  refine ⟨⟨true, .none rfl, fun h w => optUndef h, fun zβ za zw zc => ?_⟩, ?_⟩
  ·exact wp_move rfl ((evt za 73).trans (optVal (zc.dep 34 73 (by kernel_rfl)) rfl rfl)) ⟨_, rfl, Below.refl _ _, optDef zβ rfl⟩
  refine ⟨⟨_, .yes (d := true) rfl (fun v w h => h), fun h w => optUndef h, fun zβ za zw zc => ?_⟩, ?_⟩
  ·exact wp_move rfl (zc.kn.ev rfl) ⟨_, rfl, Below.refl _ _, optDef zβ rfl⟩
  refine ⟨⟨_, .yes (d := true) rfl (fun v w h => h), fun h w => optUndef h, fun zβ za zw zc => ?_⟩, ?_⟩
  ·exact wp_call (by kernel_rfl) rfl (hv1 ((evt za 75).trans (optVal (zc.dep 36 75 (by kernel_rfl)) rfl rfl))) (flen_any g9 _ wkB _ (FpIs.below hf3_ zc.below)) (fun v w' h => ⟨v, rfl, h.2, optDef zβ h.1⟩)
  refine ⟨⟨_, .yes (d := true) rfl (fun v w h => h), fun h w => optUndef h, fun zβ za zw zc => ?_⟩, ?_⟩
  ·exact eql_3 rfl ((evt za 76).trans (optVal (zc.dep 37 76 (by kernel_rfl)) rfl rfl)) (zc.kn.ev rfl) (by rw [show ((((List.length wkB : Nat) : Int) : Int) == (4 : Int)) = true from rfl]; exact ⟨_, rfl, Below.refl _ _, optDef zβ rfl⟩)
  refine ⟨⟨true, .none rfl, fun h w => optUndef h, fun zβ za zw zc => ?_⟩, ?_⟩
  ·exact wp_pickT rfl ((evt za 74).trans (optVal (zc.dep 35 74 (by kernel_rfl)) rfl rfl)) ((evt za 77).trans (optVal (zc.dep 38 77 (by kernel_rfl)) rfl rfl)) ⟨_, rfl, Below.refl _ _, optDef zβ rfl⟩
  refine ⟨⟨true, .none rfl, fun h w => optUndef h, fun zβ za zw zc => ?_⟩, ?_⟩
  ·exact wp_move rfl ((evt za 78).trans (optVal (zc.dep 39 78 (by kernel_rfl)) rfl rfl)) ⟨_, rfl, Below.refl _ _, optDef zβ rfl⟩
  refine ⟨⟨_, .yes (d := true) rfl (fun v w h => h), fun h w => optUndef h, fun zβ za zw zc => ?_⟩, ?_⟩
  ·exact wp_move rfl (zc.kn.ev rfl) ⟨_, rfl, Below.refl _ _, optDef zβ rfl⟩
  refine ⟨⟨_, .yes (d := true) rfl (fun v w h => h), fun h w => optUndef h, fun zβ za zw zc => ?_⟩, ?_⟩
  ·exact ld_24 rfl (zc.kn.ev rfl) (bkeeps zc.below _ _ ((hB103.cell 0).trans rfl)) (bkeeps zc.below _ _ ((hB103.cell 1).trans rfl)) ⟨_, rfl, Below.refl _ _, optDef zβ rfl⟩
  refine ⟨⟨_, .yes (d := true) rfl (fun v w h => h), fun h w => optUndef h, fun zβ za zw zc => ?_⟩, ?_⟩
  ·exact wp_call (by kernel_rfl) rfl (hv3 ((evt za 80).trans (optVal (zc.dep 41 80 (by kernel_rfl)) rfl rfl)) ((evt za 81).trans (optVal (zc.dep 42 81 (by kernel_rfl)) rfl rfl)) (zc.kn.ev rfl)) (fadd_no g9 _ _ _ (.agg #[.int .i64 1, .slice none 0 0]) _ _ _ _ _ (by decide) (FpIs.below hf3_ zc.below)) (fun v w' h => ⟨v, rfl, h.2, optDef zβ h.1⟩)
  refine ⟨⟨_, .yes (d := true) rfl (fun v w h => h), fun h w => optUndef h, fun zβ za zw zc => ?_⟩, ?_⟩
  ·exact eql_29 rfl ((evt za 82).trans (optVal (zc.dep 43 82 (by kernel_rfl)) rfl rfl)) (zc.kn.ev rfl) (by rw [show ((2 : Int) == (2 : Int)) = true from rfl]; exact ⟨_, rfl, Below.refl _ _, optDef zβ rfl⟩)
  refine ⟨⟨true, .none rfl, fun h w => optUndef h, fun zβ za zw zc => ?_⟩, ?_⟩
  ·exact wp_pickT rfl ((evt za 79).trans (optVal (zc.dep 40 79 (by kernel_rfl)) rfl rfl)) ((evt za 83).trans (optVal (zc.dep 44 83 (by kernel_rfl)) rfl rfl)) ⟨_, rfl, Below.refl _ _, optDef zβ rfl⟩
  refine ⟨⟨true, .none rfl, fun h w => optUndef h, fun zβ za zw zc => ?_⟩, ?_⟩
  ·exact wp_assign rfl ((evt za 84).trans (optVal (zc.dep 45 84 (by kernel_rfl)) rfl rfl)) ⟨_, rfl, Below.refl _ _, optDef zβ rfl⟩
  exact trivial
 ·intro za w107 zh hb108 zu
  have zh := zh.cons (d := 0) (v := .bool true) (optVal (zu 46 0 (by kernel_rfl)) rfl rfl)
  clear zu
  refine WE.go zh ?_
  refine WE.next (WC.ret (WE.ret1 rfl rfl ?_))
  have hb109 : Below w.heap.size w w107 := (bstep hb102 hb108)
  exact ⟨_, rfl, rfl, hb109⟩
end Go.Proofs.Ytibncmnmjhimeaa

/- The walk through FprintEmpties. -/
namespace Go.Proofs.Ytibncmnmjhimeaa
open Go.RowKit Go
set_option linter.unusedVariables false
set_option linter.unusedSimpArgs false
set_option linter.unnecessarySimpa false
theorem and_int {w : World} {a : Act} {K : Act → World → Prop} {Q : Exit → Act → World → Prop} {o : Oper} {x y : Operand} {m n : Int} (ho : o.op = .binOp .and 3 x y 3) (hx : a.eval x = .int .i64 m) (hy : a.eval y = .int .i64 n) (hu : Try.prog.underlying 3 = some (.int .i64)) (hK : K (a.put o.dst (.int .i64 (bits .and .i64 m n))) w) : o.wp Try.prog a w K Q := by
 unfold Oper.wp execOp
 simp only [ho, hx, hy]
 go_simp
 exact hK
set_option maxRecDepth 10000 in
theorem and7 (x : Int) : 0 ≤ bits .and .i64 x 7 ∧ bits .and .i64 x 7 ≤ 7 := by
 have h : ∀ n : Nat, n ≤ 7 → IntKind.i64.wrap (n : Int) = n := fun n hn => IntWalk.i64_in _ (by omega)
 have h2 : (BitVec.ofInt IntKind.i64.bits x &&& BitVec.ofInt IntKind.i64.bits 7).toNat ≤ 7 := by
  rw [BitVec.toNat_and]
  exact Nat.and_le_right
 show 0 ≤ IntKind.i64.wrap ((BitVec.ofInt IntKind.i64.bits x &&& BitVec.ofInt IntKind.i64.bits 7).toNat : Int) ∧ IntKind.i64.wrap ((BitVec.ofInt IntKind.i64.bits x &&& BitVec.ofInt IntKind.i64.bits 7).toNat : Int) ≤ 7
 rw [h _ h2]
 omega
theorem id7 (x : Int) : I64 (bits .and .i64 x 7) := by
 have := and7 x
 unfold I64; omega
set_option maxRecDepth 100000 in
set_option maxHeartbeats 2000000 in
theorem empties_any (l : List T) (ids : List Int) (t : T) (turn : Int) (w : World) (a ia : Option Addr) (c ic : Nat) (v : Value) (hl : IsTs w l a 0) (hlc : l.length ≤ c) (hsz : T.sizeL l ≤ 1048576) (hi : InRow eltI (fun _ => True) w ids ia) (hil : ids.length ≤ 1048576) (hv : IsT w t v) (ht64 : I64 turn) :
  Calls Try.prog 5 #[.slice a l.length c, .slice ia ids.length ic, v, .int .i64 turn] w (Ret fun v' w' => v' = .bool true ∧ Below w.heap.size w w') := by
 have hvt := hv
 obtain ⟨_, ta, tc, rfl, _, _, _⟩ := hv.form
 have hll := len_le_sizeL l
 obtain ⟨ib, io, hia, hci⟩ := InRow.openI hi
 have ht' := ht64
 unfold I64 at ht'
 refine Calls.walk (l := [.slice a l.length c, .slice ia ids.length ic, .agg #[.int .i64 t.f, .slice ta t.args.length tc], .int .i64 turn]) Try.func5 rfl (by kernel_rfl) ?_
 refine WC.sub (K' := [(0, .slice a l.length c), (1, .slice ia ids.length ic), (2, .agg #[.int .i64 t.f, .slice ta t.args.length tc]), (3, .int .i64 turn)]) ⟨rfl, rfl, rfl, rfl, trivial⟩ ?_
 refine WC.seq (WC.region ?_)
 refine WL.step (post := NewBlk w 24 #[.int .i64 t.f, .slice ta t.args.length tc]) rfl rfl rfl (fun za zC zh zk => box_24 rfl (zh.ev rfl) (zk _ _ (newBlk _ _ _))) ?_
 rintro _ w1 ⟨g2, rfl, hg3, hB4, hb5, hz6⟩
 have hl7 : w.heap.size ≤ g2 := by omega
 refine WL.asg rfl rfl rfl rfl rfl (WL.nil (WE.next (WC.seq (WC.seq ?_))))
 refine WC.opt [(true, .val (.slice a l.length c)), (true, .val (.int .i64 (((l.length : Nat) : Int)))), (true, .val (.bool ((decide ((60 : Int) < (((l.length : Nat) : Int) : Int)))))), (true, .val (.bool ((decide ((60 : Int) < (((l.length : Nat) : Int) : Int)))))), ((true && !(decide ((60 : Int) < (((l.length : Nat) : Int) : Int)))), .val (.slice a l.length c)), ((true && !(decide ((60 : Int) < (((l.length : Nat) : Int) : Int)))), .val (.int .i64 (((l.length : Nat) : Int)))), ((true && !(decide ((60 : Int) < (((l.length : Nat) : Int) : Int)))), .val (.bool (((((l.length : Nat) : Int) : Int) == (0 : Int))))), (true, .val (.bool (((decide ((60 : Int) < (((l.length : Nat) : Int) : Int))) || ((((l.length : Nat) : Int) : Int) == (0 : Int)))))), (true, .val (.bool (((decide ((60 : Int) < (((l.length : Nat) : Int) : Int))) || ((((l.length : Nat) : Int) : Int) == (0 : Int)))))), ((true && !((decide ((60 : Int) < (((l.length : Nat) : Int) : Int))) || ((((l.length : Nat) : Int) : Int) == (0 : Int)))), .val (.slice ia ids.length ic)), ((true && !((decide ((60 : Int) < (((l.length : Nat) : Int) : Int))) || ((((l.length : Nat) : Int) : Int) == (0 : Int)))), .val (.int .i64 (((ids.length : Nat) : Int)))), ((true && !((decide ((60 : Int) < (((l.length : Nat) : Int) : Int))) || ((((l.length : Nat) : Int) : Int) == (0 : Int)))), .val (.slice a l.length c)), ((true && !((decide ((60 : Int) < (((l.length : Nat) : Int) : Int))) || ((((l.length : Nat) : Int) : Int) == (0 : Int)))), .val (.int .i64 (((l.length : Nat) : Int)))), ((true && !((decide ((60 : Int) < (((l.length : Nat) : Int) : Int))) || ((((l.length : Nat) : Int) : Int) == (0 : Int)))), .val (.bool ((decide ((((ids.length : Nat) : Int) : Int) < (((l.length : Nat) : Int) : Int)))))), (true, .val (.bool ((((decide ((60 : Int) < (((l.length : Nat) : Int) : Int))) || ((((l.length : Nat) : Int) : Int) == (0 : Int))) || (decide ((((ids.length : Nat) : Int) : Int) < (((l.length : Nat) : Int) : Int)))))))] [(0, .slice a l.length c), (1, .slice ia ids.length ic), (2, .agg #[.int .i64 t.f, .slice ta t.args.length tc]), (3, .int .i64 turn), (6, .pointer (some ⟨g2, 0, none⟩)), (8, .bool false)] ⟨rfl, rfl, rfl, rfl, rfl, rfl, trivial⟩ (by kernel_rfl) (by kernel_rfl) (by kernel_rfl) ?_ ?_
 ·refine ⟨⟨true, .none rfl, fun h w => optUndef h, fun zβ za zw zc => ?_⟩, ?_⟩
  ·exact wp_move rfl (zc.kn.ev rfl) ⟨_, rfl, Below.refl _ _, optDef zβ rfl⟩
  refine ⟨⟨true, .none rfl, fun h w => optUndef h, fun zβ za zw zc => ?_⟩, ?_⟩
  ·exact len_22 rfl ((evt za 15).trans (optVal (zc.dep 0 15 (by kernel_rfl)) rfl rfl)) ⟨_, rfl, Below.refl _ _, optDef zβ rfl⟩
  refine ⟨⟨true, .none rfl, fun h w => optUndef h, fun zβ za zw zc => ?_⟩, ?_⟩
  ·exact gtr_3 rfl ((evt za 16).trans (optVal (zc.dep 1 16 (by kernel_rfl)) rfl rfl)) (zc.kn.ev rfl) ⟨_, rfl, Below.refl _ _, optDef zβ rfl⟩
  refine ⟨⟨true, .none rfl, fun h w => optUndef h, fun zβ za zw zc => ?_⟩, ?_⟩
  ·exact wp_move rfl ((evt za 17).trans (optVal (zc.dep 2 17 (by kernel_rfl)) rfl rfl)) ⟨_, rfl, Below.refl _ _, optDef zβ rfl⟩
  refine ⟨⟨_, .no (d := true) rfl (fun v w h => h), fun h w => optUndef h, fun zβ za zw zc => ?_⟩, ?_⟩
  ·exact wp_move rfl (zc.kn.ev rfl) ⟨_, rfl, Below.refl _ _, optDef zβ rfl⟩
  refine ⟨⟨_, .no (d := true) rfl (fun v w h => h), fun h w => optUndef h, fun zβ za zw zc => ?_⟩, ?_⟩
  ·exact len_22 rfl ((evt za 19).trans (optVal (zc.dep 4 19 (by kernel_rfl)) rfl zβ)) ⟨_, rfl, Below.refl _ _, optDef zβ rfl⟩
  refine ⟨⟨_, .no (d := true) rfl (fun v w h => h), fun h w => optUndef h, fun zβ za zw zc => ?_⟩, ?_⟩
  ·exact eql_3 rfl ((evt za 20).trans (optVal (zc.dep 5 20 (by kernel_rfl)) rfl zβ)) (zc.kn.ev rfl) ⟨_, rfl, Below.refl _ _, optDef zβ rfl⟩
  refine ⟨⟨true, .none rfl, fun h w => optUndef h, fun zβ za zw zc => ?_⟩, ?_⟩
  ·exact wp_or rfl ((evt za 18).trans (optVal (zc.dep 3 18 (by kernel_rfl)) rfl rfl)) (fun hp => ((evt za 21).trans (optVal (zc.dep 6 21 (by kernel_rfl)) rfl (bMkN zβ hp)))) ⟨_, rfl, Below.refl _ _, optDef zβ rfl⟩
  refine ⟨⟨true, .none rfl, fun h w => optUndef h, fun zβ za zw zc => ?_⟩, ?_⟩
  ·exact wp_move rfl ((evt za 22).trans (optVal (zc.dep 7 22 (by kernel_rfl)) rfl rfl)) ⟨_, rfl, Below.refl _ _, optDef zβ rfl⟩
  refine ⟨⟨_, .no (d := true) rfl (fun v w h => h), fun h w => optUndef h, fun zβ za zw zc => ?_⟩, ?_⟩
  ·exact wp_move rfl (zc.kn.ev rfl) ⟨_, rfl, Below.refl _ _, optDef zβ rfl⟩
  refine ⟨⟨_, .no (d := true) rfl (fun v w h => h), fun h w => optUndef h, fun zβ za zw zc => ?_⟩, ?_⟩
  ·exact len_31 rfl ((evt za 24).trans (optVal (zc.dep 9 24 (by kernel_rfl)) rfl zβ)) ⟨_, rfl, Below.refl _ _, optDef zβ rfl⟩
  refine ⟨⟨_, .no (d := true) rfl (fun v w h => h), fun h w => optUndef h, fun zβ za zw zc => ?_⟩, ?_⟩
  ·exact wp_move rfl (zc.kn.ev rfl) ⟨_, rfl, Below.refl _ _, optDef zβ rfl⟩
  refine ⟨⟨_, .no (d := true) rfl (fun v w h => h), fun h w => optUndef h, fun zβ za zw zc => ?_⟩, ?_⟩
  ·exact len_22 rfl ((evt za 26).trans (optVal (zc.dep 11 26 (by kernel_rfl)) rfl zβ)) ⟨_, rfl, Below.refl _ _, optDef zβ rfl⟩
  refine ⟨⟨_, .no (d := true) rfl (fun v w h => h), fun h w => optUndef h, fun zβ za zw zc => ?_⟩, ?_⟩
  ·exact lss_3 rfl ((evt za 25).trans (optVal (zc.dep 10 25 (by kernel_rfl)) rfl zβ)) ((evt za 27).trans (optVal (zc.dep 12 27 (by kernel_rfl)) rfl zβ)) ⟨_, rfl, Below.refl _ _, optDef zβ rfl⟩
  refine ⟨⟨true, .none rfl, fun h w => optUndef h, fun zβ za zw zc => ?_⟩, ?_⟩
  ·exact wp_or rfl ((evt za 23).trans (optVal (zc.dep 8 23 (by kernel_rfl)) rfl rfl)) (fun hp => ((evt za 28).trans (optVal (zc.dep 13 28 (by kernel_rfl)) rfl (bMkN zβ hp)))) ⟨_, rfl, Below.refl _ _, optDef zβ rfl⟩
  exact trivial
 ·intro za w8 zh hb9 zu
  have zh := zh.cons (d := 29) (v := .bool ((((decide ((60 : Int) < (((l.length : Nat) : Int) : Int))) || ((((l.length : Nat) : Int) : Int) == (0 : Int))) || (decide ((((ids.length : Nat) : Int) : Int) < (((l.length : Nat) : Int) : Int)))))) (optVal (zu 14 29 (by kernel_rfl)) rfl rfl)
  clear zu
  refine WE.go zh ?_
  refine WE.next ?_
  refine WC.cond rfl (fun h10 => ?_) (fun h10 => ?_)
  ·have h10 : (((60 : Int) < (((l.length : Nat) : Int) : Int)) ∨ ((((l.length : Nat) : Int) : Int) = (0 : Int))) ∨ ((((ids.length : Nat) : Int) : Int) < (((l.length : Nat) : Int) : Int)) := by simpa using h10
   refine WC.seq (WC.region ?_)
   refine WL.call rfl rfl rfl (fun za zh zC => wp_call (by kernel_rfl) rfl (hv0)) (wakes_any _) ?_
   rintro _ w12 ⟨rfl, hq11⟩
   refine WL.asg rfl rfl rfl rfl rfl (WL.nil (WE.next (WC.ret (WE.thenRet (WE.ret1 rfl rfl ?_)))))
   have hb13 : Below w.heap.size w w12 := (bstep (bstep hb5 hb9) hq11)
   exact ⟨_, rfl, rfl, hb13⟩
  ·have h10 : ¬ ((((60 : Int) < (((l.length : Nat) : Int) : Int)) ∨ ((((l.length : Nat) : Int) : Int) = (0 : Int))) ∨ ((((ids.length : Nat) : Int) : Int) < (((l.length : Nat) : Int) : Int))) := by simpa using h10
   refine WC.skip (WE.next (WC.seq (WC.region (WL.mv rfl rfl rfl rfl rfl (WL.mv rfl rfl rfl rfl rfl ?_)))))
   refine WL.val (.int .i64 (((l.length : Nat) : Int))) rfl rfl rfl (fun za zC zh zk => len_22 rfl (zh.ev rfl) zk) ?_
   have hl0 : 0 < l.length := by omega
   have hm1 := Int.tmod_lt_of_pos turn (show (0 : Int) < (l.length : Int) by omega)
   have hm2 : -(l.length : Int) < turn.tmod l.length := by have z := Int.lt_tmod_of_pos turn (show (0 : Int) < (l.length : Int) by omega); omega
   refine WL.val (.int .i64 ((turn.tmod (((l.length : Nat) : Int))))) rfl rfl rfl (fun za zC zh zk => rem_3 rfl (zh.ev rfl) (zh.ev rfl) (by omega) zk) ?_
   refine WL.mv rfl rfl rfl rfl rfl ?_
   refine WL.val (.int .i64 (((l.length : Nat) : Int))) rfl rfl rfl (fun za zC zh zk => len_22 rfl (zh.ev rfl) zk) ?_
   refine WL.val (.int .i64 ((turn.tmod (l.length : Int) + (l.length : Int)))) rfl rfl rfl (fun za zC zh zk => addb_3 rfl (zh.ev rfl) (zh.ev rfl) (wrap_eq rfl (by omega) (by omega)) zk) ?_
   refine WL.mv rfl rfl rfl rfl rfl ?_
   refine WL.val (.int .i64 (((l.length : Nat) : Int))) rfl rfl rfl (fun za zC zh zk => len_22 rfl (zh.ev rfl) zk) ?_
   obtain ⟨r, hr9⟩ : ∃ r : Nat, ((turn.tmod (l.length : Int) + (l.length : Int)).tmod (l.length : Int)) = (r : Int) := ⟨((turn.tmod (l.length : Int) + (l.length : Int)).tmod (l.length : Int)).toNat, (Int.toNat_of_nonneg (Int.tmod_nonneg _ (by omega))).symm⟩
   have hrl : r < l.length := by have z := Int.tmod_lt_of_pos (turn.tmod (l.length : Int) + (l.length : Int)) (show (0 : Int) < (l.length : Int) by omega); omega
   refine WL.val (.int .i64 (r : Int)) rfl rfl rfl (fun za zC zh zk => rem_3 rfl (zh.ev rfl) (zh.ev rfl) (by omega) (by rw [hr9]; exact zk)) ?_
   refine WL.asg rfl rfl rfl rfl rfl (WL.nil (WE.next (WC.seq (WC.region ?_))))
   obtain ⟨Bq, hBq⟩ : ∃ Bq, Bq = w8.heap.size := ⟨_, rfl⟩
   have hB14 := hB4.below hb9
   have hbx_g2 : g2 < Bq := by have z := hB14.lt; omega
   refine WL.call rfl rfl rfl (fun za zh zC => wp_call (by kernel_rfl) rfl (hv0)) (fnew_any _) ?_
   rintro _ w15 ⟨⟨gq1, rfl, hFq1⟩, hbq1⟩
   refine WL.call rfl rfl rfl (fun za zh zC => wp_call (by kernel_rfl) rfl (hv0)) (fnew_any _) ?_
   rintro _ w16 ⟨⟨gq2, rfl, hFq2⟩, hbq2⟩
   have hT0 : TwoIx w16 Bq gq1 gq2 [] [] := by rw [hBq]; exact two_new hFq1 hFq2 hbq2 hbq1.size
   have hqw : w.heap.size ≤ Bq := by rw [hBq]; exact (Nat.le_trans hb5.size hb9.size)
   have hqj : Bq ≤ w16.heap.size := by rw [hBq]; exact (Nat.le_trans hbq1.size hbq2.size)
   refine WL.asg rfl rfl rfl rfl rfl (WL.asg rfl rfl rfl rfl rfl (WL.nil (WE.next (WC.seq (WC.seq (WC.region (WL.asg rfl rfl rfl rfl rfl (WL.nil (WE.next (WC.block ?_))))))))))
   refine WC.loop (X := Nat) (fun k => l.length - k) (fun k => [(0, .slice a l.length c), (1, .slice ia ids.length ic), (2, .agg #[.int .i64 t.f, .slice ta t.args.length tc]), (3, .int .i64 (((r : Nat) : Int))), (6, .pointer (some ⟨g2, 0, none⟩)), (8, .bool false), (9, .pointer (some ⟨gq1, 0, none⟩)), (10, .pointer (some ⟨gq2, 0, none⟩)), (11, .int .i64 (((k : Nat) : Int))), (29, .bool ((((decide ((60 : Int) < (((l.length : Nat) : Int) : Int))) || ((((l.length : Nat) : Int) : Int) == (0 : Int))) || (decide ((((ids.length : Nat) : Int) : Int) < (((l.length : Nat) : Int) : Int))))))]) (fun k w17 => k ≤ l.length ∧ Bq ≤ (w17).heap.size ∧ Below w.heap.size w w17 ∧ Blk w17 g2 24 #[.int .i64 t.f, .slice ta t.args.length tc] ∧ TwoIx (w17) Bq gq1 gq2 (bX l ids k) (bY l ids r k)) 0 ⟨rfl, rfl, rfl, rfl, rfl, rfl, rfl, rfl, rfl, rfl, trivial⟩ ?_ ?_
   ·have hb18 : Below w.heap.size w w16 := (bstep (bstep (bstep hb5 hb9) hbq1) hbq2)
    have hb20 : Below w8.heap.size w8 w16 := (bstep hbq1 hbq2)
    have hB19 := hB14.below hb20
    exact ⟨Nat.zero_le _, hqj, hb18, hB19, hT0⟩
   ·rintro k w17 ⟨hk, hzw, hb21, hB22, ho23⟩
    refine WC.seq (WC.seq (WC.region (WL.mv rfl rfl rfl rfl rfl (WL.mv rfl rfl rfl rfl rfl ?_))))
    refine WL.val (.int .i64 (((l.length : Nat) : Int))) rfl rfl rfl (fun za zC zh zk => len_22 rfl (zh.ev rfl) zk) ?_
    refine WL.val (.bool ((decide ((((k : Nat) : Int) : Int) < (((l.length : Nat) : Int) : Int))))) rfl rfl rfl (fun za zC zh zk => lss_3 rfl (zh.ev rfl) (zh.ev rfl) zk) ?_
    refine WL.nil (WE.next ?_)
    refine WC.cond rfl (fun h24 => ?_) (fun h24 => ?_)
    ·have h24 : (((k : Nat) : Int) : Int) < (((l.length : Nat) : Int) : Int) := by simpa using h24
     refine WC.skip (WE.next (WC.seq (WC.block (WC.seq (WC.region (WL.mv rfl rfl rfl rfl rfl (WL.mv rfl rfl rfl rfl rfl ?_)))))))
     refine WL.val (.int .i64 ((((k + r) : Nat) : Int))) rfl rfl rfl (fun za zC zh zk => addb_3 rfl (zh.ev rfl) (zh.ev rfl) (wrap_eq (by omega) (by omega) (by omega)) zk) ?_
     refine WL.mv rfl rfl rfl rfl rfl ?_
     refine WL.val (.int .i64 (((l.length : Nat) : Int))) rfl rfl rfl (fun za zC zh zk => len_22 rfl (zh.ev rfl) zk) ?_
     have hml := Nat.mod_lt (k + r) (show 0 < l.length by omega)
     refine WL.val (.int .i64 ((((k + r) % l.length) : Nat) : Int)) rfl rfl rfl (fun za zC zh zk => rem_3 rfl (zh.ev rfl) (zh.ev rfl) (by omega) (by rw [show ((k + r : Nat) : Int).tmod (l.length : Int) = ((((k + r) % l.length) : Nat) : Int) from by rw [Int.tmod_eq_emod_of_nonneg (by omega)]; omega]; exact zk)) ?_
     refine WL.asg rfl rfl rfl rfl rfl (WL.nil (WE.next (WC.seq ?_)))
     have hsz9 : (tget l k).size ≤ 1048576 := Nat.le_trans (T.size_le_sizeL (tget_mem (by omega))) hsz
     have hid9 := and7 (List.getD ids k 0)
     have hqz25 : Bq ≤ w17.heap.size := (by omega)
     obtain ⟨b26, o27, A28, C29, ha30, hc31⟩ := IsTs.open hl
     refine WC.seqV (S := ((fun b => Bq ≤ b))) [(true, .val (.pointer (some ⟨gq1, 0, none⟩))), (true, .val (.slice a l.length c)), (true, .val (.int .i64 (((k : Nat) : Int)))), (true, .val (.pointer (some ⟨b26, o27 + k * 2, none⟩))), (true, .val (.agg #[.int .i64 ((tget l k).f), .slice ((A28 k)) ((tget l k).args.length) ((C29 k))])), (true, .val (.slice ia ids.length ic)), (true, .val (.int .i64 (((k : Nat) : Int)))), (true, .val (.pointer (some ⟨ib, io + k, none⟩))), (true, .val (.int .i64 ((List.getD ids k 0)))), (true, .val (.int .i64 ((bits .and .i64 ((List.getD ids k 0)) 7)))), (true, .val undef)] [(0, .slice a l.length c), (1, .slice ia ids.length ic), (2, .agg #[.int .i64 t.f, .slice ta t.args.length tc]), (3, .int .i64 (((r : Nat) : Int))), (6, .pointer (some ⟨g2, 0, none⟩)), (8, .bool false), (9, .pointer (some ⟨gq1, 0, none⟩)), (10, .pointer (some ⟨gq2, 0, none⟩)), (11, .int .i64 (((k : Nat) : Int))), (12, .int .i64 (((((k + r) % l.length) : Nat) : Int))), (29, .bool ((((decide ((60 : Int) < (((l.length : Nat) : Int) : Int))) || ((((l.length : Nat) : Int) : Int) == (0 : Int))) || (decide ((((ids.length : Nat) : Int) : Int) < (((l.length : Nat) : Int) : Int)))))), (46, .bool ((decide ((((k : Nat) : Int) : Int) < (((l.length : Nat) : Int) : Int)))))] [10] [some (true, .int .i64 0)] (TwoG Bq gq1 gq2 (bX l ids k) (bY l ids r k) (bX l ids k ++ [rAt l ids k]) (bY l ids r k)) TwoG.below (by decide) ⟨rfl, rfl, rfl, rfl, rfl, rfl, rfl, rfl, rfl, rfl, rfl, rfl, trivial⟩ (by kernel_rfl) (by kernel_rfl) (by kernel_rfl) (by kernel_rfl) ho23 ?_ ?_
     ·refine ⟨.inl ⟨rfl, true, .none rfl, (fun gg b h => by cases h), fun h w => optUndef h, fun zβ za zw zc => ?_⟩, ?_⟩
      ·exact wp_move rfl (zc.kn.ev rfl) ⟨_, rfl, Below.refl _ _, optDef zβ rfl⟩
      refine ⟨.inl ⟨rfl, true, .none rfl, (fun gg b h => by cases h), fun h w => optUndef h, fun zβ za zw zc => ?_⟩, ?_⟩
      ·exact wp_move rfl (zc.kn.ev rfl) ⟨_, rfl, Below.refl _ _, optDef zβ rfl⟩
      refine ⟨.inl ⟨rfl, true, .none rfl, (fun gg b h => by cases h), fun h w => optUndef h, fun zβ za zw zc => ?_⟩, ?_⟩
      ·exact wp_move rfl (zc.kn.ev rfl) ⟨_, rfl, Below.refl _ _, optDef zβ rfl⟩
      refine ⟨.inl ⟨rfl, true, .none rfl, (fun gg b h => by cases h), fun h w => optUndef h, fun zβ za zw zc => ?_⟩, ?_⟩
      ·exact ix_22 (k := k) rfl ((evt za 56).trans (optSVal (zc.dep 1 56 (by kernel_rfl) (by decide)) rfl rfl)) (ha30 k (by first | omega | (simp; omega))) ((evt za 57).trans (optSVal (zc.dep 2 57 (by kernel_rfl) (by decide)) rfl rfl)) (by first | omega | (simp; omega)) ⟨_, rfl, Below.refl _ _, optDef zβ rfl⟩
      refine ⟨.inl ⟨rfl, true, .none rfl, (fun gg b h => by cases h), fun h w => optUndef h, fun zβ za zw zc => ?_⟩, ?_⟩
      ·exact ld_24 rfl ((evt za 58).trans (optSVal (zc.dep 3 58 (by kernel_rfl) (by decide)) rfl rfl)) (chg_old hb21 zc.chg (fun b hb => by (try dsimp only at *); omega) (hc31 k (by first | omega | (simp; omega))).1) (chg_old hb21 zc.chg (fun b hb => by (try dsimp only at *); omega) (hc31 k (by first | omega | (simp; omega))).2.1) ⟨_, rfl, Below.refl _ _, optDef zβ rfl⟩
      refine ⟨.inl ⟨rfl, true, .none rfl, (fun gg b h => by cases h), fun h w => optUndef h, fun zβ za zw zc => ?_⟩, ?_⟩
      ·exact wp_move rfl (zc.kn.ev rfl) ⟨_, rfl, Below.refl _ _, optDef zβ rfl⟩
      refine ⟨.inl ⟨rfl, true, .none rfl, (fun gg b h => by cases h), fun h w => optUndef h, fun zβ za zw zc => ?_⟩, ?_⟩
      ·exact wp_move rfl (zc.kn.ev rfl) ⟨_, rfl, Below.refl _ _, optDef zβ rfl⟩
      refine ⟨.inl ⟨rfl, true, .none rfl, (fun gg b h => by cases h), fun h w => optUndef h, fun zβ za zw zc => ?_⟩, ?_⟩
      ·exact ix_31 (k := k) rfl ((evt za 60).trans (optSVal (zc.dep 5 60 (by kernel_rfl) (by decide)) rfl rfl)) (hia k (by omega)) ((evt za 61).trans (optSVal (zc.dep 6 61 (by kernel_rfl) (by decide)) rfl rfl)) (by first | omega | (simp; omega)) ⟨_, rfl, Below.refl _ _, optDef zβ rfl⟩
      refine ⟨.inl ⟨rfl, true, .none rfl, (fun gg b h => by cases h), fun h w => optUndef h, fun zβ za zw zc => ?_⟩, ?_⟩
      ·exact ld_3 rfl ((evt za 62).trans (optSVal (zc.dep 7 62 (by kernel_rfl) (by decide)) rfl rfl)) (chg_old hb21 zc.chg (fun b hb => by (try dsimp only at *); omega) (hci k (by omega))) ⟨_, rfl, Below.refl _ _, optDef zβ rfl⟩
      refine ⟨.inl ⟨rfl, true, .none rfl, (fun gg b h => by cases h), fun h w => optUndef h, fun zβ za zw zc => ?_⟩, ?_⟩
      ·exact and_int rfl ((evt za 63).trans (optSVal (zc.dep 8 63 (by kernel_rfl) (by decide)) rfl rfl)) (zc.kn.ev rfl) Try.underlying3 ⟨_, rfl, Below.refl _ _, optDef zβ rfl⟩
      refine ⟨.inr ⟨0, rfl, by kernel_rfl, true, .none rfl, (fun gg b h => by cases h), (fun h => (nomatch h)), fun zβ za zw zvals zc => ?_⟩, ?_⟩
      ·obtain rfl := vlen0 zc.len
       have zn := zc.now
       exact wp_call (by kernel_rfl) rfl (hv3 ((evt za 55).trans (optSVal (zc.dep 0 55 (by kernel_rfl) (by decide)) rfl rfl)) ((evt za 59).trans (optSVal (zc.dep 4 59 (by kernel_rfl) (by decide)) rfl rfl)) ((evt za 64).trans (optSVal (zc.dep 9 64 (by kernel_rfl) (by decide)) rfl rfl))) (two_addx zn hid9.1 (id7 _) (by omega) (by rw [bX_len]; omega) (IsT.below (chg_below hb21 zc.chg (fun b hb q => by have q2 : Bq ≤ b := q; omega)) ((hc31 k (by first | omega | (simp; omega))).2.2)) (by have z := zc.chg.size; omega)) (fun v w' h => ⟨v, rfl, h.2.2, h.2.1, cvIs h.1⟩)
      exact trivial
     ·intro za w32 zvals zh zl hG33 hc34 zu zw zk
      obtain ⟨z0, rfl⟩ := vlen1 zl
      have hb35 := chg_below hb21 hc34 (fun b hb q => by have q2 : Bq ≤ b := q; omega)
      have hB36 := chg_blk hB22 hc34 (fun q => by have q2 : Bq ≤ g2 := q; omega)
      have hq37 : Bq ≤ w32.heap.size := by have z := hc34.size; omega
      clear zu zw zk
      refine WE.go zh ?_
      refine WE.next ?_
      have hsz9 : (tget l ((k + r) % l.length)).size ≤ 1048576 := Nat.le_trans (T.size_le_sizeL (tget_mem (by omega))) hsz
      have hid9 := and7 (List.getD ids ((k + r) % l.length) 0)
      have hqz38 : Bq ≤ w32.heap.size := (by omega)
      refine WC.seqV (S := ((fun b => Bq ≤ b))) [(true, .val (.pointer (some ⟨gq2, 0, none⟩))), (true, .val (.slice a l.length c)), (true, .val (.int .i64 (((((k + r) % l.length) : Nat) : Int)))), (true, .val (.pointer (some ⟨b26, o27 + (((k + r) % l.length)) * 2, none⟩))), (true, .val (.agg #[.int .i64 ((tget l (((k + r) % l.length))).f), .slice ((A28 (((k + r) % l.length)))) ((tget l (((k + r) % l.length))).args.length) ((C29 (((k + r) % l.length))))])), (true, .val (.slice ia ids.length ic)), (true, .val (.int .i64 (((((k + r) % l.length) : Nat) : Int)))), (true, .val (.pointer (some ⟨ib, io + (((k + r) % l.length)), none⟩))), (true, .val (.int .i64 ((List.getD ids (((k + r) % l.length)) 0)))), (true, .val (.int .i64 ((bits .and .i64 ((List.getD ids (((k + r) % l.length)) 0)) 7)))), (true, .val undef)] [(0, .slice a l.length c), (1, .slice ia ids.length ic), (2, .agg #[.int .i64 t.f, .slice ta t.args.length tc]), (3, .int .i64 (((r : Nat) : Int))), (6, .pointer (some ⟨g2, 0, none⟩)), (8, .bool false), (9, .pointer (some ⟨gq1, 0, none⟩)), (10, .pointer (some ⟨gq2, 0, none⟩)), (11, .int .i64 (((k : Nat) : Int))), (12, .int .i64 (((((k + r) % l.length) : Nat) : Int))), (29, .bool ((((decide ((60 : Int) < (((l.length : Nat) : Int) : Int))) || ((((l.length : Nat) : Int) : Int) == (0 : Int))) || (decide ((((ids.length : Nat) : Int) : Int) < (((l.length : Nat) : Int) : Int)))))), (46, .bool ((decide ((((k : Nat) : Int) : Int) < (((l.length : Nat) : Int) : Int)))))] [10] [some (true, .int .i64 0)] (TwoG Bq gq1 gq2 (bX l ids k ++ [rAt l ids k]) (bY l ids r k) (bX l ids k ++ [rAt l ids k]) (bY l ids r k ++ [rAt l ids ((k + r) % l.length)])) TwoG.below (by decide) ⟨rfl, rfl, rfl, rfl, rfl, rfl, rfl, rfl, rfl, rfl, rfl, rfl, trivial⟩ (by kernel_rfl) (by kernel_rfl) (by kernel_rfl) (by kernel_rfl) hG33 ?_ ?_
      ·refine ⟨.inl ⟨rfl, true, .none rfl, (fun gg b h => by cases h), fun h w => optUndef h, fun zβ za zw zc => ?_⟩, ?_⟩
       ·exact wp_move rfl (zc.kn.ev rfl) ⟨_, rfl, Below.refl _ _, optDef zβ rfl⟩
       refine ⟨.inl ⟨rfl, true, .none rfl, (fun gg b h => by cases h), fun h w => optUndef h, fun zβ za zw zc => ?_⟩, ?_⟩
       ·exact wp_move rfl (zc.kn.ev rfl) ⟨_, rfl, Below.refl _ _, optDef zβ rfl⟩
       refine ⟨.inl ⟨rfl, true, .none rfl, (fun gg b h => by cases h), fun h w => optUndef h, fun zβ za zw zc => ?_⟩, ?_⟩
       ·exact wp_move rfl (zc.kn.ev rfl) ⟨_, rfl, Below.refl _ _, optDef zβ rfl⟩
       refine ⟨.inl ⟨rfl, true, .none rfl, (fun gg b h => by cases h), fun h w => optUndef h, fun zβ za zw zc => ?_⟩, ?_⟩
       ·exact ix_22 (k := ((k + r) % l.length)) rfl ((evt za 67).trans (optSVal (zc.dep 1 67 (by kernel_rfl) (by decide)) rfl rfl)) (ha30 (((k + r) % l.length)) (by first | omega | (simp; omega))) ((evt za 68).trans (optSVal (zc.dep 2 68 (by kernel_rfl) (by decide)) rfl rfl)) (by first | omega | (simp; omega)) ⟨_, rfl, Below.refl _ _, optDef zβ rfl⟩
       refine ⟨.inl ⟨rfl, true, .none rfl, (fun gg b h => by cases h), fun h w => optUndef h, fun zβ za zw zc => ?_⟩, ?_⟩
       ·exact ld_24 rfl ((evt za 69).trans (optSVal (zc.dep 3 69 (by kernel_rfl) (by decide)) rfl rfl)) (chg_old hb35 zc.chg (fun b hb => by (try dsimp only at *); omega) (hc31 (((k + r) % l.length)) (by first | omega | (simp; omega))).1) (chg_old hb35 zc.chg (fun b hb => by (try dsimp only at *); omega) (hc31 (((k + r) % l.length)) (by first | omega | (simp; omega))).2.1) ⟨_, rfl, Below.refl _ _, optDef zβ rfl⟩
       refine ⟨.inl ⟨rfl, true, .none rfl, (fun gg b h => by cases h), fun h w => optUndef h, fun zβ za zw zc => ?_⟩, ?_⟩
       ·exact wp_move rfl (zc.kn.ev rfl) ⟨_, rfl, Below.refl _ _, optDef zβ rfl⟩
       refine ⟨.inl ⟨rfl, true, .none rfl, (fun gg b h => by cases h), fun h w => optUndef h, fun zβ za zw zc => ?_⟩, ?_⟩
       ·exact wp_move rfl (zc.kn.ev rfl) ⟨_, rfl, Below.refl _ _, optDef zβ rfl⟩
       refine ⟨.inl ⟨rfl, true, .none rfl, (fun gg b h => by cases h), fun h w => optUndef h, fun zβ za zw zc => ?_⟩, ?_⟩
       ·exact ix_31 (k := ((k + r) % l.length)) rfl ((evt za 71).trans (optSVal (zc.dep 5 71 (by kernel_rfl) (by decide)) rfl rfl)) (hia (((k + r) % l.length)) (by omega)) ((evt za 72).trans (optSVal (zc.dep 6 72 (by kernel_rfl) (by decide)) rfl rfl)) (by first | omega | (simp; omega)) ⟨_, rfl, Below.refl _ _, optDef zβ rfl⟩
       refine ⟨.inl ⟨rfl, true, .none rfl, (fun gg b h => by cases h), fun h w => optUndef h, fun zβ za zw zc => ?_⟩, ?_⟩
       ·exact ld_3 rfl ((evt za 73).trans (optSVal (zc.dep 7 73 (by kernel_rfl) (by decide)) rfl rfl)) (chg_old hb35 zc.chg (fun b hb => by (try dsimp only at *); omega) (hci (((k + r) % l.length)) (by omega))) ⟨_, rfl, Below.refl _ _, optDef zβ rfl⟩
       refine ⟨.inl ⟨rfl, true, .none rfl, (fun gg b h => by cases h), fun h w => optUndef h, fun zβ za zw zc => ?_⟩, ?_⟩
       ·exact and_int rfl ((evt za 74).trans (optSVal (zc.dep 8 74 (by kernel_rfl) (by decide)) rfl rfl)) (zc.kn.ev rfl) Try.underlying3 ⟨_, rfl, Below.refl _ _, optDef zβ rfl⟩
       refine ⟨.inr ⟨0, rfl, by kernel_rfl, true, .none rfl, (fun gg b h => by cases h), (fun h => (nomatch h)), fun zβ za zw zvals zc => ?_⟩, ?_⟩
       ·obtain rfl := vlen0 zc.len
        have zn := zc.now
        exact wp_call (by kernel_rfl) rfl (hv3 ((evt za 66).trans (optSVal (zc.dep 0 66 (by kernel_rfl) (by decide)) rfl rfl)) ((evt za 70).trans (optSVal (zc.dep 4 70 (by kernel_rfl) (by decide)) rfl rfl)) ((evt za 75).trans (optSVal (zc.dep 9 75 (by kernel_rfl) (by decide)) rfl rfl))) (two_addy zn hid9.1 (id7 _) (by omega) (by rw [bY_len]; omega) (IsT.below (chg_below hb35 zc.chg (fun b hb q => by have q2 : Bq ≤ b := q; omega)) ((hc31 (((k + r) % l.length)) (by first | omega | (simp; omega))).2.2)) (by have z := zc.chg.size; omega)) (fun v w' h => ⟨v, rfl, h.2.2, h.2.1, cvIs h.1⟩)
       exact trivial
      ·intro za w39 zvals zh zl hG40 hc41 zu zw zk
       obtain ⟨z0, rfl⟩ := vlen1 zl
       have hb42 := chg_below hb35 hc41 (fun b hb q => by have q2 : Bq ≤ b := q; omega)
       have hB43 := chg_blk hB36 hc41 (fun q => by have q2 : Bq ≤ g2 := q; omega)
       have hq44 : Bq ≤ w39.heap.size := by have z := hc41.size; omega
       clear zu zw zk
       refine WE.go zh ?_
       refine WE.blockNormal (WE.next (WC.region (WL.mv rfl rfl rfl rfl rfl ?_)))
       refine WL.val (.int .i64 ((((k + 1) : Nat) : Int))) rfl rfl rfl (fun za zC zh zk => addb_3 rfl (zh.ev rfl) (zh.ev rfl) (wrap_eq (by omega) (by omega) (by omega)) zk) ?_
       refine WL.asg rfl rfl rfl rfl rfl ?_
       refine WL.nil (WE.sub (K' := [(0, .slice a l.length c), (1, .slice ia ids.length ic), (2, .agg #[.int .i64 t.f, .slice ta t.args.length tc]), (3, .int .i64 (((r : Nat) : Int))), (6, .pointer (some ⟨g2, 0, none⟩)), (8, .bool false), (9, .pointer (some ⟨gq1, 0, none⟩)), (10, .pointer (some ⟨gq2, 0, none⟩)), (11, .int .i64 ((((k + 1) : Nat) : Int))), (12, .int .i64 (((((k + r) % l.length) : Nat) : Int))), (29, .bool ((((decide ((60 : Int) < (((l.length : Nat) : Int) : Int))) || ((((l.length : Nat) : Int) : Int) == (0 : Int))) || (decide ((((ids.length : Nat) : Int) : Int) < (((l.length : Nat) : Int) : Int)))))), (46, .bool ((decide ((((k : Nat) : Int) : Int) < (((l.length : Nat) : Int) : Int)))))]) ⟨rfl, rfl, rfl, rfl, rfl, rfl, rfl, rfl, rfl, rfl, rfl, rfl, trivial⟩ ?_)
       refine WE.round (k + 1) ⟨rfl, rfl, rfl, rfl, rfl, rfl, rfl, rfl, rfl, rfl, trivial⟩ ?_ ?_
       ·exact ⟨(by (try dsimp only at *); omega), hq44, hb42, hB43, (by rw [bX_succ, bY_succ]; exact hG40)⟩
       ·(try dsimp only at *); omega
    ·have h24 : ¬ ((((k : Nat) : Int) : Int) < (((l.length : Nat) : Int) : Int)) := by simpa using h24
     refine WC.exit (WE.thenExit (WE.thenExit (WE.blockIs rfl (WE.next (WC.seq (WC.seq ?_))))))
     have hkl : k = l.length := by omega
     have hT11 := ho23
     rw [hkl] at hT11
     obtain ⟨Zx9, hFx9⟩ := TwoIx.x hT11
     obtain ⟨Zy9, hFy9⟩ := TwoIx.y hT11
     refine WC.opt [(true, .val (.pointer (some ⟨gq1, 0, none⟩))), (true, .val (.agg #[.int .i64 t.f, .slice ta t.args.length tc])), (true, .mem (fun v w => Told0 w (askP (bX l ids l.length) 0 (prt t)) v) (fun v w w' hb h => h.below hb)), (true, .val (.pointer (some ⟨gq2, 0, none⟩))), (true, .val (.agg #[.int .i64 t.f, .slice ta t.args.length tc])), (true, .mem (fun v w => Told0 w (askP (bX l ids l.length) 0 (prt t)) v) (fun v w w' hb h => h.below hb)), (true, .val (.bool true)), (true, .val (.bool false)), (true, .val (.bool false)), ((true && !false), .val (.pointer (some ⟨gq1, 0, none⟩))), ((true && !false), .val (.agg #[.int .i64 t.f, .slice ta t.args.length tc])), ((true && !false), .mem (fun v w => Told0 w (askP (bX l ids l.length) 1 (prt t)) v) (fun v w w' hb h => h.below hb)), ((true && !false), .val (.pointer (some ⟨gq2, 0, none⟩))), ((true && !false), .val (.agg #[.int .i64 t.f, .slice ta t.args.length tc])), ((true && !false), .mem (fun v w => Told0 w (askP (bX l ids l.length) 1 (prt t)) v) (fun v w w' hb h => h.below hb)), ((true && !false), .val (.bool true)), ((true && !false), .val (.bool ((!true)))), (true, .val (.bool ((!true)))), (true, .val (.bool ((!true)))), ((true && !(!true)), .val (.pointer (some ⟨gq1, 0, none⟩))), ((true && !(!true)), .val (.agg #[.int .i64 t.f, .slice ta t.args.length tc])), ((true && !(!true)), .mem (fun v w => Told0 w (askP (bX l ids l.length) 2 (prt t)) v) (fun v w w' hb h => h.below hb)), ((true && !(!true)), .val (.pointer (some ⟨gq2, 0, none⟩))), ((true && !(!true)), .val (.agg #[.int .i64 t.f, .slice ta t.args.length tc])), ((true && !(!true)), .mem (fun v w => Told0 w (askP (bX l ids l.length) 2 (prt t)) v) (fun v w w' hb h => h.below hb)), ((true && !(!true)), .val (.bool true)), ((true && !(!true)), .val (.bool ((!true)))), (true, .val (.bool (((!true) || (!true))))), (true, .val (.bool (((!true) || (!true))))), ((true && !((!true) || (!true))), .val (.pointer (some ⟨gq1, 0, none⟩))), ((true && !((!true) || (!true))), .val (.int .i64 (((List.length (bX l ids l.length : List TI) : Nat) : Int)))), ((true && !((!true) || (!true))), .val (.slice a l.length c)), ((true && !((!true) || (!true))), .val (.int .i64 (((l.length : Nat) : Int)))), ((true && !((!true) || (!true))), .val (.bool false)), (true, .val (.bool ((((!true) || (!true)) || false))))] [(0, .slice a l.length c), (1, .slice ia ids.length ic), (2, .agg #[.int .i64 t.f, .slice ta t.args.length tc]), (3, .int .i64 (((r : Nat) : Int))), (6, .pointer (some ⟨g2, 0, none⟩)), (8, .bool false), (9, .pointer (some ⟨gq1, 0, none⟩)), (10, .pointer (some ⟨gq2, 0, none⟩)), (11, .int .i64 (((k : Nat) : Int))), (29, .bool ((((decide ((60 : Int) < (((l.length : Nat) : Int) : Int))) || ((((l.length : Nat) : Int) : Int) == (0 : Int))) || (decide ((((ids.length : Nat) : Int) : Int) < (((l.length : Nat) : Int) : Int)))))), (46, .bool ((decide ((((k : Nat) : Int) : Int) < (((l.length : Nat) : Int) : Int)))))] ⟨rfl, rfl, rfl, rfl, rfl, rfl, rfl, rfl, rfl, rfl, rfl, trivial⟩ (by kernel_rfl) (by kernel_rfl) (by kernel_rfl) ?_ ?_
     ·refine ⟨⟨true, .none rfl, fun h w => optUndef h, fun zβ za zw zc => ?_⟩, ?_⟩
      ·exact wp_move rfl (zc.kn.ev rfl) ⟨_, rfl, Below.refl _ _, optDef zβ rfl⟩
      refine ⟨⟨true, .none rfl, fun h w => optUndef h, fun zβ za zw zc => ?_⟩, ?_⟩
      ·exact ld_24 rfl (zc.kn.ev rfl) (bkeeps zc.below _ _ ((hB22.cell 0).trans rfl)) (bkeeps zc.below _ _ ((hB22.cell 1).trans rfl)) ⟨_, rfl, Below.refl _ _, optDef zβ rfl⟩
      refine ⟨⟨true, .none rfl, fun h w => optUndef h, fun zβ za zw zc => ?_⟩, ?_⟩
      ·exact wp_call (by kernel_rfl) rfl (hv2 ((evt za 77).trans (optVal (zc.dep 0 77 (by kernel_rfl)) rfl rfl)) ((evt za 78).trans (optVal (zc.dep 1 78 (by kernel_rfl)) rfl rfl))) (fUni_any _ _ _ _ t _ (by rw [bX_len]; omega) (IsT.below (bstep hb21 zc.below) hvt) (FpIs.below hFx9 zc.below)) (fun v w' h => ⟨v, rfl, h.2, optDef zβ (told0 h.1 rfl)⟩)
      refine ⟨⟨true, .none rfl, fun h w => optUndef h, fun zβ za zw zc => ?_⟩, ?_⟩
      ·exact wp_move rfl (zc.kn.ev rfl) ⟨_, rfl, Below.refl _ _, optDef zβ rfl⟩
      refine ⟨⟨true, .none rfl, fun h w => optUndef h, fun zβ za zw zc => ?_⟩, ?_⟩
      ·exact ld_24 rfl (zc.kn.ev rfl) (bkeeps zc.below _ _ ((hB22.cell 0).trans rfl)) (bkeeps zc.below _ _ ((hB22.cell 1).trans rfl)) ⟨_, rfl, Below.refl _ _, optDef zβ rfl⟩
      refine ⟨⟨true, .none rfl, fun h w => optUndef h, fun zβ za zw zc => ?_⟩, ?_⟩
      ·exact wp_call (by kernel_rfl) rfl (hv2 ((evt za 80).trans (optVal (zc.dep 3 80 (by kernel_rfl)) rfl rfl)) ((evt za 81).trans (optVal (zc.dep 4 81 (by kernel_rfl)) rfl rfl))) (fUni_any _ _ _ _ t _ (by rw [bY_len]; omega) (IsT.below (bstep hb21 zc.below) hvt) (FpIs.below hFy9 zc.below)) (fun v w' h => ⟨v, rfl, h.2, optDef zβ (told0 h.1 (bXY_ask hrl))⟩)
      refine ⟨⟨true, .none rfl, fun h w => optUndef h, fun zβ za zw zc => ?_⟩, ?_⟩
      ·exact wp_call (by kernel_rfl) rfl (hv2 (evt za 79) (evt za 82)) (row_told (optMem (zc.dep 2 79 (by kernel_rfl)) rfl rfl) (optMem (zc.dep 5 82 (by kernel_rfl)) rfl rfl) (by have z := askP_len (bX l ids l.length) 0 (prt t); rw [bX_len] at z; omega)) (fun v w' h => ⟨v, rfl, h.2, optDef zβ h.1⟩)
      refine ⟨⟨true, .none rfl, fun h w => optUndef h, fun zβ za zw zc => ?_⟩, ?_⟩
      ·exact wp_not rfl ((evt za 83).trans (optVal (zc.dep 6 83 (by kernel_rfl)) rfl rfl)) ⟨_, rfl, Below.refl _ _, optDef zβ rfl⟩
      refine ⟨⟨true, .none rfl, fun h w => optUndef h, fun zβ za zw zc => ?_⟩, ?_⟩
      ·exact wp_move rfl ((evt za 84).trans (optVal (zc.dep 7 84 (by kernel_rfl)) rfl rfl)) ⟨_, rfl, Below.refl _ _, optDef zβ rfl⟩
      refine ⟨⟨_, .no (d := true) rfl (fun v w h => h), fun h w => optUndef h, fun zβ za zw zc => ?_⟩, ?_⟩
      ·exact wp_move rfl (zc.kn.ev rfl) ⟨_, rfl, Below.refl _ _, optDef zβ rfl⟩
      refine ⟨⟨_, .no (d := true) rfl (fun v w h => h), fun h w => optUndef h, fun zβ za zw zc => ?_⟩, ?_⟩
      ·exact ld_24 rfl (zc.kn.ev rfl) (bkeeps zc.below _ _ ((hB22.cell 0).trans rfl)) (bkeeps zc.below _ _ ((hB22.cell 1).trans rfl)) ⟨_, rfl, Below.refl _ _, optDef zβ rfl⟩
      refine ⟨⟨_, .no (d := true) rfl (fun v w h => h), fun h w => optUndef h, fun zβ za zw zc => ?_⟩, ?_⟩
      ·exact wp_call (by kernel_rfl) rfl (hv2 ((evt za 86).trans (optVal (zc.dep 9 86 (by kernel_rfl)) rfl rfl)) ((evt za 87).trans (optVal (zc.dep 10 87 (by kernel_rfl)) rfl rfl))) (fGen_any _ _ _ _ t _ (by rw [bX_len]; omega) (IsT.below (bstep hb21 zc.below) hvt) (FpIs.below hFx9 zc.below)) (fun v w' h => ⟨v, rfl, h.2, optDef zβ (told0 h.1 rfl)⟩)
      refine ⟨⟨_, .no (d := true) rfl (fun v w h => h), fun h w => optUndef h, fun zβ za zw zc => ?_⟩, ?_⟩
      ·exact wp_move rfl (zc.kn.ev rfl) ⟨_, rfl, Below.refl _ _, optDef zβ rfl⟩
      refine ⟨⟨_, .no (d := true) rfl (fun v w h => h), fun h w => optUndef h, fun zβ za zw zc => ?_⟩, ?_⟩
      ·exact ld_24 rfl (zc.kn.ev rfl) (bkeeps zc.below _ _ ((hB22.cell 0).trans rfl)) (bkeeps zc.below _ _ ((hB22.cell 1).trans rfl)) ⟨_, rfl, Below.refl _ _, optDef zβ rfl⟩
      refine ⟨⟨_, .no (d := true) rfl (fun v w h => h), fun h w => optUndef h, fun zβ za zw zc => ?_⟩, ?_⟩
      ·exact wp_call (by kernel_rfl) rfl (hv2 ((evt za 89).trans (optVal (zc.dep 12 89 (by kernel_rfl)) rfl rfl)) ((evt za 90).trans (optVal (zc.dep 13 90 (by kernel_rfl)) rfl rfl))) (fGen_any _ _ _ _ t _ (by rw [bY_len]; omega) (IsT.below (bstep hb21 zc.below) hvt) (FpIs.below hFy9 zc.below)) (fun v w' h => ⟨v, rfl, h.2, optDef zβ (told0 h.1 (bXY_ask hrl))⟩)
      refine ⟨⟨_, .no (d := true) rfl (fun v w h => h), fun h w => optUndef h, fun zβ za zw zc => ?_⟩, ?_⟩
      ·exact wp_call (by kernel_rfl) rfl (hv2 (evt za 88) (evt za 91)) (row_told (optMem (zc.dep 11 88 (by kernel_rfl)) rfl rfl) (optMem (zc.dep 14 91 (by kernel_rfl)) rfl rfl) (by have z := askP_len (bX l ids l.length) 1 (prt t); rw [bX_len] at z; omega)) (fun v w' h => ⟨v, rfl, h.2, optDef zβ h.1⟩)
      refine ⟨⟨_, .no (d := true) rfl (fun v w h => h), fun h w => optUndef h, fun zβ za zw zc => ?_⟩, ?_⟩
      ·exact wp_not rfl ((evt za 92).trans (optVal (zc.dep 15 92 (by kernel_rfl)) rfl rfl)) ⟨_, rfl, Below.refl _ _, optDef zβ rfl⟩
      refine ⟨⟨true, .none rfl, fun h w => optUndef h, fun zβ za zw zc => ?_⟩, ?_⟩
      ·exact wp_pickF rfl ((evt za 85).trans (optVal (zc.dep 8 85 (by kernel_rfl)) rfl rfl)) ((evt za 93).trans (optVal (zc.dep 16 93 (by kernel_rfl)) rfl rfl)) ⟨_, rfl, Below.refl _ _, optDef zβ rfl⟩
      refine ⟨⟨true, .none rfl, fun h w => optUndef h, fun zβ za zw zc => ?_⟩, ?_⟩
      ·exact wp_move rfl ((evt za 94).trans (optVal (zc.dep 17 94 (by kernel_rfl)) rfl rfl)) ⟨_, rfl, Below.refl _ _, optDef zβ rfl⟩
      refine ⟨⟨_, .no (d := true) rfl (fun v w h => h), fun h w => optUndef h, fun zβ za zw zc => ?_⟩, ?_⟩
      ·exact wp_move rfl (zc.kn.ev rfl) ⟨_, rfl, Below.refl _ _, optDef zβ rfl⟩
      refine ⟨⟨_, .no (d := true) rfl (fun v w h => h), fun h w => optUndef h, fun zβ za zw zc => ?_⟩, ?_⟩
      ·exact ld_24 rfl (zc.kn.ev rfl) (bkeeps zc.below _ _ ((hB22.cell 0).trans rfl)) (bkeeps zc.below _ _ ((hB22.cell 1).trans rfl)) ⟨_, rfl, Below.refl _ _, optDef zβ rfl⟩
      refine ⟨⟨_, .no (d := true) rfl (fun v w h => h), fun h w => optUndef h, fun zβ za zw zc => ?_⟩, ?_⟩
      ·exact wp_call (by kernel_rfl) rfl (hv2 ((evt za 96).trans (optVal (zc.dep 19 96 (by kernel_rfl)) rfl rfl)) ((evt za 97).trans (optVal (zc.dep 20 97 (by kernel_rfl)) rfl rfl))) (fIns_any _ _ _ _ t _ (by rw [bX_len]; omega) (IsT.below (bstep hb21 zc.below) hvt) (FpIs.below hFx9 zc.below)) (fun v w' h => ⟨v, rfl, h.2, optDef zβ (told0 h.1 rfl)⟩)
      refine ⟨⟨_, .no (d := true) rfl (fun v w h => h), fun h w => optUndef h, fun zβ za zw zc => ?_⟩, ?_⟩
      ·exact wp_move rfl (zc.kn.ev rfl) ⟨_, rfl, Below.refl _ _, optDef zβ rfl⟩
      refine ⟨⟨_, .no (d := true) rfl (fun v w h => h), fun h w => optUndef h, fun zβ za zw zc => ?_⟩, ?_⟩
      ·exact ld_24 rfl (zc.kn.ev rfl) (bkeeps zc.below _ _ ((hB22.cell 0).trans rfl)) (bkeeps zc.below _ _ ((hB22.cell 1).trans rfl)) ⟨_, rfl, Below.refl _ _, optDef zβ rfl⟩
      refine ⟨⟨_, .no (d := true) rfl (fun v w h => h), fun h w => optUndef h, fun zβ za zw zc => ?_⟩, ?_⟩
      ·exact wp_call (by kernel_rfl) rfl (hv2 ((evt za 99).trans (optVal (zc.dep 22 99 (by kernel_rfl)) rfl rfl)) ((evt za 100).trans (optVal (zc.dep 23 100 (by kernel_rfl)) rfl rfl))) (fIns_any _ _ _ _ t _ (by rw [bY_len]; omega) (IsT.below (bstep hb21 zc.below) hvt) (FpIs.below hFy9 zc.below)) (fun v w' h => ⟨v, rfl, h.2, optDef zβ (told0 h.1 (bXY_ask hrl))⟩)
      refine ⟨⟨_, .no (d := true) rfl (fun v w h => h), fun h w => optUndef h, fun zβ za zw zc => ?_⟩, ?_⟩
      ·exact wp_call (by kernel_rfl) rfl (hv2 (evt za 98) (evt za 101)) (row_told (optMem (zc.dep 21 98 (by kernel_rfl)) rfl rfl) (optMem (zc.dep 24 101 (by kernel_rfl)) rfl rfl) (by have z := askP_len (bX l ids l.length) 2 (prt t); rw [bX_len] at z; omega)) (fun v w' h => ⟨v, rfl, h.2, optDef zβ h.1⟩)
      refine ⟨⟨_, .no (d := true) rfl (fun v w h => h), fun h w => optUndef h, fun zβ za zw zc => ?_⟩, ?_⟩
      ·exact wp_not rfl ((evt za 102).trans (optVal (zc.dep 25 102 (by kernel_rfl)) rfl rfl)) ⟨_, rfl, Below.refl _ _, optDef zβ rfl⟩
      refine ⟨⟨true, .none rfl, fun h w => optUndef h, fun zβ za zw zc => ?_⟩, ?_⟩
      ·exact wp_or rfl ((evt za 95).trans (optVal (zc.dep 18 95 (by kernel_rfl)) rfl rfl)) (fun hp => ((evt za 103).trans (optVal (zc.dep 26 103 (by kernel_rfl)) rfl rfl))) ⟨_, rfl, Below.refl _ _, optDef zβ rfl⟩
      refine ⟨⟨true, .none rfl, fun h w => optUndef h, fun zβ za zw zc => ?_⟩, ?_⟩
      ·exact wp_move rfl ((evt za 104).trans (optVal (zc.dep 27 104 (by kernel_rfl)) rfl rfl)) ⟨_, rfl, Below.refl _ _, optDef zβ rfl⟩
      refine ⟨⟨_, .no (d := true) rfl (fun v w h => h), fun h w => optUndef h, fun zβ za zw zc => ?_⟩, ?_⟩
      ·exact wp_move rfl (zc.kn.ev rfl) ⟨_, rfl, Below.refl _ _, optDef zβ rfl⟩
      refine ⟨⟨_, .no (d := true) rfl (fun v w h => h), fun h w => optUndef h, fun zβ za zw zc => ?_⟩, ?_⟩
      ·exact wp_call (by kernel_rfl) rfl (hv1 ((evt za 106).trans (optVal (zc.dep 29 106 (by kernel_rfl)) rfl zβ))) (flen_any _ _ (bX l ids l.length) _ (FpIs.below hFx9 zc.below)) (fun v w' h => ⟨v, rfl, h.2, optDef zβ h.1⟩)
      refine ⟨⟨_, .no (d := true) rfl (fun v w h => h), fun h w => optUndef h, fun zβ za zw zc => ?_⟩, ?_⟩
      ·exact wp_move rfl (zc.kn.ev rfl) ⟨_, rfl, Below.refl _ _, optDef zβ rfl⟩
      refine ⟨⟨_, .no (d := true) rfl (fun v w h => h), fun h w => optUndef h, fun zβ za zw zc => ?_⟩, ?_⟩
      ·exact len_22 rfl ((evt za 108).trans (optVal (zc.dep 31 108 (by kernel_rfl)) rfl zβ)) ⟨_, rfl, Below.refl _ _, optDef zβ rfl⟩
      refine ⟨⟨_, .no (d := true) rfl (fun v w h => h), fun h w => optUndef h, fun zβ za zw zc => ?_⟩, ?_⟩
      ·exact neq_3 rfl ((evt za 107).trans (optVal (zc.dep 30 107 (by kernel_rfl)) rfl zβ)) ((evt za 109).trans (optVal (zc.dep 32 109 (by kernel_rfl)) rfl zβ)) (by rw [show ((((List.length (bX l ids l.length : List TI) : Nat) : Int) : Int) != (((l.length : Nat) : Int) : Int)) = false from by rw [bX_len]; simp]; exact ⟨_, rfl, Below.refl _ _, optDef zβ rfl⟩)
      refine ⟨⟨true, .none rfl, fun h w => optUndef h, fun zβ za zw zc => ?_⟩, ?_⟩
      ·exact wp_or rfl ((evt za 105).trans (optVal (zc.dep 28 105 (by kernel_rfl)) rfl rfl)) (fun hp => ((evt za 110).trans (optVal (zc.dep 33 110 (by kernel_rfl)) rfl (bMkN zβ hp)))) ⟨_, rfl, Below.refl _ _, optDef zβ rfl⟩
      exact trivial
     ·intro za w46 zh hb47 zu
      have zh := zh.cons (d := 111) (v := .bool ((((!true) || (!true)) || false))) (optVal (zu 34 111 (by kernel_rfl)) rfl rfl)
      clear zu
      refine WE.go zh ?_
      refine WE.next ?_
      refine WC.condF rfl ((by simp)) ?_
      refine WC.skip (WE.next (WC.seq (WC.seq (WC.region (WL.asg rfl rfl rfl rfl rfl (WL.nil (WE.next (WC.block ?_))))))))
      have hzv : Bq ≤ w46.heap.size := by have z := hb47.size; omega
      refine WC.loop (X := DT) (fun x => l.length - x.k) (fun x => [(0, .slice a l.length c), (1, .slice ia ids.length ic), (2, .agg #[.int .i64 t.f, .slice ta t.args.length tc]), (3, .int .i64 (((r : Nat) : Int))), (6, .pointer (some ⟨g2, 0, none⟩)), (9, .pointer (some ⟨gq1, 0, none⟩)), (10, .pointer (some ⟨gq2, 0, none⟩)), (11, .int .i64 (((k : Nat) : Int))), (13, .int .i64 (((x.k : Nat) : Int))), (29, .bool ((((decide ((60 : Int) < (((l.length : Nat) : Int) : Int))) || ((((l.length : Nat) : Int) : Int) == (0 : Int))) || (decide ((((ids.length : Nat) : Int) : Int) < (((l.length : Nat) : Int) : Int)))))), (46, .bool ((decide ((((k : Nat) : Int) : Int) < (((l.length : Nat) : Int) : Int))))), (111, .bool ((((!true) || (!true)) || false)))]) (fun x w48 => x.k ≤ l.length ∧ Bq ≤ (w48).heap.size ∧ x.D.Perm (bR l ids r x.k) ∧ Below w.heap.size w w48 ∧ Blk w48 g2 24 #[.int .i64 t.f, .slice ta t.args.length tc] ∧ TwoIx (w48) Bq gq1 gq2 x.D (bY l ids r l.length)) (⟨0, bX l ids l.length⟩) ⟨rfl, rfl, rfl, rfl, rfl, rfl, rfl, rfl, rfl, rfl, rfl, rfl, trivial⟩ ?_ ?_
      ·have hb49 : Below w.heap.size w w46 := (bstep hb21 hb47)
       have hB50 := hB22.below hb47
       have ho51 := hT11.below hb47
       exact ⟨Nat.zero_le _, hzv, bXY hrl, hb49, hB50, ho51⟩
      ·rintro x w48 ⟨hkx, hzx, hpx, hb52, hB53, ho54⟩
       refine WC.seq (WC.seq (WC.region (WL.mv rfl rfl rfl rfl rfl (WL.mv rfl rfl rfl rfl rfl ?_))))
       refine WL.val (.int .i64 (((l.length : Nat) : Int))) rfl rfl rfl (fun za zC zh zk => len_22 rfl (zh.ev rfl) zk) ?_
       refine WL.val (.bool ((decide ((((x.k : Nat) : Int) : Int) < (((l.length : Nat) : Int) : Int))))) rfl rfl rfl (fun za zC zh zk => lss_3 rfl (zh.ev rfl) (zh.ev rfl) zk) ?_
       refine WL.nil (WE.next ?_)
       refine WC.cond rfl (fun h55 => ?_) (fun h55 => ?_)
       ·have h55 : (((x.k : Nat) : Int) : Int) < (((l.length : Nat) : Int) : Int) := by simpa using h55
        refine WC.skip (WE.next (WC.seq (WC.block (WC.seq (WC.region (WL.mv rfl rfl rfl rfl rfl (WL.mv rfl rfl rfl rfl rfl ?_)))))))
        refine WL.val (.int .i64 ((((x.k + r) : Nat) : Int))) rfl rfl rfl (fun za zC zh zk => addb_3 rfl (zh.ev rfl) (zh.ev rfl) (wrap_eq (by omega) (by omega) (by omega)) zk) ?_
        refine WL.mv rfl rfl rfl rfl rfl ?_
        refine WL.val (.int .i64 (((l.length : Nat) : Int))) rfl rfl rfl (fun za zC zh zk => len_22 rfl (zh.ev rfl) zk) ?_
        have hml := Nat.mod_lt (x.k + r) (show 0 < l.length by omega)
        refine WL.val (.int .i64 ((((x.k + r) % l.length) : Nat) : Int)) rfl rfl rfl (fun za zC zh zk => rem_3 rfl (zh.ev rfl) (zh.ev rfl) (by omega) (by rw [show ((x.k + r : Nat) : Int).tmod (l.length : Int) = ((((x.k + r) % l.length) : Nat) : Int) from by rw [Int.tmod_eq_emod_of_nonneg (by omega)]; omega]; exact zk)) ?_
        refine WL.asg rfl rfl rfl rfl rfl (WL.nil (WE.next (WC.seq ?_)))
        have hpm := hpx
        rw [bR_succ (by omega)] at hpm
        have hin9 : rAt l ids ((x.k + r) % l.length) ∈ x.D := hpm.mem_iff.2 List.mem_cons_self
        have hDl : x.D.length ≤ 1000000 := by have z := hpx.length_eq; unfold bR at z; simp at z; omega
        have hsz9 : (tget l ((x.k + r) % l.length)).size ≤ 1048576 := Nat.le_trans (T.size_le_sizeL (tget_mem (by omega))) hsz
        have hid9 := and7 (List.getD ids ((x.k + r) % l.length) 0)
        have hqz56 : Bq ≤ w48.heap.size := (by omega)
        obtain ⟨b57, o58, A59, C60, ha61, hc62⟩ := IsTs.open hl
        refine WC.seqV (S := ((fun b => Bq ≤ b))) [(true, .val (.pointer (some ⟨gq1, 0, none⟩))), (true, .val (.slice a l.length c)), (true, .val (.int .i64 (((((x.k + r) % l.length) : Nat) : Int)))), (true, .val (.pointer (some ⟨b57, o58 + (((x.k + r) % l.length)) * 2, none⟩))), (true, .val (.agg #[.int .i64 ((tget l (((x.k + r) % l.length))).f), .slice ((A59 (((x.k + r) % l.length)))) ((tget l (((x.k + r) % l.length))).args.length) ((C60 (((x.k + r) % l.length))))])), (true, .val (.slice ia ids.length ic)), (true, .val (.int .i64 (((((x.k + r) % l.length) : Nat) : Int)))), (true, .val (.pointer (some ⟨ib, io + (((x.k + r) % l.length)), none⟩))), (true, .val (.int .i64 ((List.getD ids (((x.k + r) % l.length)) 0)))), (true, .val (.int .i64 ((bits .and .i64 ((List.getD ids (((x.k + r) % l.length)) 0)) 7)))), (true, .val undef), (true, .val (.bool false))] [(0, .slice a l.length c), (1, .slice ia ids.length ic), (2, .agg #[.int .i64 t.f, .slice ta t.args.length tc]), (3, .int .i64 (((r : Nat) : Int))), (6, .pointer (some ⟨g2, 0, none⟩)), (9, .pointer (some ⟨gq1, 0, none⟩)), (10, .pointer (some ⟨gq2, 0, none⟩)), (11, .int .i64 (((k : Nat) : Int))), (13, .int .i64 (((x.k : Nat) : Int))), (14, .int .i64 (((((x.k + r) % l.length) : Nat) : Int))), (29, .bool ((((decide ((60 : Int) < (((l.length : Nat) : Int) : Int))) || ((((l.length : Nat) : Int) : Int) == (0 : Int))) || (decide ((((ids.length : Nat) : Int) : Int) < (((l.length : Nat) : Int) : Int)))))), (46, .bool ((decide ((((k : Nat) : Int) : Int) < (((l.length : Nat) : Int) : Int))))), (111, .bool ((((!true) || (!true)) || false))), (115, .bool ((decide ((((x.k : Nat) : Int) : Int) < (((l.length : Nat) : Int) : Int)))))] [10] [some (true, .bool true)] (TwoG Bq gq1 gq2 x.D (bY l ids r l.length) (delB (rAt l ids ((x.k + r) % l.length)).1 (rAt l ids ((x.k + r) % l.length)).2 x.D) (bY l ids r l.length)) TwoG.below (by decide) ⟨rfl, rfl, rfl, rfl, rfl, rfl, rfl, rfl, rfl, rfl, rfl, rfl, rfl, rfl, trivial⟩ (by kernel_rfl) (by kernel_rfl) (by kernel_rfl) (by kernel_rfl) ho54 ?_ ?_
        ·refine ⟨.inl ⟨rfl, true, .none rfl, (fun gg b h => by cases h), fun h w => optUndef h, fun zβ za zw zc => ?_⟩, ?_⟩
         ·exact wp_move rfl (zc.kn.ev rfl) ⟨_, rfl, Below.refl _ _, optDef zβ rfl⟩
         refine ⟨.inl ⟨rfl, true, .none rfl, (fun gg b h => by cases h), fun h w => optUndef h, fun zβ za zw zc => ?_⟩, ?_⟩
         ·exact wp_move rfl (zc.kn.ev rfl) ⟨_, rfl, Below.refl _ _, optDef zβ rfl⟩
         refine ⟨.inl ⟨rfl, true, .none rfl, (fun gg b h => by cases h), fun h w => optUndef h, fun zβ za zw zc => ?_⟩, ?_⟩
         ·exact wp_move rfl (zc.kn.ev rfl) ⟨_, rfl, Below.refl _ _, optDef zβ rfl⟩
         refine ⟨.inl ⟨rfl, true, .none rfl, (fun gg b h => by cases h), fun h w => optUndef h, fun zβ za zw zc => ?_⟩, ?_⟩
         ·exact ix_22 (k := ((x.k + r) % l.length)) rfl ((evt za 125).trans (optSVal (zc.dep 1 125 (by kernel_rfl) (by decide)) rfl rfl)) (ha61 (((x.k + r) % l.length)) (by first | omega | (simp; omega))) ((evt za 126).trans (optSVal (zc.dep 2 126 (by kernel_rfl) (by decide)) rfl rfl)) (by first | omega | (simp; omega)) ⟨_, rfl, Below.refl _ _, optDef zβ rfl⟩
         refine ⟨.inl ⟨rfl, true, .none rfl, (fun gg b h => by cases h), fun h w => optUndef h, fun zβ za zw zc => ?_⟩, ?_⟩
         ·exact ld_24 rfl ((evt za 127).trans (optSVal (zc.dep 3 127 (by kernel_rfl) (by decide)) rfl rfl)) (chg_old hb52 zc.chg (fun b hb => by (try dsimp only at *); omega) (hc62 (((x.k + r) % l.length)) (by first | omega | (simp; omega))).1) (chg_old hb52 zc.chg (fun b hb => by (try dsimp only at *); omega) (hc62 (((x.k + r) % l.length)) (by first | omega | (simp; omega))).2.1) ⟨_, rfl, Below.refl _ _, optDef zβ rfl⟩
         refine ⟨.inl ⟨rfl, true, .none rfl, (fun gg b h => by cases h), fun h w => optUndef h, fun zβ za zw zc => ?_⟩, ?_⟩
         ·exact wp_move rfl (zc.kn.ev rfl) ⟨_, rfl, Below.refl _ _, optDef zβ rfl⟩
         refine ⟨.inl ⟨rfl, true, .none rfl, (fun gg b h => by cases h), fun h w => optUndef h, fun zβ za zw zc => ?_⟩, ?_⟩
         ·exact wp_move rfl (zc.kn.ev rfl) ⟨_, rfl, Below.refl _ _, optDef zβ rfl⟩
         refine ⟨.inl ⟨rfl, true, .none rfl, (fun gg b h => by cases h), fun h w => optUndef h, fun zβ za zw zc => ?_⟩, ?_⟩
         ·exact ix_31 (k := ((x.k + r) % l.length)) rfl ((evt za 129).trans (optSVal (zc.dep 5 129 (by kernel_rfl) (by decide)) rfl rfl)) (hia (((x.k + r) % l.length)) (by omega)) ((evt za 130).trans (optSVal (zc.dep 6 130 (by kernel_rfl) (by decide)) rfl rfl)) (by first | omega | (simp; omega)) ⟨_, rfl, Below.refl _ _, optDef zβ rfl⟩
         refine ⟨.inl ⟨rfl, true, .none rfl, (fun gg b h => by cases h), fun h w => optUndef h, fun zβ za zw zc => ?_⟩, ?_⟩
         ·exact ld_3 rfl ((evt za 131).trans (optSVal (zc.dep 7 131 (by kernel_rfl) (by decide)) rfl rfl)) (chg_old hb52 zc.chg (fun b hb => by (try dsimp only at *); omega) (hci (((x.k + r) % l.length)) (by omega))) ⟨_, rfl, Below.refl _ _, optDef zβ rfl⟩
         refine ⟨.inl ⟨rfl, true, .none rfl, (fun gg b h => by cases h), fun h w => optUndef h, fun zβ za zw zc => ?_⟩, ?_⟩
         ·exact and_int rfl ((evt za 132).trans (optSVal (zc.dep 8 132 (by kernel_rfl) (by decide)) rfl rfl)) (zc.kn.ev rfl) Try.underlying3 ⟨_, rfl, Below.refl _ _, optDef zβ rfl⟩
         refine ⟨.inr ⟨0, rfl, by kernel_rfl, true, .none rfl, (fun gg b h => by cases h), (fun h => (nomatch h)), fun zβ za zw zvals zc => ?_⟩, ?_⟩
         ·obtain rfl := vlen0 zc.len
          have zn := zc.now
          exact wp_call (by kernel_rfl) rfl (hv3 ((evt za 124).trans (optSVal (zc.dep 0 124 (by kernel_rfl) (by decide)) rfl rfl)) ((evt za 128).trans (optSVal (zc.dep 4 128 (by kernel_rfl) (by decide)) rfl rfl)) ((evt za 133).trans (optSVal (zc.dep 9 133 (by kernel_rfl) (by decide)) rfl rfl))) (two_del zn (id7 _) hDl (IsT.below (chg_below hb52 zc.chg (fun b hb q => by have q2 : Bq ≤ b := q; omega)) ((hc62 (((x.k + r) % l.length)) (by first | omega | (simp; omega))).2.2)) hin9) (fun v w' h => ⟨v, rfl, h.2.2, h.2.1, cvIs h.1⟩)
         refine ⟨.inl ⟨rfl, true, .none rfl, (fun gg b h => by cases h), fun h w => optUndef h, fun zβ za zw zc => ?_⟩, ?_⟩
         ·exact wp_not rfl ((evt za 134).trans (zc.link 0 10 134 _ _ rfl (by kernel_rfl) rfl rfl)) ⟨_, rfl, Below.refl _ _, optDef zβ rfl⟩
         exact trivial
        ·intro za w63 zvals zh zl hG64 hc65 zu zw zk
         obtain ⟨z0, rfl⟩ := vlen1 zl
         have zh := zh.cons (d := 135) (v := .bool false) (optSVal (zu 11 135 (by kernel_rfl) (by decide)) rfl rfl)
         have hb66 := chg_below hb52 hc65 (fun b hb q => by have q2 : Bq ≤ b := q; omega)
         have hB67 := chg_blk hB53 hc65 (fun q => by have q2 : Bq ≤ g2 := q; omega)
         have hq68 : Bq ≤ w63.heap.size := by have z := hc65.size; omega
         clear zu zw zk
         refine WE.go zh ?_
         refine WE.next ?_
         refine WC.condF rfl rfl ?_
         refine WC.skip (WE.blockNormal (WE.next (WC.region (WL.mv rfl rfl rfl rfl rfl ?_))))
         refine WL.val (.int .i64 ((((x.k + 1) : Nat) : Int))) rfl rfl rfl (fun za zC zh zk => addb_3 rfl (zh.ev rfl) (zh.ev rfl) (wrap_eq (by omega) (by omega) (by omega)) zk) ?_
         refine WL.asg rfl rfl rfl rfl rfl (WL.nil ?_)
         refine WE.round (⟨x.k + 1, delB (rAt l ids ((x.k + r) % l.length)).1 (rAt l ids ((x.k + r) % l.length)).2 x.D⟩) ⟨rfl, rfl, rfl, rfl, rfl, rfl, rfl, rfl, rfl, rfl, rfl, rfl, trivial⟩ ?_ ?_
         ·exact ⟨(by (try dsimp only at *); omega), hq68, (((delB_perm hin9).symm.trans hpm).cons_inv), hb66, hB67, hG64⟩
         ·(try dsimp only at *); omega
       ·have h55 : ¬ ((((x.k : Nat) : Int) : Int) < (((l.length : Nat) : Int) : Int)) := by simpa using h55
        refine WC.exit (WE.thenExit (WE.thenExit (WE.blockIs rfl (WE.next (WC.seq ?_)))))
        have hkl2 : x.k = l.length := by omega
        rw [hkl2, bR_nil] at hpx
        have hD0 := hpx.eq_nil
        have hT9 := ho54
        rw [hD0] at hT9
        obtain ⟨Z09, hF09⟩ := TwoIx.x hT9
        refine WC.opt [(true, .val (.pointer (some ⟨gq1, 0, none⟩))), (true, .val (.int .i64 (((List.length ([] : List TI) : Nat) : Int)))), (true, .val (.bool true)), (true, .val (.bool true)), ((true && true), .val (.pointer (some ⟨gq1, 0, none⟩))), ((true && true), .val (.agg #[.int .i64 ((-1)), .slice none 0 0])), ((true && true), .mem (fun v w => Told0 w ([] : List Int) v) (fun v w w' hb h => h.below hb)), ((true && true), .val (.int .i64 ((((List.length ([] : List Int)) : Nat) : Int)))), ((true && true), .val (.bool true)), (true, .val (.bool true)), (true, .val (.bool true)), ((true && true), .val (.bool true)), (true, .val (.bool true)), (true, .val (.bool true))] [(0, .slice a l.length c), (1, .slice ia ids.length ic), (2, .agg #[.int .i64 t.f, .slice ta t.args.length tc]), (3, .int .i64 (((r : Nat) : Int))), (6, .pointer (some ⟨g2, 0, none⟩)), (9, .pointer (some ⟨gq1, 0, none⟩)), (10, .pointer (some ⟨gq2, 0, none⟩)), (11, .int .i64 (((k : Nat) : Int))), (13, .int .i64 (((x.k : Nat) : Int))), (29, .bool ((((decide ((60 : Int) < (((l.length : Nat) : Int) : Int))) || ((((l.length : Nat) : Int) : Int) == (0 : Int))) || (decide ((((ids.length : Nat) : Int) : Int) < (((l.length : Nat) : Int) : Int)))))), (46, .bool ((decide ((((k : Nat) : Int) : Int) < (((l.length : Nat) : Int) : Int))))), (111, .bool ((((!true) || (!true)) || false))), (115, .bool ((decide ((((x.k : Nat) : Int) : Int) < (((l.length : Nat) : Int) : Int)))))] ⟨rfl, rfl, rfl, rfl, rfl, rfl, rfl, rfl, rfl, rfl, rfl, rfl, rfl, trivial⟩ (by kernel_rfl) (by kernel_rfl) (by kernel_rfl) ?_ ?_
        ·refine ⟨⟨true, .none rfl, fun h w => optUndef h, fun zβ za zw zc => ?_⟩, ?_⟩
         ·exact wp_move rfl (zc.kn.ev rfl) ⟨_, rfl, Below.refl _ _, optDef zβ rfl⟩
         refine ⟨⟨true, .none rfl, fun h w => optUndef h, fun zβ za zw zc => ?_⟩, ?_⟩
         ·exact wp_call (by kernel_rfl) rfl (hv1 ((evt za 136).trans (optVal (zc.dep 0 136 (by kernel_rfl)) rfl rfl))) (flen_any _ _ ([]) _ (FpIs.below hF09 zc.below)) (fun v w' h => ⟨v, rfl, h.2, optDef zβ h.1⟩)
         refine ⟨⟨true, .none rfl, fun h w => optUndef h, fun zβ za zw zc => ?_⟩, ?_⟩
         ·exact eql_3 rfl ((evt za 137).trans (optVal (zc.dep 1 137 (by kernel_rfl)) rfl rfl)) (zc.kn.ev rfl) (by rw [show ((((List.length ([] : List TI) : Nat) : Int) : Int) == (0 : Int)) = true from rfl]; exact ⟨_, rfl, Below.refl _ _, optDef zβ rfl⟩)
         refine ⟨⟨true, .none rfl, fun h w => optUndef h, fun zβ za zw zc => ?_⟩, ?_⟩
         ·exact wp_move rfl ((evt za 138).trans (optVal (zc.dep 2 138 (by kernel_rfl)) rfl rfl)) ⟨_, rfl, Below.refl _ _, optDef zβ rfl⟩
         refine ⟨⟨_, .yes (d := true) rfl (fun v w h => h), fun h w => optUndef h, fun zβ za zw zc => ?_⟩, ?_⟩
         ·exact wp_move rfl (zc.kn.ev rfl) ⟨_, rfl, Below.refl _ _, optDef zβ rfl⟩
         refine ⟨⟨_, .yes (d := true) rfl (fun v w h => h), fun h w => optUndef h, fun zβ za zw zc => ?_⟩, ?_⟩
         ·exact wp_call (by kernel_rfl) rfl (hv2 (zc.kn.ev rfl) (zc.kn.ev rfl)) (lof_any _ _ _ _ _) (fun v w' h => ⟨v, rfl, h.2, optDef zβ h.1⟩)
         refine ⟨⟨_, .yes (d := true) rfl (fun v w h => h), fun h w => optUndef h, fun zβ za zw zc => ?_⟩, ?_⟩
         ·exact wp_call (by kernel_rfl) rfl (hv2 ((evt za 140).trans (optVal (zc.dep 4 140 (by kernel_rfl)) rfl rfl)) ((evt za 141).trans (optVal (zc.dep 5 141 (by kernel_rfl)) rfl rfl))) (fUni_any _ _ [] _ (.mk (-1) []) _ (by decide) (isT_lf (by decide)) (FpIs.below hF09 zc.below)) (fun v w' h => ⟨v, rfl, h.2, optDef zβ (told0 h.1 rfl)⟩)
         refine ⟨⟨_, .yes (d := true) rfl (fun v w h => h), fun h w => optUndef h, fun zβ za zw zc => ?_⟩, ?_⟩
         ·obtain ⟨a9, c9, e9, _⟩ := (optMem (zc.dep 6 142 (by kernel_rfl)) rfl rfl)
          exact len_31 rfl ((evt za 142).trans e9) ⟨_, rfl, Below.refl _ _, optDef zβ rfl⟩
         refine ⟨⟨_, .yes (d := true) rfl (fun v w h => h), fun h w => optUndef h, fun zβ za zw zc => ?_⟩, ?_⟩
         ·exact eql_3 rfl ((evt za 143).trans (optVal (zc.dep 7 143 (by kernel_rfl)) rfl rfl)) (zc.kn.ev rfl) (by rw [show (((((List.length ([] : List Int)) : Nat) : Int) : Int) == (0 : Int)) = true from rfl]; exact ⟨_, rfl, Below.refl _ _, optDef zβ rfl⟩)
         refine ⟨⟨true, .none rfl, fun h w => optUndef h, fun zβ za zw zc => ?_⟩, ?_⟩
         ·exact wp_pickT rfl ((evt za 139).trans (optVal (zc.dep 3 139 (by kernel_rfl)) rfl rfl)) ((evt za 144).trans (optVal (zc.dep 8 144 (by kernel_rfl)) rfl rfl)) ⟨_, rfl, Below.refl _ _, optDef zβ rfl⟩
         refine ⟨⟨true, .none rfl, fun h w => optUndef h, fun zβ za zw zc => ?_⟩, ?_⟩
         ·exact wp_move rfl ((evt za 145).trans (optVal (zc.dep 9 145 (by kernel_rfl)) rfl rfl)) ⟨_, rfl, Below.refl _ _, optDef zβ rfl⟩
         refine ⟨⟨_, .yes (d := true) rfl (fun v w h => h), fun h w => optUndef h, fun zβ za zw zc => ?_⟩, ?_⟩
         ·exact wp_call (by kernel_rfl) rfl (hv0) (wakes_any _) (fun v w' h => ⟨v, rfl, h.2, optDef zβ h.1⟩)
         refine ⟨⟨true, .none rfl, fun h w => optUndef h, fun zβ za zw zc => ?_⟩, ?_⟩
         ·exact wp_pickT rfl ((evt za 146).trans (optVal (zc.dep 10 146 (by kernel_rfl)) rfl rfl)) ((evt za 147).trans (optVal (zc.dep 11 147 (by kernel_rfl)) rfl rfl)) ⟨_, rfl, Below.refl _ _, optDef zβ rfl⟩
         refine ⟨⟨true, .none rfl, fun h w => optUndef h, fun zβ za zw zc => ?_⟩, ?_⟩
         ·exact wp_assign rfl ((evt za 148).trans (optVal (zc.dep 12 148 (by kernel_rfl)) rfl rfl)) ⟨_, rfl, Below.refl _ _, optDef zβ rfl⟩
         exact trivial
        ·intro za w72 zh hb73 zu
         have zh := zh.cons (d := 8) (v := .bool true) (optVal (zu 13 8 (by kernel_rfl)) rfl rfl)
         clear zu
         refine WE.go zh ?_
         refine WE.next (WC.ret (WE.ret1 rfl rfl ?_))
         have hb74 : Below w.heap.size w w72 := (bstep hb52 hb73)
         exact ⟨_, rfl, rfl, hb74⟩
end Go.Proofs.Ytibncmnmjhimeaa

/- Rows of things of several cells, how they lie in memory. -/
namespace Go.Proofs.Ytibncmnmjhimeaa
open Go.RowKit
/-- The row at 'a' holds the things 'l', 'k' cells each. -/
def IsRow {α : Type} (w : World) (k : Nat) (R : World → α → List Value → Prop) (l : List α) (a : Option Addr) : Prop :=
  ∀ i (hi : i < l.length), ∃ (b o : Nat) (cs : List Value), a = some ⟨b, o, none⟩ ∧ cs.length = k ∧ (∀ j, j < k → w.cell? ⟨b, o + i * k + j, none⟩ = cs[j]?) ∧ R w l[i] cs
section
variable {H : Type} {enc : TypeId × Value → H} {P : Program} {w : World} {base : Nat} {spare : Nat → Bool} {held : Bool}
/-- A slice opened: its things, one by one. -/
theorem open_row {α : Type} [Inhabited α] {t e : TypeId} {k : Nat} {fuel : Nat} {cs : List Value} {x : DataW H × List MemPlace} (ht : P.underlying t = some (.slice e)) (hC : P.cellsOf e = k) (hk : 0 < k)
    (h : DataW.trod enc P w base spare held fuel t cs = some x) {R : World → α → List Value → Prop} {S : α → DataW H → Prop}
    (hel : ∀ n cs x, DataW.trod enc P w base spare held n e cs = some x → ∃ a : α, R w a cs ∧ S a x.1) :
    ∃ (l : List α) (a : Option Addr) (cap : Nat) (ds sp : List (DataW H)), cs = [.slice a l.length cap] ∧ l.length ≤ cap ∧ cap ≤ maxLen ∧ IsRow w k R l a ∧ ds.length = l.length ∧ (x.1 = .nil ∧ l = [] ∧ ds = [] ∨ x.1 = .slice ds sp) ∧
      ∀ i (hi : i < l.length) (hd : i < ds.length), S l[i] ds[i] := by
  rcases DataW.trod_slice ht h with ⟨rfl, rfl⟩ | ⟨a, len, cap, elems, rest, m, rfl, rfl, rfl, hb, hlc, hcm, hlen, hat, _, _⟩
  · exact ⟨[], none, 0, [], [], rfl, Nat.le_refl _, Nat.zero_le _, fun i hi => absurd hi (by simp), rfl, .inl ⟨rfl, rfl, rfl⟩, fun i hi => absurd hi (by simp)⟩
  · have hspot : 0 < len → ∃ b o, a = ⟨b, o, none⟩ := by
      intro h0
      have hk := hat 0 h0
      rw [hC, List.getElem?_eq_getElem (by omega)] at hk
      obtain ⟨cs', h1, _⟩ := Option.bind_eq_some_iff.1 hk
      obtain ⟨_, hl', hcell⟩ := World.cells?_some h1
      have c0 := hcell 0 (by omega)
      rw [List.getElem?_eq_getElem (by omega)] at c0
      have := World.cell?_spot c0
      obtain ⟨b, o, spot⟩ := a
      exact ⟨b, o, by simpa [Addr.add] using this⟩
    have key : ∀ i, i < len → ∃ t : α, (∃ (b o : Nat) (cs : List Value), some a = some ⟨b, o, none⟩ ∧ cs.length = k ∧ (∀ j, j < k → w.cell? ⟨b, o + i * k + j, none⟩ = cs[j]?) ∧ R w t cs) ∧
        ∀ (hd : i < elems.length), S t elems[i].1 := by
      intro i hi
      have hk := hat i hi
      rw [hC, List.getElem?_eq_getElem (by omega)] at hk
      obtain ⟨cs', h1, h2⟩ := Option.bind_eq_some_iff.1 hk
      obtain ⟨t, hR, hS⟩ := hel _ _ _ h2
      obtain ⟨_, hl', hcell⟩ := World.cells?_some h1
      obtain ⟨b, o, rfl⟩ := hspot (by omega)
      refine ⟨t, ⟨b, o, cs', rfl, hl', fun j hj => ?_, hR⟩, fun _ => hS⟩
      have := hcell j hj
      rwa [add_plain2, add_plain2] at this
    obtain ⟨F, hF⟩ := Go.Deep.choose_lt key
    have hLL : ((List.range len).map F).length = len := by simp
    refine ⟨(List.range len).map F, some a, cap, elems.map (·.1), rest.map (·.1), by rw [hLL], by rw [hLL]; exact hlc, hcm, fun i hi => ?_, by rw [hLL]; simpa using hlen, .inr rfl, fun i hi hd => ?_⟩
    · have := (hF i (by simpa using hi)).1
      simpa using this
    · have := (hF i (by simpa using hi)).2 (by simpa using hd)
      simpa using this
end
end Go.Proofs.Ytibncmnmjhimeaa

/- What a law's statement asks behind its call, where the call answers true and leaves all that was there as it was. -/
namespace Go.Proofs.Ytibncmnmjhimeaa
open Go.ChangeShapes Go.WideShapes Go.ChangeAt Go.RowKit
section
variable {H : Type} {enc : TypeId × Value → H} {P : Program}
theorem trodAll_below (hl : laidOutB P = true) {W W' : World} (hb : Below W.heap.size W W') : ∀ {ts : List TypeId} {vs : List Value} {ds : List (DataW H)} {ps : List MemPlace},
    (∀ t ∈ ts, P.readableRec t = true ∧ t < P.types.size) → (∀ x ∈ ps, x.block < W.heap.size) → DataW.TrodAll enc P W 0 (fun _ => true) true ts vs ds ps →
    DataW.TrodAll enc P W' 0 (fun b => decide (b < W.heap.size)) true ts vs ds ps
  | [], [], [], _, _, _, h => h
  | t :: ts, v :: vs, d :: ds, ps, hr, hlt, ⟨p, q, h1, h2, e⟩ => by
    subst e
    exact ⟨p, q, Below.trod hl (hr t (by simp)).1 (hr t (by simp)).2 h1 hb (fun x hx => hlt x (by simp [hx])), trodAll_below hl hb (fun t ht => hr t (by simp [ht])) (fun x hx => hlt x (by simp [hx])) h2, rfl⟩
  | [], _ :: _, _, _, _, _, h => h.elim
  | [], [], _ :: _, _, _, _, h => h.elim
  | _ :: _, [], _, _, _, _, h => h.elim
  | _ :: _, _ :: _, [], _, _, _, h => h.elim
theorem law_post {f : Func} {s : ChangeSpec} {W W' : World} {args : Array Value} {ds gs : List (DataW H)} {before : List MemPlace} {tb : TypeId} (hl : laidOutB P = true) (hr : ∀ t ∈ f.params.toList, P.readableRec t = true ∧ t < P.types.size)
    (htb : P.underlying tb = some .bool) (hrt : f.resultTypes = #[tb]) (hv : s.vars = []) (hs : s.fn H ds = { results := [.lit (.bool true)], args := ds })
    (hW : DataW.Whole enc P f.params.toList s.vars false W args.toList ds gs before) (hb : Below W.heap.size W W') : s.post enc P f false true false false W args (.bool true) W' := by
  have hlt : ∀ p ∈ before, p.block < W.heap.size := fun p hp => hW.lt p hp
  have hW0 := hW
  obtain ⟨p, q, hA, hV, hpq, _, _⟩ := hW
  rw [hv] at hV
  obtain ⟨rfl, rfl⟩ := trodVars_none hV
  refine ⟨ds, [], before, [], p, [], hW0, ?_, ?_, ?_, hb.frame _, fun h => by cases h⟩
  · rw [List.append_nil, hs, hrt]
    exact trodAll_cons_mk (shut_bool htb _) trodAll_mk0
  · rw [List.append_nil, hs]
    refine trodAll_below hl hb hr (fun x hx => hlt x ?_) hA
    rw [hpq]; simp [hx]
  · rw [List.append_nil, hv]
    have : (s.fn H ds).vars = [] := by rw [hs]
    rw [this]
    rfl
end
end Go.Proofs.Ytibncmnmjhimeaa

/- Arguments of a law, opened: terms, integers, truth values; rows in general. -/
namespace Go.Proofs.Ytibncmnmjhimeaa
open Go.ChangeShapes Go.WideShapes Go.ChangeAt Go.RowKit
theorem own : ownKnob Try.prog.godebug = none := by kernel_rfl
theorem one_le_bulk {H : Type} (d : DataW H) : 1 ≤ Rows.uptoBulk d := by
  cases d with
  | lit l => cases l <;> simp [Rows.uptoBulk]
  | _ => simp [Rows.uptoBulk]
theorem len_le_bulk {H : Type} (ds : List (DataW H)) : ds.length ≤ Rows.uptoBulkAll ds := by
  induction ds with
  | nil => simp
  | cons d r ih => have := one_le_bulk d; simp only [List.length_cons, Rows.uptoBulkAll]; omega
theorem readable_all {P : Program} {ts : List TypeId} (h : (ts.all fun t => P.readableRec t && Nat.blt t P.types.size) = true) : ∀ t ∈ ts, P.readableRec t = true ∧ t < P.types.size := by
  intro t ht
  have := List.all_eq_true.1 h t ht
  simp only [Bool.and_eq_true, Nat.blt_eq] at this
  exact this
theorem bulk_mem {H : Type} {l : List (DataW H)} (hk : Rows.uptoSmall H l = true) {d : DataW H} (h : d ∈ l) : Rows.uptoBulk d ≤ 1048576 :=
  Nat.le_trans (bulkAll_le h) (of_decide_eq_true hk)
section
variable {H : Type} {enc : TypeId × Value → H} {w : World} {base : Nat} {spare : Nat → Bool} {held : Bool}
set_option maxRecDepth 100000 in
theorem arg_T {r : Reach} {b : Nat} {v : Value} {d : DataW H} {p : List MemPlace} (h : Value.okWide Try.prog w r b 24 v) (ht : DataW.Trod enc Try.prog w base spare held 24 v d p) :
    ∃ t : T, IsT w t v ∧ t.size ≤ Rows.uptoBulk d := by
  obtain ⟨cs, rfl, _⟩ := okWide_struct Try.underlying24 h
  obtain ⟨fuel, hf⟩ := ht
  obtain ⟨t, u, v, e, h1, h2⟩ := open_T _ _ _ hf
  have e' : cs = #[u, v] := by
    apply Array.toList_inj.1
    exact e
  subst e'
  exact ⟨t, h1, h2⟩
set_option maxRecDepth 100000 in
theorem arg_int {r : Reach} {b : Nat} {v : Value} {d : DataW H} {p : List MemPlace} (h : Value.okWide Try.prog w r b 3 v) (ht : DataW.Trod enc Try.prog w base spare held 3 v d p) :
    ∃ n : Int, v = .int .i64 n ∧ I64 n := by
  obtain ⟨n, rfl⟩ := okWide_int Try.underlying3 h
  obtain ⟨fuel, hf⟩ := ht
  obtain ⟨m, e, _, wf⟩ := DataW.trod_int Try.underlying3 hf
  have e' : (.int .i64 n : Value) = .int .i64 m := by simpa [Value.cells] using e
  simp only [Value.int.injEq, true_and] at e'
  exact ⟨n, rfl, by rw [e']; exact i64_wf wf⟩
/-- A row that was opened, as the rows of elements have it. -/
theorem inRow_of {α : Type} {E : Elt α} {R : World → α → List Value → Prop} {l : List α} {a : Option Addr} (hR : ∀ x cs, R w x cs → E.In (fun _ => True) w x cs) (h : IsRow w E.k R l a) : InRow E (fun _ => True) w l a := fun i hi => by
  obtain ⟨b, o, cs, h1, _, h3, h4⟩ := h i hi
  exact ⟨b, o, cs, h1, trivial, hR _ _ h4, h3⟩
end
end Go.Proofs.Ytibncmnmjhimeaa

namespace Go.Proofs.Ytibncmnmjhimeaa
open Go.ChangeShapes Go.WideShapes Go.ChangeAt Go.RowKit
set_option linter.unnecessarySimpa false
local instance inhT_ArgsI : Inhabited T := ⟨.mk 0 []⟩
section
variable {H : Type} {enc : TypeId × Value → H} {w : World} {base : Nat} {spare : Nat → Bool} {held : Bool}
set_option maxRecDepth 100000 in
theorem open_Ts (fuel : Nat) (cs : List Value) (x : DataW H × List MemPlace) (h : DataW.trod enc Try.prog w base spare held fuel 22 cs = some x) :
    ∃ (l : List T) (a : Option Addr) (c : Nat), cs = [.slice a l.length c] ∧ l.length ≤ c ∧ c ≤ maxLen ∧ IsTs w l a 0 ∧ T.sizeL l ≤ Rows.uptoBulk x.1 := by
  obtain ⟨l, a, c, ds, sp, rfl, h1, h2, h3, h4, h5, h6⟩ := open_row Try.underlying22 (k := 2) (by kernel_rfl) (by omega) h (R := fun w t cs => ∃ u v, cs = [u, v] ∧ IsT w t (.agg #[u, v])) (S := fun t d => t.size ≤ Rows.uptoBulk d) (fun n cs x hx => by
    obtain ⟨t, u, v, h1, h2, h3⟩ := open_T _ _ _ hx
    exact ⟨t, ⟨u, v, h1, h2⟩, h3⟩)
  refine ⟨l, a, c, rfl, h1, h2, IsTs.of_at fun k hk => ?_, ?_⟩
  · obtain ⟨b, o, cs, e1, _, e3, u, v, rfl, e4⟩ := h3 k hk
    have c0 := e3 0 (by omega)
    have c1 := e3 1 (by omega)
    simp only [List.getElem?_cons_zero, List.getElem?_cons_succ, Nat.add_zero] at c0 c1
    exact ⟨b, o, u, v, e1, (by first | exact c0 | simpa using c0), (by first | exact c1 | simpa using c1), e4⟩
  · have := sizeL_le_bulk h4.symm h6
    rcases h5 with ⟨_, rfl, _⟩ | e
    · simp [T.sizeL]
    · rw [e]
      simp only [Rows.uptoBulk]
      omega
set_option maxRecDepth 100000 in
theorem arg_Ts {r : Reach} {b : Nat} {v : Value} {d : DataW H} {p : List MemPlace} (h : Value.okWide Try.prog w r b 22 v) (ht : DataW.Trod enc Try.prog w base spare held 22 v d p) :
    ∃ (l : List T) (a : Option Addr) (c : Nat), v = .slice a l.length c ∧ l.length ≤ c ∧ c ≤ maxLen ∧ IsTs w l a 0 ∧ T.sizeL l ≤ Rows.uptoBulk d := by
  obtain ⟨a, n, c, rfl⟩ := okWide_slice Try.underlying22 h
  obtain ⟨fuel, hf⟩ := ht
  obtain ⟨l, a', c', e, h1, h2, h3, h4⟩ := open_Ts _ _ _ hf
  have e' : Value.slice a n c = .slice a' l.length c' := by simpa [Value.cells] using e
  exact ⟨l, a', c', e', h1, h2, h3, h4⟩
set_option maxRecDepth 100000 in
theorem arg_Is {r : Reach} {b : Nat} {v : Value} {d : DataW H} {p : List MemPlace} (h : Value.okWide Try.prog w r b 31 v) (ht : DataW.Trod enc Try.prog w base spare held 31 v d p) (hk : Rows.uptoBulk d ≤ 1048576) :
    ∃ (l : List Int) (a : Option Addr) (c : Nat), v = .slice a l.length c ∧ InRow eltI (fun _ => True) w l a ∧ l.length ≤ 1048576 := by
  obtain ⟨a, n, c, rfl⟩ := okWide_slice Try.underlying31 h
  obtain ⟨fuel, hf⟩ := ht
  obtain ⟨l, a', c', ds, sp, e, h1, h2, h3, h4, h5, h6⟩ := open_row Try.underlying31 (k := 1) (by kernel_rfl) (by omega) hf (R := fun _ x cs => cs = [Value.int .i64 x]) (S := fun _ _ => True) (fun n cs x hx => by
    obtain ⟨m, e0, _⟩ := DataW.trod_int Try.underlying3 hx
    exact ⟨m, e0, trivial⟩)
  have e' : Value.slice a n c = .slice a' l.length c' := by simpa [Value.cells] using e
  have hlen : l.length ≤ 1048576 := by
    rcases h5 with ⟨_, rfl, _⟩ | e
    · simp
    · have := len_le_bulk ds
      have e2 : d = .slice ds sp := e
      rw [e2] at hk; simp only [Rows.uptoBulk] at hk; omega
  exact ⟨l, a', c', e', inRow_of (E := eltI) (fun x cs q => q) h3, hlen⟩
end
end Go.Proofs.Ytibncmnmjhimeaa
