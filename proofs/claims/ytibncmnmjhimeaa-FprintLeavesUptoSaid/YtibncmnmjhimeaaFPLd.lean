/- What a part becomes is measured: the document's program. -/
import Derived.Test.YtibncmnmjhimeaaFPLb
import Derived.Test.YtibncmnmjhimeaaFPLc
import Derived.Test.YtibncmnmjhimeaaFPLa

/- Variables without arguments: the program and the document; literals that are atoms. -/
namespace Go.Proofs.Ytibncmnmjhimeaa
open Go.RowKit Go
set_option linter.unusedVariables false
set_option linter.unusedSimpArgs false
set_option maxRecDepth 100000 in
theorem rplain_any : ∀ (t : T) (w : World) (v : Value), t.size ≤ 4294967296 → IsT w t v → Calls Try.prog 46 #[v] w (Ret fun v' w' => v' = .bool t.plain ∧ Below w.heap.size w w') := by
 refine T.ind (fun f l ih => ?_)
 intro w v hz hv
 have hlen := len_le_sizeL l
 have hz' := hz
 simp only [T.size] at hz'
 obtain ⟨hf, a, c, rfl, hc, hm, hl⟩ := hv
 refine Calls.walk (l := [.agg #[.int .i64 f, .slice a l.length c]]) Try.func46 rfl (by kernel_rfl) ?_
 refine WC.sub (K' := [(0, .agg #[.int .i64 f, .slice a l.length c])]) ⟨rfl, trivial⟩ ?_
 refine WC.seq (WC.region ?_)
 refine WL.step (post := NewBlk w 24 #[.int .i64 f, .slice a l.length c]) rfl rfl rfl (fun za zC zh zk => box_24 rfl (zh.ev rfl) (zk _ _ (newBlk _ _ _))) ?_
 rintro _ w1 ⟨g2, rfl, hg3, hB4, hb5, hz6⟩
 have hl7 : w.heap.size ≤ g2 := by omega
 refine WL.asg rfl rfl rfl rfl rfl (WL.nil (WE.next (WC.seq (WC.seq ?_))))
 refine WC.opt [(true, .val (.pointer (some ⟨g2, 0, none⟩))), (true, .val (.int .i64 f)), (true, .val (.bool ((decide ((f : Int) < (0 : Int)))))), (true, .val (.bool ((decide ((f : Int) < (0 : Int)))))), ((true && (decide ((f : Int) < (0 : Int)))), .val (.pointer (some ⟨g2, 1, none⟩))), ((true && (decide ((f : Int) < (0 : Int)))), .val (.slice a l.length c)), ((true && (decide ((f : Int) < (0 : Int)))), .val (.int .i64 (((l.length : Nat) : Int)))), ((true && (decide ((f : Int) < (0 : Int)))), .val (.bool ((decide ((0 : Int) < (((l.length : Nat) : Int) : Int)))))), (true, .val (.bool (((decide ((f : Int) < (0 : Int))) && (decide ((0 : Int) < (((l.length : Nat) : Int) : Int)))))))] [(0, .agg #[.int .i64 f, .slice a l.length c]), (1, .pointer (some ⟨g2, 0, none⟩)), (2, .bool false)] ⟨rfl, rfl, rfl, trivial⟩ (by kernel_rfl) (by kernel_rfl) (by kernel_rfl) ?_ ?_
 ·refine ⟨⟨true, .none rfl, fun h w => optUndef h, fun zβ za zw zc => ?_⟩, ?_⟩
  ·exact fld_24_0 rfl (zc.kn.ev rfl) ⟨_, rfl, Below.refl _ _, optDef zβ rfl⟩
  refine ⟨⟨true, .none rfl, fun h w => optUndef h, fun zβ za zw zc => ?_⟩, ?_⟩
  ·exact ld_3 rfl ((evt za 4).trans (optVal (zc.dep 0 4 (by kernel_rfl)) rfl rfl)) (bkeeps zc.below _ _ ((hB4.cell 0).trans rfl)) ⟨_, rfl, Below.refl _ _, optDef zβ rfl⟩
  refine ⟨⟨true, .none rfl, fun h w => optUndef h, fun zβ za zw zc => ?_⟩, ?_⟩
  ·exact lss_3 rfl ((evt za 5).trans (optVal (zc.dep 1 5 (by kernel_rfl)) rfl rfl)) (zc.kn.ev rfl) ⟨_, rfl, Below.refl _ _, optDef zβ rfl⟩
  refine ⟨⟨true, .none rfl, fun h w => optUndef h, fun zβ za zw zc => ?_⟩, ?_⟩
  ·exact wp_move rfl ((evt za 6).trans (optVal (zc.dep 2 6 (by kernel_rfl)) rfl rfl)) ⟨_, rfl, Below.refl _ _, optDef zβ rfl⟩
  refine ⟨⟨_, .yes (d := true) rfl (fun v w h => h), fun h w => optUndef h, fun zβ za zw zc => ?_⟩, ?_⟩
  ·exact fld_24_1 rfl (zc.kn.ev rfl) ⟨_, rfl, Below.refl _ _, optDef zβ rfl⟩
  refine ⟨⟨_, .yes (d := true) rfl (fun v w h => h), fun h w => optUndef h, fun zβ za zw zc => ?_⟩, ?_⟩
  ·exact ld_22 rfl ((evt za 8).trans (optVal (zc.dep 4 8 (by kernel_rfl)) rfl zβ)) (bkeeps zc.below _ _ ((hB4.cell 1).trans rfl)) ⟨_, rfl, Below.refl _ _, optDef zβ rfl⟩
  refine ⟨⟨_, .yes (d := true) rfl (fun v w h => h), fun h w => optUndef h, fun zβ za zw zc => ?_⟩, ?_⟩
  ·exact len_22 rfl ((evt za 9).trans (optVal (zc.dep 5 9 (by kernel_rfl)) rfl zβ)) ⟨_, rfl, Below.refl _ _, optDef zβ rfl⟩
  refine ⟨⟨_, .yes (d := true) rfl (fun v w h => h), fun h w => optUndef h, fun zβ za zw zc => ?_⟩, ?_⟩
  ·exact gtr_3 rfl ((evt za 10).trans (optVal (zc.dep 6 10 (by kernel_rfl)) rfl zβ)) (zc.kn.ev rfl) ⟨_, rfl, Below.refl _ _, optDef zβ rfl⟩
  refine ⟨⟨true, .none rfl, fun h w => optUndef h, fun zβ za zw zc => ?_⟩, ?_⟩
  ·exact wp_and rfl ((evt za 7).trans (optVal (zc.dep 3 7 (by kernel_rfl)) rfl rfl)) (fun hp => ((evt za 11).trans (optVal (zc.dep 7 11 (by kernel_rfl)) rfl (bMk zβ hp)))) ⟨_, rfl, Below.refl _ _, optDef zβ rfl⟩
  exact trivial
 ·intro za w8 zh hb9 zu
  have zh := zh.cons (d := 12) (v := .bool (((decide ((f : Int) < (0 : Int))) && (decide ((0 : Int) < (((l.length : Nat) : Int) : Int)))))) (optVal (zu 8 12 (by kernel_rfl)) rfl rfl)
  clear zu
  refine WE.go zh ?_
  refine WE.next ?_
  refine WC.cond rfl (fun h10 => ?_) (fun h10 => ?_)
  ·have h10 : ((f : Int) < (0 : Int)) ∧ ((0 : Int) < (((l.length : Nat) : Int) : Int)) := by simpa using h10
   refine WC.seq (WC.region (WL.asg rfl rfl rfl rfl rfl (WL.nil (WE.next (WC.ret (WE.thenRet (WE.ret1 rfl rfl ?_)))))))
   have hb11 : Below w.heap.size w w8 := (bstep hb5 hb9)
   have z := h10
   exact ⟨_, rfl, congrArg Value.bool (Eq.symm (plain_var (by omega) (by omega))), hb11⟩
  ·have h10 : ¬ (((f : Int) < (0 : Int)) ∧ ((0 : Int) < (((l.length : Nat) : Int) : Int))) := by simpa using h10
   refine WC.skip (WE.next (WC.seq (WC.seq (WC.region (WL.asg rfl rfl rfl rfl rfl (WL.nil (WE.next (WC.block ?_))))))))
   refine WC.loop (X := Nat) (fun k => l.length - k) (fun k => [(0, .agg #[.int .i64 f, .slice a l.length c]), (1, .pointer (some ⟨g2, 0, none⟩)), (3, .int .i64 (((k : Nat) : Int))), (12, .bool (((decide ((f : Int) < (0 : Int))) && (decide ((0 : Int) < (((l.length : Nat) : Int) : Int))))))]) (fun k w12 => k ≤ l.length ∧ (∀ i, i < k → (tget l i).plain = true) ∧ Below w.heap.size w w12 ∧ Blk w12 g2 24 #[.int .i64 f, .slice a l.length c]) 0 ⟨rfl, rfl, rfl, rfl, trivial⟩ ?_ ?_
   ·have hb13 : Below w.heap.size w w8 := (bstep hb5 hb9)
    have hB14 := hB4.below hb9
    exact ⟨Nat.zero_le _, fun i h => absurd h (Nat.not_lt_zero i), hb13, hB14⟩
   ·rintro k w12 ⟨hk, hE, hb15, hB16⟩
    refine WC.seq (WC.seq (WC.region (WL.mv rfl rfl rfl rfl rfl ?_)))
    refine WL.val _ rfl rfl rfl (fun za zC zh zk => fld_24_1 rfl (zh.ev rfl) zk) ?_
    refine WL.val _ rfl rfl rfl (fun za zC zh zk => ld_22 rfl (zh.ev rfl) ((hB16.cell 1).trans rfl) zk) ?_
    refine WL.val (.int .i64 (((l.length : Nat) : Int))) rfl rfl rfl (fun za zC zh zk => len_22 rfl (zh.ev rfl) zk) ?_
    refine WL.val (.bool ((decide ((((k : Nat) : Int) : Int) < (((l.length : Nat) : Int) : Int))))) rfl rfl rfl (fun za zC zh zk => lss_3 rfl (zh.ev rfl) (zh.ev rfl) zk) ?_
    refine WL.nil (WE.next ?_)
    refine WC.cond rfl (fun h17 => ?_) (fun h17 => ?_)
    ·have h17 : (((k : Nat) : Int) : Int) < (((l.length : Nat) : Int) : Int) := by simpa using h17
     refine WC.skip (WE.next (WC.seq (WC.block (WC.seq (WC.region ?_)))))
     refine WL.val _ rfl rfl rfl (fun za zC zh zk => fld_24_1 rfl (zh.ev rfl) zk) ?_
     refine WL.val _ rfl rfl rfl (fun za zC zh zk => ld_22 rfl (zh.ev rfl) ((hB16.cell 1).trans rfl) zk) ?_
     refine WL.mv rfl rfl rfl rfl rfl ?_
     obtain ⟨b18, o19, A20, C21, ha22, hc23⟩ := IsTs.open hl
     refine WL.val _ rfl rfl rfl (fun za zC zh zk => ix_22 (k := k) rfl (zh.ev rfl) (ha22 k (by first | omega | (simp; omega))) (zh.ev rfl) (by first | omega | (simp; omega)) zk) ?_
     refine WL.val _ rfl rfl rfl (fun za zC zh zk => ld_24 rfl (zh.ev rfl) (bkeeps hb15 _ _ (hc23 k (by first | omega | (simp; omega))).1) (bkeeps hb15 _ _ (hc23 k (by first | omega | (simp; omega))).2.1) zk) ?_
     refine WL.call rfl rfl rfl (fun za zh zC => wp_call (by kernel_rfl) rfl (hv1 (zh.ev rfl))) (ih _ (tget_mem (by omega)) _ _ (size_at (by omega) hz) (IsT.below hb15 (hc23 k (by first | omega | (simp; omega))).2.2)) ?_
     rintro _ w25 ⟨rfl, hq24⟩
     refine WL.val (.bool ((!(tget l k).plain))) rfl rfl rfl (fun za zC zh zk => wp_not rfl (zh.ev rfl) zk) ?_
     refine WL.nil (WE.next ?_)
     refine WC.cond rfl (fun h26 => ?_) (fun h26 => ?_)
     ·have h26 : ¬ ((tget l k).plain = true) := by simpa using h26
      refine WC.seq (WC.region (WL.asg rfl rfl rfl rfl rfl (WL.nil (WE.next (WC.ret (WE.blockRet (WE.thenRet (WE.thenRet (WE.blockRet (WE.thenRet (WE.ret1 rfl rfl ?_)))))))))))
      have hb27 : Below w.heap.size w w25 := (bstep hb15 hq24)
      exact ⟨_, rfl, congrArg Value.bool (Eq.symm (plain_no (k := k) (by omega) (by simpa using h26))), hb27⟩
     ·have h26 : ¬ (¬ ((tget l k).plain = true)) := by simpa using h26
      refine WC.skip (WE.blockNormal (WE.next (WC.region (WL.mv rfl rfl rfl rfl rfl ?_))))
      refine WL.val (.int .i64 ((((k + 1) : Nat) : Int))) rfl rfl rfl (fun za zC zh zk => addb_3 rfl (zh.ev rfl) (zh.ev rfl) (wrap_eq (by omega) (by omega) (by omega)) zk) ?_
      refine WL.asg rfl rfl rfl rfl rfl (WL.nil ?_)
      refine WE.round (k + 1) ⟨rfl, rfl, rfl, rfl, trivial⟩ ?_ ?_
      ·have hb28 : Below w.heap.size w w25 := (bstep hb15 hq24)
       have hB29 := hB16.below hq24
       exact ⟨by omega, fun i hi => by rcases Nat.lt_or_ge i k with q | q; exact hE i q; (obtain rfl : i = k := by omega); simpa using h26, hb28, hB29⟩
      ·omega
    ·have h17 : ¬ ((((k : Nat) : Int) : Int) < (((l.length : Nat) : Int) : Int)) := by simpa using h17
     refine WC.exit (WE.thenExit (WE.thenExit (WE.blockIs rfl (WE.next (WC.seq (WC.region (WL.asg rfl rfl rfl rfl rfl (WL.nil (WE.next (WC.ret (WE.ret1 rfl rfl ?_)))))))))))
     exact ⟨_, rfl, congrArg Value.bool (Eq.symm (plain_yes (by omega) (fun i hi => hE i (by omega)))), hb15⟩
end Go.Proofs.Ytibncmnmjhimeaa

/- The matcher: made, marked, taken back. -/
namespace Go.Proofs.Ytibncmnmjhimeaa
open Go.RowKit Go
set_option linter.unusedVariables false
set_option linter.unusedSimpArgs false
end Go.Proofs.Ytibncmnmjhimeaa

/- Terms compared, as a plain function. -/
namespace Go.Proofs.Ytibncmnmjhimeaa
namespace T
mutual
def same : T → T → Bool
  | .mk f l, .mk g k => (f == g) && sameL l k
def sameL : List T → List T → Bool
  | [], [] => true
  | a :: r, b :: q => same a b && sameL r q
  | [], _ :: _ => false
  | _ :: _, [] => false
end
mutual
theorem same_iff : ∀ (s t : T), same s t = true ↔ s = t
  | .mk f l, .mk g k => by
    rw [same, Bool.and_eq_true, sameL_iff l k, beq_iff_eq]
    simp
theorem sameL_iff : ∀ (l k : List T), sameL l k = true ↔ l = k
  | [], [] => by simp [sameL]
  | a :: r, b :: q => by rw [sameL, Bool.and_eq_true, same_iff a b, sameL_iff r q]; simp
  | [], _ :: _ => by simp [sameL]
  | _ :: _, [] => by simp [sameL]
end
mutual
def cmp : T → T → Int
  | .mk f l, .mk g k => if f ≠ g then (if f < 0 ∧ g < 0 then (if g < f then -1 else 1) else if f < g then -1 else 1) else cmpL l k
def cmpL : List T → List T → Int
  | [], [] => 0
  | a :: r, b :: q => if cmp a b = 0 then cmpL r q else cmp a b
  | [], _ :: _ => -1
  | _ :: _, [] => 1
end
mutual
theorem cmp_zero : ∀ (s t : T), cmp s t = 0 ↔ s = t
  | .mk f l, .mk g k => by
    rw [cmp]
    have h := cmpL_zero l k
    by_cases hfg : f = g
    · subst hfg; simp [h]
    · rw [if_pos (by simpa using hfg)]
      simp only [T.mk.injEq, hfg, false_and, iff_false]
      (repeat' split) <;> simp
theorem cmpL_zero : ∀ (l k : List T), cmpL l k = 0 ↔ l = k
  | [], [] => by simp [cmpL]
  | a :: r, b :: q => by
    rw [cmpL]
    have h1 := cmp_zero a b
    have h2 := cmpL_zero r q
    by_cases h : cmp a b = 0
    · rw [if_pos h, h2, h1.1 h]; simp
    · rw [if_neg h]
      simp only [h, false_iff, List.cons.injEq, not_and]
      intro e; exact absurd (h1.2 e) h
  | [], _ :: _ => by simp [cmpL]
  | _ :: _, [] => by simp [cmpL]
end
theorem cmp_same (s t : T) : if same s t = true then cmp s t = 0 else ¬ cmp s t = 0 := by
  by_cases h : s = t
  · rw [if_pos ((same_iff s t).2 h)]; exact (cmp_zero s t).2 h
  · rw [if_neg (fun e => h ((same_iff s t).1 e))]; exact fun e => h ((cmp_zero s t).1 e)
theorem cmpL_drop (l q : List T) (k : Nat) (h : k < l.length) (h' : k < q.length) : cmpL (l.drop k) (q.drop k) = if cmp l[k] q[k] = 0 then cmpL (l.drop (k + 1)) (q.drop (k + 1)) else cmp l[k] q[k] := by
  rw [List.drop_eq_getElem_cons h, List.drop_eq_getElem_cons h', cmpL]
theorem cmpL_long (l q : List T) (k : Nat) (h : k < l.length) (h' : q.length ≤ k) : cmpL (l.drop k) (q.drop k) = 1 := by
  rw [List.drop_eq_getElem_cons h, List.drop_eq_nil_of_le h', cmpL]
theorem cmpL_short (l q : List T) (h : l.length < q.length) : cmpL (l.drop l.length) (q.drop l.length) = -1 := by
  rw [List.drop_eq_getElem_cons h, List.drop_eq_nil_of_le (Nat.le_refl _), cmpL]
theorem cmpL_end (l q : List T) (h : q.length ≤ l.length) : cmpL (l.drop l.length) (q.drop l.length) = 0 := by
  rw [List.drop_eq_nil_of_le h, List.drop_eq_nil_of_le (Nat.le_refl _), cmpL]
end T
end Go.Proofs.Ytibncmnmjhimeaa

/- Terms that are the same: the program's way. -/
namespace Go.Proofs.Ytibncmnmjhimeaa
open Go.RowKit Go.Sort Go
end Go.Proofs.Ytibncmnmjhimeaa

/- Matching: what a pattern makes of what is bound, in plain Lean; the walk's state. -/
namespace Go.Proofs.Ytibncmnmjhimeaa
open Go.RowKit Go
set_option linter.unusedVariables false
set_option linter.unusedSimpArgs false
mutual
def T.mt : T → List Bd → T → Option (List Bd)
  | .mk f l, st, t =>
    if f < 0 then (match subFind st (-1 - f) with | none => some (st ++ [⟨-1 - f, t⟩]) | some o => if T.same o t = true then some st else none)
    else if f = t.f ∧ l.length = t.args.length then T.mtL l st t.args else none
def T.mtL : List T → List Bd → List T → Option (List Bd)
  | [], st, _ => some st
  | _ :: _, st, [] => some st
  | p :: ps, st, t :: ts => match T.mt p st t with | none => none | some s => T.mtL ps s ts
end
/-- The walk's state: the steps that are to be done, the row of variables, what is bound, where it lies, the map. -/
structure MX where
  ta : Option Addr
  tc : Nat
  R : List (Addr × Addr)
  L : List (T × T)
  ra : Option Addr
  rc : Nat
  st : List Bd
  ps : List Value
  es : Array MapEntry
  cl : Nat
section
variable {w0 w w' : World} {g mb wt : Nat} {C Ps Ts S : Nat → Prop} {st0 : List Bd} {x : MX}
theorem subFind_none' {st : List Bd} {v : Int} (h : subFind st v = none) : ∀ b ∈ st, b.var ≠ v := by
  intro b hb e
  unfold subFind at h
  rw [Option.map_eq_none_iff, List.find?_eq_none] at h
  exact h b hb (by simpa using e)
end
theorem InTp.at {S : Nat → Prop} {w : World} {t : T} {b o : Nat} (h : InTp S w t (.pointer (some ⟨b, o, none⟩))) : ∃ (a : Option Addr) (c : Nat), w.cell? ⟨b, o, none⟩ = some (.int .i64 t.f) ∧ w.cell? ⟨b, o + 1, none⟩ = some (.slice a t.args.length c) ∧ InT S w t (.agg #[.int .i64 t.f, .slice a t.args.length c]) := by
  obtain ⟨b', o', a, c, e, _, h1, h2, h3⟩ := h
  simp only [Value.pointer.injEq, Option.some.injEq, Addr.mk.injEq, and_true] at e
  obtain ⟨rfl, rfl⟩ := e
  exact ⟨a, c, h1, h2, h3⟩
/-- Whether it matches; what is bound then. -/
def mOk (p t : T) (st : List Bd) : Bool := p.plain && t.plain && (p.mt st t).isSome
def mTo (p t : T) (st : List Bd) : List Bd := if (p.plain && t.plain) = true then (p.mt st t).getD st else st
theorem fin_ok {p t : T} {st s : List Bd} (h1 : p.plain = true) (h2 : t.plain = true) (h : p.mt st t = some s) : mOk p t st = true ∧ mTo p t st = s := by
  unfold mOk mTo; rw [h1, h2, h]; exact ⟨rfl, rfl⟩
theorem fin_no {p t : T} {st : List Bd} (h1 : p.plain = true) (h2 : t.plain = true) (h : p.mt st t = none) : mOk p t st = false ∧ mTo p t st = st := by
  unfold mOk mTo; rw [h1, h2, h]; exact ⟨rfl, rfl⟩
theorem fin_np {p t : T} {st : List Bd} (h : ¬ (p.plain = true ∧ t.plain = true)) : mOk p t st = false ∧ mTo p t st = st := by
  unfold mOk mTo
  have : (p.plain && t.plain) = false := by rw [Bool.eq_false_iff]; intro e; rw [Bool.and_eq_true] at e; exact h e
  rw [this]; exact ⟨rfl, rfl⟩
end Go.Proofs.Ytibncmnmjhimeaa

namespace Go.Proofs.Ytibncmnmjhimeaa
end Go.Proofs.Ytibncmnmjhimeaa

/- A call through an interface; literals under a matcher: plain. -/
namespace Go.Proofs.Ytibncmnmjhimeaa
open Go.RowKit Go
set_option linter.unusedVariables false
set_option linter.unusedSimpArgs false
/-- A matcher that has gone on since 'w0': what it has changed and what its own is lies in 'C' or is new. -/
def Since (w0 : World) (C : Nat → Prop) : Nat → Prop := fun b => C b ∨ w0.heap.size ≤ b
section
variable {w0 w w' : World} {g : Nat} {st st' : List Bd} {C S : Nat → Prop}
end
mutual
theorem T.mt_pre : ∀ (p : T) (st : List Bd) (t : T) (s : List Bd), p.mt st t = some s → ∃ q, s = st ++ q ∧ q.length ≤ p.size
  | .mk f l, st, t, s, h => by
    rw [T.mt] at h
    split at h
    · split at h
      · cases h; exact ⟨_, rfl, by rw [T.size]; simp⟩
      · split at h
        · cases h; exact ⟨[], by simp, Nat.zero_le _⟩
        · cases h
    · split at h
      · obtain ⟨q, e, hq⟩ := T.mtL_pre l st t.args s h
        exact ⟨q, e, by rw [T.size]; omega⟩
      · cases h
theorem T.mtL_pre : ∀ (l : List T) (st : List Bd) (ts : List T) (s : List Bd), T.mtL l st ts = some s → ∃ q, s = st ++ q ∧ q.length ≤ T.sizeL l
  | [], st, _, s, h => by rw [T.mtL] at h; cases h; exact ⟨[], by simp, Nat.zero_le _⟩
  | _ :: _, st, [], s, h => by rw [T.mtL] at h; cases h; exact ⟨[], by simp, Nat.zero_le _⟩
  | p :: ps, st, t :: ts, s, h => by
    rw [T.mtL] at h
    split at h
    · cases h
    · rename_i s1 h1
      obtain ⟨q1, rfl, k1⟩ := T.mt_pre p st t s1 h1
      obtain ⟨q2, e, k2⟩ := T.mtL_pre ps _ ts s h
      exact ⟨q1 ++ q2, by rw [e, List.append_assoc], by rw [T.sizeL, List.length_append]; omega⟩
end
theorem mTo_pre (p t : T) (st : List Bd) : ∃ q, mTo p t st = st ++ q ∧ q.length ≤ p.size := by
  unfold mTo
  split
  · cases h : p.mt st t with
    | none => exact ⟨[], by simp, Nat.zero_le _⟩
    | some s => exact T.mt_pre p st t s h
  · exact ⟨[], by simp, Nat.zero_le _⟩
theorem mTo_take (p t : T) (st : List Bd) : st.length ≤ (mTo p t st).length ∧ (mTo p t st).length ≤ st.length + p.size ∧ (mTo p t st).take st.length = st := by
  obtain ⟨q, e, h⟩ := mTo_pre p t st
  rw [e]; simp [h]
theorem chg_since {w w1 w' : World} {C : Nat → Prop} (hb : Below w.heap.size w w1) (hc : Chg (Since w1 C) w1 w') : Chg C w w' := (Chg.refl C w).trans2 (.ofBelow (S := fun _ => False) hb) (fun _ _ q => q.elim) |>.trans2 hc (fun b hl q => q.elim id (fun q => by have := hb.size; omega))
end Go.Proofs.Ytibncmnmjhimeaa

/- What 'Match' tells: plain. -/
namespace Go.Proofs.Ytibncmnmjhimeaa
open Go.RowKit Go
set_option linter.unusedVariables false
set_option linter.unusedSimpArgs false
theorem subFind_none_iff {st : List Bd} {v : Int} (h : subFind st v = none) : v ∉ st.map (·.var) := by
  intro q
  obtain ⟨b, hb, e⟩ := List.mem_map.1 q
  exact subFind_none' h b hb e
mutual
theorem T.mt_nd : ∀ (p : T) (st : List Bd) (t : T) (s : List Bd), (st.map (·.var)).Nodup → p.mt st t = some s → (s.map (·.var)).Nodup
  | .mk f l, st, t, s, hn, h => by
    rw [T.mt] at h
    split at h
    · split at h
      · rename_i hf
        cases h
        rw [List.map_append, List.nodup_append]
        refine ⟨hn, by simp, fun x hx y hy e => ?_⟩
        have hy' : y = -1 - f := by simpa using hy
        rw [e, hy'] at hx
        exact subFind_none_iff hf hx
      · split at h
        · cases h; exact hn
        · cases h
    · split at h
      · exact T.mtL_nd l st t.args s hn h
      · cases h
theorem T.mtL_nd : ∀ (l : List T) (st : List Bd) (ts : List T) (s : List Bd), (st.map (·.var)).Nodup → T.mtL l st ts = some s → (s.map (·.var)).Nodup
  | [], st, _, s, hn, h => by rw [T.mtL] at h; cases h; exact hn
  | _ :: _, st, [], s, hn, h => by rw [T.mtL] at h; cases h; exact hn
  | p :: ps, st, t :: ts, s, hn, h => by
    rw [T.mtL] at h
    split at h
    · cases h
    · rename_i s1 h1
      exact T.mtL_nd ps s1 ts s (T.mt_nd p st t s1 hn h1) h
end
theorem mTo_nd (p t : T) {st : List Bd} (hn : (st.map (·.var)).Nodup) : ((mTo p t st).map (·.var)).Nodup := by
  unfold mTo
  split
  · cases h : p.mt st t with
    | none => exact hn
    | some s => exact T.mt_nd p st t s hn h
  · exact hn
theorem NewBs.older {w0 w1 w : World} {R : List Bd} {a : Option Addr} {c : Nat} (h : NewBs w1 w R a c) (hs : w0.heap.size ≤ w1.heap.size) : NewBs w0 w R a c := ⟨h.1.mono (by decide) (fun _ q _ => Nat.le_trans hs q), h.2⟩
/-- What 'Match' tells. -/
def MatchIs (w w' : World) (p t : T) (v : Value) : Prop := if mOk p t [] = true then ∃ (R : List Bd) (a : Option Addr) (c : Nat), v = .tuple #[.slice a R.length c, .bool true] ∧ SubOf (mTo p t []) R ∧ NewBs w w' R a c else v = .tuple #[.slice none 0 0, .bool false]
theorem MatchIs.form {w w' : World} {p t : T} {v : Value} (h : MatchIs w w' p t v) : ∃ (a : Option Addr) (n c : Nat), v = .tuple #[.slice a n c, .bool (mOk p t [])] := by
  unfold MatchIs at h
  cases hb : mOk p t [] with
  | true => rw [if_pos hb] at h; obtain ⟨R, a, c, rfl, _⟩ := h; exact ⟨a, R.length, c, rfl⟩
  | false => rw [if_neg (by rw [hb]; decide)] at h; subst h; exact ⟨none, 0, 0, rfl⟩
end Go.Proofs.Ytibncmnmjhimeaa

/- The document's net in memory. -/
namespace Go.Proofs.Ytibncmnmjhimeaa
open Go.RowKit Go
set_option linter.unusedVariables false
set_option linter.unusedSimpArgs false
/-- Each variable's part; -1: none. -/
def VB (w : World) (vb : Nat) (V : Nat → Nat) : Prop := ∃ cs, Blk w vb 3 cs ∧ ∀ v, v < 96 → cs[v]? = some (.int .i64 ((V v : Int) - 1))
/-- The net; its box may not yet tell of its rows. -/
structure PR (w : World) (g : Nat) (S : Nat → Prop) (bl bu : Option Addr × Nat × Nat) (la : Option Addr) (lc : Nat) (N : List Pt) (ua : Option Addr) (uc : Nat) (U : List Nat) (vb vc : Nat) (V : Nat → Nat) : Prop where
  blk : Blk w g 79 #[.slice bl.1 bl.2.1 bl.2.2, .slice bu.1 bu.2.1 bu.2.2, .slice (some ⟨vb, 0, none⟩) 96 vc]
  l : RowD eltP S w 89 la lc N.length N
  up : RowD eltN (fun _ => False) w 3 ua uc U.length U
  of : VB w vb V
  lS : ∀ b, obk la N.length lc = some b → b ≠ g ∧ b ≠ vb
  uS : ∀ b, obk ua U.length uc = some b → ¬ S b ∧ b ≠ g ∧ b ≠ vb ∧ obk la N.length lc ≠ some b
  sS : ∀ b, S b → b ≠ g ∧ b ≠ vb ∧ b < w.heap.size
  vg : vb ≠ g
/-- The net's blocks. -/
def RZ (g : Nat) (S : Nat → Prop) (la : Option Addr) (lc n : Nat) (ua : Option Addr) (uc m vb : Nat) : Nat → Prop := fun b => b = g ∨ b = vb ∨ obk la n lc = some b ∨ obk ua m uc = some b ∨ S b
section
variable {w w' : World} {g lc uc vb vc : Nat} {S S2 : Nat → Prop} {bl bu : Option Addr × Nat × Nat} {la ua : Option Addr} {N : List Pt} {U : List Nat} {V : Nat → Nat}
theorem VB.chg {Z : Nat → Prop} (h : VB w vb V) (hc : Chg Z w w') (hb : ¬ Z vb) : VB w' vb V := by obtain ⟨cs, h1, h2⟩ := h; exact ⟨cs, chg_blk h1 hc hb, h2⟩
theorem VB.lt (h : VB w vb V) : vb < w.heap.size := by obtain ⟨cs, h1, h2⟩ := h; exact h1.lt
theorem VB.cell (h : VB w vb V) {v : Nat} (hv : v < 96) : w.cell? ⟨vb, 0 + v, none⟩ = some (.int .i64 ((V v : Int) - 1)) := by
  obtain ⟨cs, h1, h2⟩ := h
  rw [Nat.zero_add]
  exact (h1.cell v).trans (h2 v hv)
theorem VB.set_ (h : VB w vb V) {v x : Nat} (hv : v < 96) : (∃ cs, Blk w vb 3 cs ∧ 0 + v + 0 < cs.size) ∧ VB (w.setCell ⟨vb, 0 + v, none⟩ (.int .i64 ((x : Int) - 1))) vb (NS.setV V v x) := by
  obtain ⟨cs, h1, h2⟩ := h
  have hl : v < cs.size := by
    have := h2 v hv
    exact (Array.getElem?_eq_some_iff.1 this).1
  refine ⟨⟨cs, h1, by omega⟩, _, h1.set_ _ _, fun k hk => ?_⟩
  rw [Array.getElem?_setIfInBounds]
  unfold NS.setV
  by_cases e : 0 + v = k
  · rw [if_pos e, if_pos (by omega), if_pos (by omega)]
  · rw [if_neg e, if_neg (by omega)]; exact h2 k hk
theorem PR.lt (h : PR w g S bl bu la lc N ua uc U vb vc V) : ∀ b, RZ g S la lc N.length ua uc U.length vb b → b < w.heap.size := fun b q => by
  rcases q with q | q | q | q | q
  · rw [q]; exact h.blk.lt
  · rw [q]; exact h.of.lt
  · exact h.l.lt b q
  · exact h.up.lt b q
  · exact (h.sS b q).2.2
theorem PR.chg {Z : Nat → Prop} (h : PR w g S bl bu la lc N ua uc U vb vc V) (hc : Chg Z w w') (hZ : ∀ b, RZ g S la lc N.length ua uc U.length vb b → ¬ Z b) : PR w' g S bl bu la lc N ua uc U vb vc V :=
  ⟨chg_blk h.blk hc (hZ g (.inl rfl)), h.l.chg hc (fun b q => hZ b (.inr (.inr (.inl q)))) (fun b q => hZ b (.inr (.inr (.inr (.inr q))))), h.up.chg hc (fun b q => hZ b (.inr (.inr (.inr (.inl q))))) (fun b q => q.elim), h.of.chg hc (hZ vb (.inr (.inl rfl))), h.lS, h.uS, fun b q => ⟨(h.sS b q).1, (h.sS b q).2.1, Nat.lt_of_lt_of_le (h.sS b q).2.2 hc.size⟩, h.vg⟩
theorem PR.below (h : PR w g S bl bu la lc N ua uc U vb vc V) (hb : Below w.heap.size w w') : PR w' g S bl bu la lc N ua uc U vb vc V := h.chg (Z := fun _ => False) (.ofBelow hb) (fun _ _ => id)
theorem PR.c0 (h : PR w g S bl bu la lc N ua uc U vb vc V) : w.cell? ⟨g, 0, none⟩ = some (.slice bl.1 bl.2.1 bl.2.2) := (h.blk.cell 0).trans rfl
theorem PR.c1 (h : PR w g S bl bu la lc N ua uc U vb vc V) : w.cell? ⟨g, 1, none⟩ = some (.slice bu.1 bu.2.1 bu.2.2) := (h.blk.cell 1).trans rfl
theorem PR.c2 (h : PR w g S bl bu la lc N ua uc U vb vc V) : w.cell? ⟨g, 2, none⟩ = some (.slice (some ⟨vb, 0, none⟩) 96 vc) := (h.blk.cell 2).trans rfl
/-- A part comes to the row of parts. -/
theorem PR.growL (h : PR w g S bl bu la lc N ua uc U vb vc V) {ra : Option Addr} {rc : Nat} {y : Pt} (h2 : ∀ b, S2 b → b ≠ g ∧ b ≠ vb ∧ b < w.heap.size ∧ obk ua U.length uc ≠ some b) (hr : RowD eltP (fun b => (S b ∨ S2 b) ∧ b < w.heap.size) w' 89 ra rc (N.length + 1) (N ++ [y])) (hc : Chg (fun b => obk la N.length lc = some b) w w') (hn : ∀ b, obk ra (N.length + 1) rc = some b → obk la N.length lc = some b ∨ w.heap.size ≤ b) :
    PR w' g (fun b => (S b ∨ S2 b) ∧ b < w.heap.size) bl bu ra rc (N ++ [y]) ua uc U vb vc V := by
  have e : (N ++ [y]).length = N.length + 1 := by simp
  refine ⟨chg_blk h.blk hc (fun q => (h.lS g q).1 rfl), by rw [e]; exact hr, h.up.chg hc (fun b q q2 => (h.uS b q).2.2.2 q2) (fun b q => q.elim), h.of.chg hc (fun q => (h.lS vb q).2 rfl), fun b q => ?_, fun b q => ⟨fun z => ?_, (h.uS b q).2.1, (h.uS b q).2.2.1, fun z => ?_⟩, fun b q => ⟨?_, ?_, Nat.lt_of_lt_of_le q.2 hc.size⟩, h.vg⟩
  · rw [e] at q
    rcases hn b q with q1 | q1
    · exact h.lS b q1
    · have := h.blk.lt; have := h.of.lt; exact ⟨by omega, by omega⟩
  · rcases z.1 with z | z
    · exact (h.uS b q).1 z
    · exact (h2 b z).2.2.2 q
  · rw [e] at z
    rcases hn b z with q1 | q1
    · exact (h.uS b q).2.2.2 q1
    · have := h.up.lt b q; omega
  · rcases q.1 with z | z
    · exact (h.sS b z).1
    · exact (h2 b z).1
  · rcases q.1 with z | z
    · exact (h.sS b z).2.1
    · exact (h2 b z).2.1
theorem PR.storeL (h : PR w g S bl bu la lc N ua uc U vb vc V) : PR (w.setCell ⟨g, 0, none⟩ (.slice la N.length lc)) g S (la, N.length, lc) bu la lc N ua uc U vb vc V := by
  have hu := Upd.at_ w g 0 (.slice la N.length lc)
  have hc : Chg (fun k => k = g) w (w.setCell ⟨g, 0, none⟩ (.slice la N.length lc)) := .ofUpd hu rfl
  exact ⟨h.blk.set_ 0 _, h.l.chg hc (fun b q e => (h.lS b q).1 e) (fun b q e => (h.sS b q).1 e), h.up.chg hc (fun b q e => (h.uS b q).2.1 e) (fun b q => q.elim), h.of.chg hc (fun e => h.vg e), h.lS, h.uS, fun b q => ⟨(h.sS b q).1, (h.sS b q).2.1, by rw [hu.size]; exact (h.sS b q).2.2⟩, h.vg⟩
/-- A link comes to the row of links. -/
theorem PR.growU (h : PR w g S bl bu la lc N ua uc U vb vc V) {ra : Option Addr} {rc y : Nat} (hr : RowD eltN (fun b => ((fun _ => False) b ∨ (fun _ => False) b) ∧ b < w.heap.size) w' 3 ra rc (U.length + 1) (U ++ [y])) (hc : Chg (fun b => obk ua U.length uc = some b) w w') (hn : ∀ b, obk ra (U.length + 1) rc = some b → obk ua U.length uc = some b ∨ w.heap.size ≤ b) :
    PR w' g S bl bu la lc N ra rc (U ++ [y]) vb vc V := by
  have e : (U ++ [y]).length = U.length + 1 := by simp
  refine ⟨chg_blk h.blk hc (fun q => (h.uS g q).2.1 rfl), h.l.chg hc (fun b q q2 => (h.uS b q2).2.2.2 q) (fun b q q2 => (h.uS b q2).1 q), ?_, h.of.chg hc (fun q => (h.uS vb q).2.2.1 rfl), h.lS, fun b q => ?_, fun b q => ⟨(h.sS b q).1, (h.sS b q).2.1, Nat.lt_of_lt_of_le (h.sS b q).2.2 hc.size⟩, h.vg⟩
  · rw [e]; exact hr.mono (fun b q _ => by rcases q.1 with q | q <;> exact q) (fun b q => q.elim)
  · rw [e] at q
    rcases hn b q with q1 | q1
    · exact h.uS b q1
    · exact ⟨fun z => by have := (h.sS b z).2.2; omega, fun z => by have := h.blk.lt; omega, fun z => by have := h.of.lt; omega, fun z => by have := h.l.lt b z; omega⟩
theorem PR.storeU (h : PR w g S bl bu la lc N ua uc U vb vc V) : PR (w.setCell ⟨g, 1, none⟩ (.slice ua U.length uc)) g S bl (ua, U.length, uc) la lc N ua uc U vb vc V := by
  have hu := Upd.at_ w g 1 (.slice ua U.length uc)
  have hc : Chg (fun k => k = g) w (w.setCell ⟨g, 1, none⟩ (.slice ua U.length uc)) := .ofUpd hu rfl
  exact ⟨h.blk.set_ 1 _, h.l.chg hc (fun b q e => (h.lS b q).1 e) (fun b q e => (h.sS b q).1 e), h.up.chg hc (fun b q e => (h.uS b q).2.1 e) (fun b q => q.elim), h.of.chg hc (fun e => h.vg e), h.lS, h.uS, fun b q => ⟨(h.sS b q).1, (h.sS b q).2.1, by rw [hu.size]; exact (h.sS b q).2.2⟩, h.vg⟩
/-- A variable's part is told. -/
theorem PR.setV (h : PR w g S bl bu la lc N ua uc U vb vc V) {v x : Nat} (hv : v < 96) : PR (w.setCell ⟨vb, 0 + v, none⟩ (.int .i64 ((x : Int) - 1))) g S bl bu la lc N ua uc U vb vc (NS.setV V v x) := by
  have hu := Upd.at_ w vb (0 + v) (.int .i64 ((x : Int) - 1))
  have hc : Chg (fun k => k = vb) w (w.setCell ⟨vb, 0 + v, none⟩ (.int .i64 ((x : Int) - 1))) := .ofUpd hu rfl
  exact ⟨chg_blk h.blk hc (fun e => h.vg e.symm), h.l.chg hc (fun b q e => (h.lS b q).2 e) (fun b q e => (h.sS b q).2.1 e), h.up.chg hc (fun b q e => (h.uS b q).2.2.1 e) (fun b q => q.elim), (h.of.set_ hv).2, h.lS, h.uS, fun b q => ⟨(h.sS b q).1, (h.sS b q).2.1, by rw [hu.size]; exact (h.sS b q).2.2⟩, h.vg⟩
/-- A link is written. -/
theorem PR.setU {b : Nat} (h : PR w g S bl bu la lc N (some ⟨b, 0, none⟩) uc U vb vc V) {i v : Nat} (hi : i < U.length) : (∃ cs, Blk w b 3 cs ∧ 0 + i + 0 < cs.size) ∧ PR (w.setCell ⟨b, 0 + i, none⟩ (.int .i64 ((v : Nat) : Int))) g S bl bu la lc N (some ⟨b, 0, none⟩) uc (U.set i v) vb vc V := by
  obtain ⟨b2, cs, e1, e2, hB, hsz, _, hset⟩ := h.up.blkN (by omega)
  obtain rfl : b = b2 := by simpa using e1
  have hU := h.uS b e2
  have hu := Upd.at_ w b (0 + i) (.int .i64 ((v : Nat) : Int))
  have hc : Chg (fun k => k = b) w (w.setCell ⟨b, 0 + i, none⟩ (.int .i64 ((v : Nat) : Int))) := .ofUpd hu rfl
  have hs := hset i v hi
  refine ⟨⟨cs, hB, by omega⟩, chg_blk h.blk hc (fun e => hU.2.1 e.symm), h.l.chg hc (fun q k e => hU.2.2.2 (by rw [← show q = b from e]; exact k)) (fun q k e => hU.1 (by rw [← show q = b from e]; exact k)), by rw [List.length_set]; exact hs, h.of.chg hc (fun e => hU.2.2.1 (show vb = b from e).symm), h.lS, fun q k => h.uS q (by rw [List.length_set] at k; exact k), fun q k => ⟨(h.sS q k).1, (h.sS q k).2.1, by rw [hu.size]; exact (h.sS q k).2.2⟩, h.vg⟩
theorem PR.ub (h : PR w g S bl bu la lc N ua uc U vb vc V) (h0 : 0 < U.length) : ∃ b, ua = some ⟨b, 0, none⟩ := by
  obtain ⟨b, _, e, _⟩ := h.up.blkN h0
  exact ⟨b, e⟩
theorem PR.cu {b : Nat} (h : PR w g S bl bu la lc N (some ⟨b, 0, none⟩) uc U vb vc V) {i : Nat} (hi : i < U.length) : w.cell? ⟨b, 0 + i, none⟩ = some (.int .i64 ((aget U i : Nat) : Int)) := by
  obtain ⟨b2, cs, e1, _, _, _, hc, _⟩ := h.up.blkN (by omega)
  obtain rfl : b = b2 := by simpa using e1
  exact hc i hi
end
/-- The net, its blocks of 'Z'. -/
def RX (w : World) (g : Nat) (Z : Nat → Prop) (U : List Nat) (N : List Pt) (V : Nat → Nat) : Prop := ∃ S la lc ua uc vb vc, PR w g S (la, N.length, lc) (ua, U.length, uc) la lc N ua uc U vb vc V ∧ U.length = N.length ∧ (∀ b, RZ g S la lc N.length ua uc U.length vb b → Z b) ∧ ∀ b, Z b → b < w.heap.size
theorem RX.chg {w w' : World} {g : Nat} {Z X : Nat → Prop} {U : List Nat} {N : List Pt} {V : Nat → Nat} (h : RX w g Z U N V) (hc : Chg X w w') (hX : ∀ b, Z b → ¬ X b) : RX w' g Z U N V := by
  obtain ⟨S, la, lc, ua, uc, vb, vc, h1, h2, h3, h4⟩ := h
  exact ⟨S, la, lc, ua, uc, vb, vc, h1.chg hc (fun b q => hX b (h3 b q)), h2, h3, fun b q => Nat.lt_of_lt_of_le (h4 b q) hc.size⟩
theorem RX.below {w w' : World} {g : Nat} {Z : Nat → Prop} {U : List Nat} {N : List Pt} {V : Nat → Nat} (h : RX w g Z U N V) (hb : Below w.heap.size w w') : RX w' g Z U N V := h.chg (X := fun _ => False) (.ofBelow hb) (fun _ _ => id)
theorem RX.upd {w w' : World} {g q : Nat} {Z : Nat → Prop} {U : List Nat} {N : List Pt} {V : Nat → Nat} (h : RX w g Z U N V) (hu : Upd q w w') (hq : ¬ Z q) : RX w' g Z U N V := h.chg (X := fun b => b = q) (.ofUpd hu rfl) (fun b k e => hq (e ▸ k))
theorem RX.lt {w : World} {g : Nat} {Z : Nat → Prop} {U : List Nat} {N : List Pt} {V : Nat → Nat} (h : RX w g Z U N V) : ∀ b, Z b → b < w.heap.size := by obtain ⟨S, la, lc, ua, uc, vb, vc, h1, h2, h3, h4⟩ := h; exact h4
theorem RX.hg {w : World} {g : Nat} {Z : Nat → Prop} {U : List Nat} {N : List Pt} {V : Nat → Nat} (h : RX w g Z U N V) : Z g := by obtain ⟨S, la, lc, ua, uc, vb, vc, h1, h2, h3, h4⟩ := h; exact h3 g (.inl rfl)
theorem RX.len {w : World} {g : Nat} {Z : Nat → Prop} {U : List Nat} {N : List Pt} {V : Nat → Nat} (h : RX w g Z U N V) : U.length = N.length := by obtain ⟨S, la, lc, ua, uc, vb, vc, h1, h2, h3, h4⟩ := h; exact h2
/-- A net whose blocks are of 'Z', or came from 'B' on, and none of them of 'X'. -/
def RJ (w : World) (B : Nat) (Z : Nat → Prop) (κ d : Nat → Nat) (g : Nat) (N : List Pt) (V : Nat → Nat) (X : Nat → Prop) : Prop := ∃ U Z', Reps U κ d ∧ RX w g Z' U N V ∧ (∀ b, Z' b → Z b ∨ B ≤ b) ∧ ∀ b, X b → ¬ Z' b
section
variable {w w' : World} {B g : Nat} {Z Z2 X X2 : Nat → Prop} {κ d : Nat → Nat} {U : List Nat} {N : List Pt} {V : Nat → Nat}
theorem RJ.below (h : RJ w B Z κ d g N V X) (hb : Below w.heap.size w w') : RJ w' B Z κ d g N V X := by
  obtain ⟨U, Z', h1, h2, h3, h4⟩ := h
  exact ⟨U, Z', h1, h2.below hb, h3, h4⟩
theorem RJ.upd {q : Nat} (h : RJ w B Z κ d g N V X) (hu : Upd q w w') (hq : X q) : RJ w' B Z κ d g N V X := by
  obtain ⟨U, Z', h1, h2, h3, h4⟩ := h
  exact ⟨U, Z', h1, h2.upd hu (h4 q hq), h3, h4⟩
theorem RJ.chg {Y : Nat → Prop} (h : RJ w B Z κ d g N V X) (hc : Chg Y w w') (hq : ∀ b, Y b → X b) : RJ w' B Z κ d g N V X := by
  obtain ⟨U, Z', h1, h2, h3, h4⟩ := h
  exact ⟨U, Z', h1, h2.chg hc (fun b q q2 => h4 b (hq b q2) q), h3, h4⟩
theorem RJ.avoid (h : RJ w B Z κ d g N V X) (hX : ∀ b, X2 b → X b ∨ w.heap.size ≤ b) : RJ w B Z κ d g N V X2 := by
  obtain ⟨U, Z', h1, h2, h3, h4⟩ := h
  exact ⟨U, Z', h1, h2, h3, fun b q q2 => by
    rcases hX b q with z | z
    · exact h4 b z q2
    · have := h2.lt b q2; omega⟩
end
end Go.Proofs.Ytibncmnmjhimeaa

/- The document's measures in memory: a row of sizes (-1: being asked), a row of depths. -/
namespace Go.Proofs.Ytibncmnmjhimeaa
open Go.RowKit Go
set_option linter.unusedVariables false
set_option linter.unusedSimpArgs false
def szI (m : Ms) : Int := if m.op then -1 else (m.sz : Int)
/-- A row of integers in a block of its own. -/
def IB (w : World) (b n : Nat) (F : Nat → Int) : Prop := ∃ cs, Blk w b 3 cs ∧ n ≤ cs.size ∧ ∀ k, k < n → cs[k]? = some (.int .i64 (F k))
section
variable {w w' : World} {b n : Nat} {F G : Nat → Int}
theorem IB.chg {Z : Nat → Prop} (h : IB w b n F) (hc : Chg Z w w') (hb : ¬ Z b) : IB w' b n F := by obtain ⟨cs, h1, h2⟩ := h; exact ⟨cs, chg_blk h1 hc hb, h2⟩
theorem IB.cell (h : IB w b n F) {k : Nat} (hk : k < n) : w.cell? ⟨b, 0 + k, none⟩ = some (.int .i64 (F k)) := by
  obtain ⟨cs, h1, h2, h3⟩ := h
  rw [Nat.zero_add]; exact (h1.cell k).trans (h3 k hk)
theorem IB.congr (h : IB w b n F) (hg : ∀ k, k < n → F k = G k) : IB w b n G := by
  obtain ⟨cs, h1, h2, h3⟩ := h
  exact ⟨cs, h1, h2, fun k hk => by rw [← hg k hk]; exact h3 k hk⟩
theorem IB.set_ (h : IB w b n F) {r : Nat} {x : Int} (hr : r < n) : (∃ cs, Blk w b 3 cs ∧ 0 + r + 0 < cs.size) ∧ IB (w.setCell ⟨b, 0 + r, none⟩ (.int .i64 x)) b n (fun k => if k = r then x else F k) := by
  obtain ⟨cs, h1, h2, h3⟩ := h
  refine ⟨⟨cs, h1, by omega⟩, _, h1.set_ _ _, by simpa using h2, fun k hk => ?_⟩
  rw [Array.getElem?_setIfInBounds]
  by_cases e : 0 + r = k
  · rw [if_pos e, if_pos (by omega)]; show _ = some (Value.int .i64 (if k = r then x else F k)); rw [if_pos (by omega)]
  · rw [if_neg e]; show _ = some (Value.int .i64 (if k = r then x else F k)); rw [if_neg (by omega)]; exact h3 k hk
end
/-- The measures: a box of two rows. -/
structure RM (w : World) (gm zb zc db dc : Nat) (ms : List Ms) : Prop where
  blk : Blk w gm 81 #[.slice (some ⟨zb, 0, none⟩) ms.length zc, .slice (some ⟨db, 0, none⟩) ms.length dc]
  z : IB w zb ms.length (fun k => szI (mget ms k))
  d : IB w db ms.length (fun k => ((mget ms k).dp : Int))
  zd : zb ≠ db
  gz : gm ≠ zb
  gd : gm ≠ db
section
variable {w w' : World} {gm zb zc db dc : Nat} {ms : List Ms}
theorem RM.chg {Z : Nat → Prop} (h : RM w gm zb zc db dc ms) (hc : Chg Z w w') (h1 : ¬ Z gm) (h2 : ¬ Z zb) (h3 : ¬ Z db) : RM w' gm zb zc db dc ms :=
  ⟨chg_blk h.blk hc h1, h.z.chg hc h2, h.d.chg hc h3, h.zd, h.gz, h.gd⟩
theorem RM.below (h : RM w gm zb zc db dc ms) (hb : Below w.heap.size w w') : RM w' gm zb zc db dc ms := h.chg (Z := fun _ => False) (.ofBelow hb) id id id
theorem RM.c0 (h : RM w gm zb zc db dc ms) : w.cell? ⟨gm, 0, none⟩ = some (.slice (some ⟨zb, 0, none⟩) ms.length zc) := (h.blk.cell 0).trans rfl
theorem RM.c1 (h : RM w gm zb zc db dc ms) : w.cell? ⟨gm, 1, none⟩ = some (.slice (some ⟨db, 0, none⟩) ms.length dc) := (h.blk.cell 1).trans rfl
theorem RM.sz (h : RM w gm zb zc db dc ms) {k : Nat} (hk : k < ms.length) : w.cell? ⟨zb, 0 + k, none⟩ = some (.int .i64 (szI (mget ms k))) := h.z.cell hk
theorem RM.dp (h : RM w gm zb zc db dc ms) {k : Nat} (hk : k < ms.length) : w.cell? ⟨db, 0 + k, none⟩ = some (.int .i64 ((mget ms k).dp : Int)) := h.d.cell hk
theorem RM.setZ (h : RM w gm zb zc db dc ms) {r : Nat} (hr : r < ms.length) (m : Ms) (hd : m.dp = (mget ms r).dp) : (∃ cs, Blk w zb 3 cs ∧ 0 + r + 0 < cs.size) ∧ RM (w.setCell ⟨zb, 0 + r, none⟩ (.int .i64 (szI m))) gm zb zc db dc (ms.set r m) := by
  obtain ⟨k1, k2⟩ := h.z.set_ (x := szI m) hr
  have hu := Upd.at_ w zb (0 + r) (.int .i64 (szI m))
  have hc : Chg (fun k => k = zb) w (w.setCell ⟨zb, 0 + r, none⟩ (.int .i64 (szI m))) := .ofUpd hu rfl
  refine ⟨k1, by rw [List.length_set]; exact chg_blk h.blk hc (fun e => h.gz e), by rw [List.length_set]; exact k2.congr (fun k _ => by rw [mget_set hr]; split <;> rfl), by rw [List.length_set]; exact (h.d.chg hc (fun e => h.zd (show db = zb from e).symm)).congr (fun k _ => by
    rw [mget_set hr]
    split
    · rename_i e; rw [e, hd]
    · rfl), h.zd, h.gz, h.gd⟩
theorem RM.setD (h : RM w gm zb zc db dc ms) {r : Nat} (hr : r < ms.length) (m : Ms) (hd : szI m = szI (mget ms r)) : (∃ cs, Blk w db 3 cs ∧ 0 + r + 0 < cs.size) ∧ RM (w.setCell ⟨db, 0 + r, none⟩ (.int .i64 ((m.dp : Nat) : Int))) gm zb zc db dc (ms.set r m) := by
  obtain ⟨k1, k2⟩ := h.d.set_ (x := ((m.dp : Nat) : Int)) hr
  have hu := Upd.at_ w db (0 + r) (.int .i64 ((m.dp : Nat) : Int))
  have hc : Chg (fun k => k = db) w (w.setCell ⟨db, 0 + r, none⟩ (.int .i64 ((m.dp : Nat) : Int))) := .ofUpd hu rfl
  refine ⟨k1, by rw [List.length_set]; exact chg_blk h.blk hc (fun e => h.gd e), by rw [List.length_set]; exact (h.z.chg hc (fun e => h.zd e)).congr (fun k _ => by
    rw [mget_set hr]
    split
    · rename_i e; rw [e, hd]
    · rfl), by rw [List.length_set]; exact k2.congr (fun k _ => by rw [mget_set hr]; split <;> rfl), h.zd, h.gz, h.gd⟩
theorem IB.made {b n : Nat} {cs : Array Value} (hB : Blk w b 3 cs) (hs : n ≤ cs.size) (hc : ∀ k, k < n → cs[k]? = some (.int .i64 0)) : IB w b n (fun _ => 0) := ⟨cs, hB, hs, hc⟩
theorem RM.made {n : Nat} {gm zb db : Nat} (hg : Blk w gm 81 #[.slice (some ⟨zb, 0, none⟩) n n, .slice (some ⟨db, 0, none⟩) n n]) (hz : Blk w zb 3 (madeCells (Value.cells (.int .i64 0)) (n * 1))) (hd : Blk w db 3 (madeCells (Value.cells (.int .i64 0)) (n * 1))) (h1 : zb ≠ db) (h2 : gm ≠ zb) (h3 : gm ≠ db) :
    RM w gm zb n db n (List.replicate n ⟨0, 0, false⟩) := by
  have hc : ∀ k, k < n → (madeCells (Value.cells (.int .i64 0)) (n * 1))[k]? = some (.int .i64 0) := fun k hk => by
    unfold madeCells
    rw [show Value.cells (.int .i64 0) = #[.int .i64 0] from rfl, Array.getElem?_map, Array.getElem?_range, if_pos (by omega)]
    show some _ = _
    simp only [List.size_toArray, List.length_cons, List.length_nil, Nat.zero_add, Nat.mod_one]
    rfl
  have hs : n ≤ (madeCells (Value.cells (.int .i64 0)) (n * 1)).size := by rw [size_madeCells]; omega
  have e : ∀ k, k < n → mget (List.replicate n (⟨0, 0, false⟩ : Ms)) k = ⟨0, 0, false⟩ := fun k hk => by rw [mget_lt (by simpa using hk)]; simp
  refine ⟨by rw [List.length_replicate]; exact hg, ?_, ?_, h1, h2, h3⟩
  · rw [List.length_replicate]; exact (IB.made hz hs hc).congr (fun k hk => by rw [e k hk]; rfl)
  · rw [List.length_replicate]; exact (IB.made hd hs hc).congr (fun k hk => by rw [e k hk]; rfl)
end
end Go.Proofs.Ytibncmnmjhimeaa

/- The document's net, new. -/
namespace Go.Proofs.Ytibncmnmjhimeaa
open Go.RowKit Go
set_option linter.unusedVariables false
set_option linter.unusedSimpArgs false
section
variable {w : World} {a : Option Addr} {c e : Nat} {S : Nat → Prop}
/-- No variable has a part yet. -/
theorem RowD.vb {l : List Int} (h : RowD eltI S w 3 a c 96 l) (hl : ∀ x ∈ l, x = -1) : ∃ vb, a = some ⟨vb, 0, none⟩ ∧ obk a 96 c = some vb ∧ VB w vb (fun _ => 0) := by
  have hn := h.len
  obtain ⟨b, e1, e2, h3⟩ := h.opn (by decide)
  subst e1
  have hlt := h.lt b e2
  obtain ⟨⟨xs, h1, _⟩, _, _⟩ := h
  rcases h1.2 with ⟨_, e2⟩ | ⟨g, cap, cur, e4, _, hb, _⟩
  · omega
  simp only [Value.slice.injEq, Option.some.injEq, Addr.mk.injEq, and_true, true_and] at e4
  obtain ⟨rfl, rfl⟩ := e4
  refine ⟨b, rfl, rfl, cur, hb, fun v hv => ?_⟩
  obtain ⟨cs, k1, k2⟩ := h3 v (by omega)
  have k1' : cs = [.int .i64 l[v]] := k1
  have k3 := k2 0 (by decide)
  rw [k1'] at k3
  have hk : eltI.k = 1 := rfl
  rw [hk, Nat.zero_add, Nat.mul_one, Nat.add_zero, Blk.cell (show Blk w b 3 cur from hb)] at k3
  rw [k3, hl _ (List.getElem_mem (by omega))]; rfl
/-- A new net holds nothing. -/
theorem RX.new {g vb vc : Nat} (hB : Blk w g 79 #[.slice none 0 0, .slice none 0 0, .slice (some ⟨vb, 0, none⟩) 96 vc]) (hV : VB w vb (fun _ => 0)) (hne : vb ≠ g) : RX w g (fun b => b = g ∨ b = vb) [] [] (fun _ => 0) :=
  ⟨fun _ => False, none, 0, none, 0, vb, vc, ⟨hB, RowD.nil, RowD.nil, hV, (fun b q => nomatch q), (fun b q => nomatch q), (fun b q => q.elim), hne⟩, rfl, (fun b q => by
    rcases q with q | q | q | q | q
    · exact .inl q
    · exact .inr q
    · cases q
    · cases q
    · cases q), (fun b q => by
    rcases q with q | q
    · rw [q]; exact hB.lt
    · rw [q]; exact hV.lt)⟩
end
/-- The document's net in memory behind 'B', apart from 'X'. -/
def RXS (w : World) (B g : Nat) (κ : Nat → Nat) (N : List Pt) (V : Nat → Nat) (X : Nat → Prop) : Prop := ∃ (Z : Nat → Prop) (U : List Nat) (d : Nat → Nat), (∀ b, Z b → B ≤ b ∧ ¬ X b) ∧ Reps U κ d ∧ RX w g Z U N V
theorem RXS.below {w w' : World} {B g : Nat} {κ : Nat → Nat} {N : List Pt} {V : Nat → Nat} {X : Nat → Prop} (h : RXS w B g κ N V X) (hb : Below w.heap.size w w') : RXS w' B g κ N V X := by
  obtain ⟨Z, U, d, h1, h2, h3⟩ := h
  exact ⟨Z, U, d, h1, h2, h3.below hb⟩
end Go.Proofs.Ytibncmnmjhimeaa

/- Joining as the document does it, plain. -/
namespace Go.Proofs.Ytibncmnmjhimeaa
open Go.RowKit Go
set_option linter.unusedVariables false
set_option linter.unusedSimpArgs false
theorem Run.keep {rv : Bool} {N : List Pt} (hN : NOk N) {todo : List (Nat × Nat)} {κ : Nat → Nat} {o : Option (Nat → Nat)} (h : Run rv N todo κ o) : KOk N κ → InR N todo → ∀ κ', o = some κ' → KOk N κ' ∧ aSum N κ' ≤ aSum N κ := by
  induction h with
  | nil κ => intro hk _ κ' e; obtain rfl := Option.some.inj e; exact ⟨hk, Nat.le_refl _⟩
  | same _ _ ih => intro hk hI κ' e; exact ih hk (fun p hp => hI p (List.mem_cons_of_mem _ hp)) κ' e
  | clash _ _ => intro _ _ κ' e; cases e
  | @step i j r ps κ κ1 o hne hst _ ih =>
    intro hk hI κ' e
    have hij := hI (i, j) (List.mem_cons_self ..)
    have li := hk.lt _ hij.1
    have lj := hk.lt _ hij.2
    have k1 := stepM_kok hk (hk.idem i) (hk.idem j) hne li lj hst
    have s1 := stepM_sum (hk.idem i) (hk.idem j) hne li lj hst
    have hps := stepM_inr hN li lj hst
    obtain ⟨z1, z2⟩ := ih k1 (fun p hp => by
      rcases List.mem_append.1 hp with q | q
      · exact hps p (rv_mem.1 q)
      · exact hI p (List.mem_cons_of_mem _ q)) κ' e
    exact ⟨z1, by omega⟩
/-- One pair more, behind the others. -/
theorem Run.snoc {N : List Pt} {ps : List (Nat × Nat)} {p : Nat × Nat} {κ κ1 : Nat → Nat} {o : Option (Nat → Nat)} (h : Run false N ps κ (some κ1)) (h2 : Run false N [(p.1, p.2)] κ1 o) : Run false N (ps ++ [p]) κ o := (Run.append h).1 κ1 o rfl h2
theorem Run.stop {N : List Pt} {ps qs : List (Nat × Nat)} {κ : Nat → Nat} (h : Run false N ps κ none) : Run false N (ps ++ qs) κ none := (Run.append h).2 rfl
end Go.Proofs.Ytibncmnmjhimeaa

/- What stands for a part: the document's program. -/
namespace Go.Proofs.Ytibncmnmjhimeaa
open Go.RowKit Go
set_option linter.unusedVariables false
set_option linter.unusedSimpArgs false
set_option maxRecDepth 100000 in
theorem rtop_any (κ d : Nat → Nat) (w : World) (g : Nat) (S : Nat → Prop) (la : Option Addr) (lc : Nat) (N : List Pt) (ua : Option Addr) (uc : Nat) (U : List Nat) (vb vc : Nat) (V : Nat → Nat) (bl : Option Addr × Nat × Nat) (i : Nat) (h : PR w g S bl (ua, U.length, uc) la lc N ua uc U vb vc V) (hR : Reps U κ d) (hi : i < U.length) (hn : U.length ≤ 1048576) :
  Calls Try.prog 52 #[.pointer (some ⟨g, 0, none⟩), .int .i64 (i : Int)] w (Ret fun v' w' => v' = .int .i64 ((κ i : Nat) : Int) ∧ Below w.heap.size w w') := by
 obtain ⟨ub, rfl⟩ := h.ub (by omega)
 refine Calls.walk (l := [.pointer (some ⟨g, 0, none⟩), .int .i64 (((i : Nat) : Int))]) Try.func52 rfl (by kernel_rfl) ?_
 refine WC.sub (K' := [(0, .pointer (some ⟨g, 0, none⟩)), (1, .int .i64 (((i : Nat) : Int)))]) ⟨rfl, rfl, trivial⟩ ?_
 refine WC.seq (WC.region (WL.asg rfl rfl rfl rfl rfl (WL.nil (WE.next (WC.seq (WC.block ?_))))))
 refine WC.loop (X := Nat) (fun x => d x) (fun x => [(0, .pointer (some ⟨g, 0, none⟩)), (1, .int .i64 (((x : Nat) : Int))), (4, .int .i64 0)]) (fun x w1 => κ x = κ i ∧ x < U.length ∧ Below w.heap.size w w1 ∧ PR (w1) g S bl ((some ⟨ub, 0, none⟩), U.length, uc) la lc N (some ⟨ub, 0, none⟩) uc U vb vc V) i ⟨rfl, rfl, rfl, trivial⟩ ?_ ?_
 ·exact ⟨rfl, hi, (Below.refl _ _), h⟩
 ·rintro x w1 ⟨hkx, hil, hb2, ho3⟩
  obtain ⟨ha1, ha2, ha3, ha4⟩ := hR.at_ x (by omega)
  refine WC.seq (WC.seq (WC.region (WL.mv rfl rfl rfl rfl rfl ?_)))
  refine WL.val _ rfl rfl rfl (fun za zC zh zk => nilCheck_ rfl (zh.ev rfl) zk) ?_
  refine WL.val _ rfl rfl rfl (fun za zC zh zk => fld_79_1 rfl (zh.ev rfl) zk) ?_
  refine WL.val _ rfl rfl rfl (fun za zC zh zk => ld_31 rfl (zh.ev rfl) ho3.c1 zk) ?_
  refine WL.mv rfl rfl rfl rfl rfl ?_
  refine WL.val _ rfl rfl rfl (fun za zC zh zk => ix_31 (k := x) rfl (zh.ev rfl) rfl (zh.ev rfl) (by first | omega | (simp; omega)) zk) ?_
  refine WL.val _ rfl rfl rfl (fun za zC zh zk => ld_3 rfl (zh.ev rfl) (ho3.cu (by first | omega | (simp; omega))) zk) ?_
  refine WL.mv rfl rfl rfl rfl rfl ?_
  refine WL.val (.bool ((((((aget U x) : Nat) : Int) : Int) != (((x : Nat) : Int) : Int)))) rfl rfl rfl (fun za zC zh zk => neq_3 rfl (zh.ev rfl) (zh.ev rfl) zk) ?_
  refine WL.nil (WE.next ?_)
  refine WC.cond rfl (fun h4 => ?_) (fun h4 => ?_)
  ·have h4 : ((((aget U x) : Nat) : Int) : Int) ≠ (((x : Nat) : Int) : Int) := by simpa using h4
   have hne : aget U x ≠ x := by omega
   have hd1 : d (aget U x) < d x := by omega
   refine WC.skip (WE.next (WC.block (WC.region (WL.mv rfl rfl rfl rfl rfl ?_))))
   refine WL.val _ rfl rfl rfl (fun za zC zh zk => nilCheck_ rfl (zh.ev rfl) zk) ?_
   refine WL.val _ rfl rfl rfl (fun za zC zh zk => fld_79_1 rfl (zh.ev rfl) zk) ?_
   refine WL.val _ rfl rfl rfl (fun za zC zh zk => ld_31 rfl (zh.ev rfl) ho3.c1 zk) ?_
   refine WL.mv rfl rfl rfl rfl rfl ?_
   refine WL.val _ rfl rfl rfl (fun za zC zh zk => ix_31 (k := x) rfl (zh.ev rfl) rfl (zh.ev rfl) (by first | omega | (simp; omega)) zk) ?_
   refine WL.val _ rfl rfl rfl (fun za zC zh zk => ld_3 rfl (zh.ev rfl) (ho3.cu (by first | omega | (simp; omega))) zk) ?_
   refine WL.asg rfl rfl rfl rfl rfl (WL.nil (WE.blockNormal ?_))
   refine WE.round (aget U x) ⟨rfl, rfl, rfl, trivial⟩ ?_ ?_
   ·exact ⟨by (try dsimp only); rw [ha2]; exact hkx, by (try dsimp only); omega, hb2, ho3⟩
   ·(try dsimp only); omega
  ·have h4 : ¬ (((((aget U x) : Nat) : Int) : Int) ≠ (((x : Nat) : Int) : Int)) := by simpa using h4
   refine WC.exit (WE.thenExit (WE.thenExit (WE.blockIs rfl (WE.next (WC.seq (WC.region (WL.mv rfl rfl rfl rfl rfl (WL.asg rfl rfl rfl rfl rfl (WL.nil (WE.next (WC.ret (WE.ret1 rfl rfl ?_))))))))))))
   have he : aget U x = x := by omega
   exact ⟨_, rfl, by rw [← hkx, ha4 he], hb2⟩
end Go.Proofs.Ytibncmnmjhimeaa

/- Parts are made the same: the document's program. -/
namespace Go.Proofs.Ytibncmnmjhimeaa
open Go.RowKit Go
set_option linter.unusedVariables false
set_option linter.unusedSimpArgs false
theorem PR.ofP {w : World} {g : Nat} {S : Nat → Prop} {bl bu : Option Addr × Nat × Nat} {la ua : Option Addr} {lc uc vb vc : Nat} {U : List Nat} {N : List Pt} {V : Nat → Nat} (h : PR w g S bl bu la lc N ua uc U vb vc V) (h0 : 0 < N.length) : ∃ (b : Nat) (A : Nat → Option Addr) (C : Nat → Nat), la = some ⟨b, 0, none⟩ ∧ obk la N.length lc = some b ∧
  ∀ k, k < N.length → w.cell? ⟨b, 0 + k * 2, none⟩ = some (.int .i64 (pget N k).fn) ∧ w.cell? ⟨b, 0 + k * 2 + 1, none⟩ = some (.slice (A k) (pget N k).args.length (C k)) ∧ InRow eltN S w (pget N k).args (A k) := by
 obtain ⟨b, e1, e2, h3⟩ := h.l.opn h0
 have key : ∀ k, k < N.length → ∃ p : Option Addr × Nat, w.cell? ⟨b, 0 + k * 2, none⟩ = some (.int .i64 (pget N k).fn) ∧ w.cell? ⟨b, 0 + k * 2 + 1, none⟩ = some (.slice p.1 (pget N k).args.length p.2) ∧ InRow eltN S w (pget N k).args p.1 := by
  intro k hk
  obtain ⟨cs, ⟨a', c', h4, h5⟩, h6⟩ := h3 k hk
  subst h4
  rw [pget_lt hk]
  exact ⟨(a', c'), h6 0 (by decide), h6 1 (by decide), h5⟩
 have : Inhabited (Option Addr × Nat) := ⟨(none, 0)⟩
 obtain ⟨F, hF⟩ := Go.Deep.choose_lt key
 exact ⟨b, fun k => (F k).1, fun k => (F k).2, e1, e2, hF⟩
/-- How joining arguments stands. -/
structure RS where
 k : Nat
 κ : Nat → Nat
 d : Nat → Nat
 U : List Nat
set_option maxRecDepth 100000 in
theorem rjoin_any (N : List Pt) (V : Nat → Nat) (g : Nat) (S : Nat → Prop) (la : Option Addr) (lc ub uc vb vc : Nat) (hN : NOk N) (hn : N.length ≤ 1048576) (hs : argN N ≤ 1048576) (n : Nat) : ∀ (κ d : Nat → Nat) (U : List Nat) (i j : Nat) (w : World), aSum N κ ≤ n → KOk N κ → Reps U κ d → PR w g S (la, N.length, lc) ((some ⟨ub, 0, none⟩), N.length, uc) la lc N (some ⟨ub, 0, none⟩) uc U vb vc V → U.length = N.length → i < N.length → j < N.length →
  Calls Try.prog 44 #[.pointer (some ⟨g, 0, none⟩), .int .i64 (i : Int), .int .i64 (j : Int)] w (Ret fun v' w' => ∃ o, Run false N [(i, j)] κ o ∧ v' = .bool o.isSome ∧ Chg (fun b => b = ub) w w' ∧ ∀ κ', o = some κ' → ∃ U' d', Reps U' κ' d' ∧ PR w' g S (la, N.length, lc) ((some ⟨ub, 0, none⟩), N.length, uc) la lc N (some ⟨ub, 0, none⟩) uc U' vb vc V ∧ U'.length = N.length) := by
 induction n using Nat.strongRecOn with
 | _ n ih => ?_
 intro κ d U i j w hsum hk hR hP hUl hi hj
 have hC0 := Chg.refl (fun b => b = ub) w
 have hlt0 := hP.lt
 have hub : ub < w.heap.size := hlt0 ub (.inr (.inr (.inr (.inl rfl))))
 have hgu : g ≠ ub := fun e => (hP.uS ub rfl).2.1 e.symm
 have hSub : ∀ b, S b → b ≠ ub := fun b q e => (hP.uS ub rfl).1 (e ▸ q)
 have hla : κ i < N.length := hk.lt _ hi
 have hlb : κ j < N.length := hk.lt _ hj
 have hka : κ (κ i) = κ i := hk.idem _
 have hkb : κ (κ j) = κ j := hk.idem _
 have hal9 := args_le hla
 obtain ⟨ob, A9, C9, rfl, hob, hcP⟩ := hP.ofP (by omega)
 have hou : ob ≠ ub := fun e => (hP.uS ub rfl).2.2.2 (by rw [hob, e])
 refine Calls.walk (l := [.pointer (some ⟨g, 0, none⟩), .int .i64 (((i : Nat) : Int)), .int .i64 (((j : Nat) : Int))]) Try.func44 rfl (by kernel_rfl) ?_
 refine WC.sub (K' := [(0, .pointer (some ⟨g, 0, none⟩)), (1, .int .i64 (((i : Nat) : Int))), (2, .int .i64 (((j : Nat) : Int)))]) ⟨rfl, rfl, rfl, trivial⟩ ?_
 refine WC.seq (WC.region (WL.asg rfl rfl rfl rfl rfl (WL.nil (WE.next (WC.seq (WC.region (WL.mv rfl rfl rfl rfl rfl (WL.mv rfl rfl rfl rfl rfl ?_))))))))
 refine WL.call rfl rfl rfl (fun za zh zC => wp_call (by kernel_rfl) rfl (hv2 (zh.ev rfl) (zh.ev rfl))) (rtop_any κ d _ g S _ lc N _ uc U vb vc V _ i (by rw [hUl]; exact hP) hR (by omega) (by omega)) ?_
 rintro _ w2 ⟨rfl, hq1⟩
 refine WL.asg rfl rfl rfl rfl rfl (WL.nil (WE.next (WC.seq (WC.region (WL.mv rfl rfl rfl rfl rfl (WL.mv rfl rfl rfl rfl rfl ?_))))))
 have ho3 := hP.below hq1
 refine WL.call rfl rfl rfl (fun za zh zC => wp_call (by kernel_rfl) rfl (hv2 (zh.ev rfl) (zh.ev rfl))) (rtop_any κ d _ g S _ lc N _ uc U vb vc V _ j (by rw [hUl]; exact ho3) hR (by omega) (by omega)) ?_
 rintro _ w5 ⟨rfl, hq4⟩
 refine WL.asg rfl rfl rfl rfl rfl (WL.nil (WE.next (WC.seq (WC.seq (WC.region (WL.mv rfl rfl rfl rfl rfl (WL.mv rfl rfl rfl rfl rfl ?_)))))))
 refine WL.val (.bool ((((((κ i) : Nat) : Int) : Int) == ((((κ j) : Nat) : Int) : Int)))) rfl rfl rfl (fun za zC zh zk => eql_3 rfl (zh.ev rfl) (zh.ev rfl) zk) ?_
 refine WL.nil (WE.next ?_)
 refine WC.cond rfl (fun h6 => ?_) (fun h6 => ?_)
 ·have h6 : ((((κ i) : Nat) : Int) : Int) = ((((κ j) : Nat) : Int) : Int) := by simpa using h6
  refine WC.seq (WC.region (WL.asg rfl rfl rfl rfl rfl (WL.nil (WE.next (WC.ret (WE.thenRet (WE.ret1 rfl rfl ?_)))))))
  have hb8 : Below w.heap.size w w5 := (bstep hq1 hq4)
  have hC7 := Chg.trans hC0 (.ofBelow hb8)
  have ho9 := ho3.below hq4
  exact ⟨_, rfl, some κ, Run.same (i := i) (j := j) (by omega) (.nil _), rfl, hC7, fun κ2 e => by obtain rfl := Option.some.inj e; exact ⟨U, d, hR, ho9, hUl⟩⟩
 ·have h6 : ¬ (((((κ i) : Nat) : Int) : Int) = ((((κ j) : Nat) : Int) : Int)) := by simpa using h6
  have hne : κ i ≠ κ j := by omega
  refine WC.skip (WE.next (WC.seq ?_))
  have ho10 := ho3.below hq4
  have hb11 : Below w.heap.size w w5 := (bstep hq1 hq4)
  refine WC.box2 (fun zS zw zv => zv = .agg #[.int .i64 ((pget N ((κ i))).fn), .slice ((A9 ((κ i)))) ((pget N ((κ i))).args.length) ((C9 ((κ i))))]) (fun zS zw zv => zv = .agg #[.int .i64 ((pget N ((κ j))).fn), .slice ((A9 ((κ j)))) ((pget N ((κ j))).args.length) ((C9 ((κ j))))]) (fun _ _ _ _ _ h => h) (fun _ _ _ _ _ h => h) (fun _ _ _ _ _ h => h) (fun _ _ _ _ _ h => h) [(true, .pointer (some ⟨g, 0, none⟩)), (true, .pointer (some ⟨g, 0, none⟩)), (true, .pointer (some ⟨g, 0, none⟩)), (true, .slice ((some ⟨ob, 0, none⟩)) N.length lc), (true, .int .i64 ((((κ i) : Nat) : Int))), (true, .pointer (some ⟨ob, 0 + ((κ i)) * 2, none⟩)), (true, undef), (true, .pointer (some ⟨g, 0, none⟩)), (true, .pointer (some ⟨g, 0, none⟩)), (true, .pointer (some ⟨g, 0, none⟩)), (true, .slice ((some ⟨ob, 0, none⟩)) N.length lc), (true, .int .i64 ((((κ j) : Nat) : Int))), (true, .pointer (some ⟨ob, 0 + ((κ j)) * 2, none⟩)), (true, undef), (true, undef), (true, undef), (true, undef), (true, undef)] [(0, .pointer (some ⟨g, 0, none⟩)), (1, .int .i64 ((((κ i) : Nat) : Int))), (2, .int .i64 ((((κ j) : Nat) : Int))), (6, .bool false), (18, .bool ((((((κ i) : Nat) : Int) : Int) == ((((κ j) : Nat) : Int) : Int))))] (t1 := 89) (z1 := #[.int .i64 0, .slice none 0 0]) (t2 := 89) (z2 := #[.int .i64 0, .slice none 0 0]) 6 13 14 15 16 17 7 8 (by decide) (by kernel_rfl) rfl rfl ⟨rfl, rfl, rfl, rfl, rfl, trivial⟩ (by kernel_rfl) (by kernel_rfl) (by kernel_rfl) ?_ ?_
  ·refine ⟨.inl ⟨by decide, rfl, fun za zw zc => ?_⟩, ?_⟩
   ·exact wp_move rfl (zc.kn.ev rfl) ⟨_, rfl, rfl, fun _ => rfl⟩
   refine ⟨.inl ⟨by decide, rfl, fun za zw zc => ?_⟩, ?_⟩
   ·exact nilCheck_ rfl ((evt za 19).trans (valVal2 (zc.dep 0 19 (by kernel_rfl) (by decide)) rfl rfl)) ⟨_, rfl, rfl, fun _ => rfl⟩
   refine ⟨.inl ⟨by decide, rfl, fun za zw zc => ?_⟩, ?_⟩
   ·exact fld_79_0 rfl ((evt za 20).trans (valVal2 (zc.dep 1 20 (by kernel_rfl) (by decide)) rfl rfl)) ⟨_, rfl, rfl, fun _ => rfl⟩
   refine ⟨.inl ⟨by decide, rfl, fun za zw zc => ?_⟩, ?_⟩
   ·exact ld_77 rfl ((evt za 21).trans (valVal2 (zc.dep 2 21 (by kernel_rfl) (by decide)) rfl rfl)) (bkeeps zc.below _ _ ho10.c0) ⟨_, rfl, rfl, fun _ => rfl⟩
   refine ⟨.inl ⟨by decide, rfl, fun za zw zc => ?_⟩, ?_⟩
   ·exact wp_move rfl (zc.kn.ev rfl) ⟨_, rfl, rfl, fun _ => rfl⟩
   refine ⟨.inl ⟨by decide, rfl, fun za zw zc => ?_⟩, ?_⟩
   ·exact ix_77 (k := (κ i)) rfl ((evt za 22).trans (valVal2 (zc.dep 3 22 (by kernel_rfl) (by decide)) rfl rfl)) rfl ((evt za 23).trans (valVal2 (zc.dep 4 23 (by kernel_rfl) (by decide)) rfl rfl)) (by first | omega | (simp; omega)) ⟨_, rfl, rfl, fun _ => rfl⟩
   refine ⟨.inr (.inl ⟨rfl, rfl, fun za zw zc => ?_⟩), ?_⟩
   ·exact ld_89 rfl ((evt za 24).trans (valVal2 (zc.dep 5 24 (by kernel_rfl) (by decide)) rfl rfl)) (bkeeps (bstep hb11 zc.below) _ _ (hcP ((κ i)) (by first | omega | (simp; omega))).1) (bkeeps (bstep hb11 zc.below) _ _ (hcP ((κ i)) (by first | omega | (simp; omega))).2.1) ⟨_, rfl, Below.refl _ _, rfl⟩
   refine ⟨.inl ⟨by decide, rfl, fun za zw zc => ?_⟩, ?_⟩
   ·exact wp_move rfl (zc.kn.ev rfl) ⟨_, rfl, rfl, fun _ => rfl⟩
   refine ⟨.inl ⟨by decide, rfl, fun za zw zc => ?_⟩, ?_⟩
   ·exact nilCheck_ rfl ((evt za 26).trans (valVal2 (zc.dep 7 26 (by kernel_rfl) (by decide)) rfl rfl)) ⟨_, rfl, rfl, fun _ => rfl⟩
   refine ⟨.inl ⟨by decide, rfl, fun za zw zc => ?_⟩, ?_⟩
   ·exact fld_79_0 rfl ((evt za 27).trans (valVal2 (zc.dep 8 27 (by kernel_rfl) (by decide)) rfl rfl)) ⟨_, rfl, rfl, fun _ => rfl⟩
   refine ⟨.inl ⟨by decide, rfl, fun za zw zc => ?_⟩, ?_⟩
   ·exact ld_77 rfl ((evt za 28).trans (valVal2 (zc.dep 9 28 (by kernel_rfl) (by decide)) rfl rfl)) (bkeeps zc.below _ _ ho10.c0) ⟨_, rfl, rfl, fun _ => rfl⟩
   refine ⟨.inl ⟨by decide, rfl, fun za zw zc => ?_⟩, ?_⟩
   ·exact wp_move rfl (zc.kn.ev rfl) ⟨_, rfl, rfl, fun _ => rfl⟩
   refine ⟨.inl ⟨by decide, rfl, fun za zw zc => ?_⟩, ?_⟩
   ·exact ix_77 (k := (κ j)) rfl ((evt za 29).trans (valVal2 (zc.dep 10 29 (by kernel_rfl) (by decide)) rfl rfl)) rfl ((evt za 30).trans (valVal2 (zc.dep 11 30 (by kernel_rfl) (by decide)) rfl rfl)) (by first | omega | (simp; omega)) ⟨_, rfl, rfl, fun _ => rfl⟩
   refine ⟨.inr (.inr (.inl ⟨rfl, rfl, fun za zw zc => ?_⟩)), ?_⟩
   ·exact ld_89 rfl ((evt za 31).trans (valVal2 (zc.dep 12 31 (by kernel_rfl) (by decide)) rfl rfl)) (bkeeps (bstep hb11 zc.below) _ _ (hcP ((κ j)) (by first | omega | (simp; omega))).1) (bkeeps (bstep hb11 zc.below) _ _ (hcP ((κ j)) (by first | omega | (simp; omega))).2.1) ⟨_, rfl, Below.refl _ _, rfl⟩
   refine ⟨.inr (.inr (.inr (.inl ⟨rfl, rfl, fun za zw zc => ?_⟩))), ?_⟩
   ·exact alloc_89 rfl ⟨rfl, rfl⟩
   refine ⟨.inr (.inr (.inr (.inr (.inl ⟨rfl, rfl, fun za zw zc => ?_⟩)))), ?_⟩
   ·exact alloc_89 rfl ⟨rfl, rfl⟩
   refine ⟨.inr (.inr (.inr (.inr (.inr (.inl ⟨rfl, rfl, 7, 25, by kernel_rfl, by kernel_rfl, fun za zw g zS zc z1 zB zP => ?_⟩))))), ?_⟩
   ·rw [zP]
    exact st_89 rfl ((evt za 7).trans z1) ((evt za 25).trans zP) rfl rfl zB (by first | decide | simp) (fun v => ⟨v, rfl, (Upd.at_ _ _ _ _).trans (Upd.at_ _ _ _ _), (zB.set_ 0 _).set_ 1 _⟩)
   refine ⟨.inr (.inr (.inr (.inr (.inr (.inr ⟨rfl, rfl, 8, 32, by kernel_rfl, by kernel_rfl, fun za zw g zS zc z1 zB zP => ?_⟩))))), ?_⟩
   ·rw [zP]
    exact st_89 rfl ((evt za 8).trans z1) ((evt za 32).trans zP) rfl rfl zB (by first | decide | simp) (fun v => ⟨v, rfl, (Upd.at_ _ _ _ _).trans (Upd.at_ _ _ _ _), (zB.set_ 0 _).set_ 1 _⟩)
   exact trivial
  ·intro za w12 g13 g14 zv1 zv2 zS1 zS2 zh hb15 hg16 hg17 hne18 hB19 hB20 hp21 hp22 zs1 zs2 za1 za2 zu
   have hl23 : w.heap.size ≤ g13 := by have z2 := (hb11).size; omega
   have hl24 : w5.heap.size ≤ g13 := by omega
   have hl25 : w.heap.size ≤ g14 := by have z2 := (hb11).size; omega
   have hl26 : w5.heap.size ≤ g14 := by omega
   subst hp21 hp22
   have hB27 : Blk w12 g13 89 #[.int .i64 ((pget N ((κ i))).fn), .slice ((A9 ((κ i)))) ((pget N ((κ i))).args.length) ((C9 ((κ i))))] := hB19
   have hB28 : Blk w12 g14 89 #[.int .i64 ((pget N ((κ j))).fn), .slice ((A9 ((κ j)))) ((pget N ((κ j))).args.length) ((C9 ((κ j))))] := hB20
   have zh := zh.cons (d := 7) za1
   have zh := zh.cons (d := 8) za2
   clear zu
   refine WE.go zh ?_
   refine WE.next (WC.seq (WC.seq ?_))
   refine WC.opt [(true, .val (.pointer (some ⟨g13, 0, none⟩))), (true, .val (.int .i64 ((pget N ((κ i))).fn))), (true, .val (.bool ((decide (((pget N ((κ i))).fn : Int) < (0 : Int)))))), (true, .val (.bool ((decide (((pget N ((κ i))).fn : Int) < (0 : Int)))))), ((true && !(decide (((pget N ((κ i))).fn : Int) < (0 : Int)))), .val (.pointer (some ⟨g14, 0, none⟩))), ((true && !(decide (((pget N ((κ i))).fn : Int) < (0 : Int)))), .val (.int .i64 ((pget N ((κ j))).fn))), ((true && !(decide (((pget N ((κ i))).fn : Int) < (0 : Int)))), .val (.bool ((decide (((pget N ((κ j))).fn : Int) < (0 : Int)))))), (true, .val (.bool (((decide (((pget N ((κ i))).fn : Int) < (0 : Int))) || (decide (((pget N ((κ j))).fn : Int) < (0 : Int)))))))] [(0, .pointer (some ⟨g, 0, none⟩)), (1, .int .i64 ((((κ i) : Nat) : Int))), (2, .int .i64 ((((κ j) : Nat) : Int))), (6, .bool false), (7, .pointer (some ⟨g13, 0, none⟩)), (8, .pointer (some ⟨g14, 0, none⟩)), (18, .bool ((((((κ i) : Nat) : Int) : Int) == ((((κ j) : Nat) : Int) : Int))))] ⟨rfl, rfl, rfl, rfl, rfl, rfl, rfl, trivial⟩ (by kernel_rfl) (by kernel_rfl) (by kernel_rfl) ?_ ?_
   ·refine ⟨⟨true, .none rfl, fun h w => optUndef h, fun zβ za zw zc => ?_⟩, ?_⟩
    ·exact fld_89_0 rfl (zc.kn.ev rfl) ⟨_, rfl, Below.refl _ _, optDef zβ rfl⟩
    refine ⟨⟨true, .none rfl, fun h w => optUndef h, fun zβ za zw zc => ?_⟩, ?_⟩
    ·exact ld_3 rfl ((evt za 33).trans (optVal (zc.dep 0 33 (by kernel_rfl)) rfl rfl)) (bkeeps zc.below _ _ ((hB27.cell 0).trans rfl)) ⟨_, rfl, Below.refl _ _, optDef zβ rfl⟩
    refine ⟨⟨true, .none rfl, fun h w => optUndef h, fun zβ za zw zc => ?_⟩, ?_⟩
    ·exact lss_3 rfl ((evt za 34).trans (optVal (zc.dep 1 34 (by kernel_rfl)) rfl rfl)) (zc.kn.ev rfl) ⟨_, rfl, Below.refl _ _, optDef zβ rfl⟩
    refine ⟨⟨true, .none rfl, fun h w => optUndef h, fun zβ za zw zc => ?_⟩, ?_⟩
    ·exact wp_move rfl ((evt za 35).trans (optVal (zc.dep 2 35 (by kernel_rfl)) rfl rfl)) ⟨_, rfl, Below.refl _ _, optDef zβ rfl⟩
    refine ⟨⟨_, .no (d := true) rfl (fun v w h => h), fun h w => optUndef h, fun zβ za zw zc => ?_⟩, ?_⟩
    ·exact fld_89_0 rfl (zc.kn.ev rfl) ⟨_, rfl, Below.refl _ _, optDef zβ rfl⟩
    refine ⟨⟨_, .no (d := true) rfl (fun v w h => h), fun h w => optUndef h, fun zβ za zw zc => ?_⟩, ?_⟩
    ·exact ld_3 rfl ((evt za 37).trans (optVal (zc.dep 4 37 (by kernel_rfl)) rfl zβ)) (bkeeps zc.below _ _ ((hB28.cell 0).trans rfl)) ⟨_, rfl, Below.refl _ _, optDef zβ rfl⟩
    refine ⟨⟨_, .no (d := true) rfl (fun v w h => h), fun h w => optUndef h, fun zβ za zw zc => ?_⟩, ?_⟩
    ·exact lss_3 rfl ((evt za 38).trans (optVal (zc.dep 5 38 (by kernel_rfl)) rfl zβ)) (zc.kn.ev rfl) ⟨_, rfl, Below.refl _ _, optDef zβ rfl⟩
    refine ⟨⟨true, .none rfl, fun h w => optUndef h, fun zβ za zw zc => ?_⟩, ?_⟩
    ·exact wp_or rfl ((evt za 36).trans (optVal (zc.dep 3 36 (by kernel_rfl)) rfl rfl)) (fun hp => ((evt za 39).trans (optVal (zc.dep 6 39 (by kernel_rfl)) rfl (bMkN zβ hp)))) ⟨_, rfl, Below.refl _ _, optDef zβ rfl⟩
    exact trivial
   ·intro za w29 zh hb30 zu
    have zh := zh.cons (d := 40) (v := .bool (((decide (((pget N ((κ i))).fn : Int) < (0 : Int))) || (decide (((pget N ((κ j))).fn : Int) < (0 : Int)))))) (optVal (zu 7 40 (by kernel_rfl)) rfl rfl)
    clear zu
    refine WE.go zh ?_
    refine WE.next ?_
    refine WC.cond rfl (fun h31 => ?_) (fun h31 => ?_)
    ·have h31 : (((pget N ((κ i))).fn : Int) < (0 : Int)) ∨ (((pget N ((κ j))).fn : Int) < (0 : Int)) := by simpa using h31
     refine WC.seq (WC.seq ?_)
     have hB32 := hB28.below hb30
     have hB33 := hB27.below hb30
     refine WC.opt [(true, .val (.pointer (some ⟨g14, 0, none⟩))), (true, .val (.int .i64 ((pget N ((κ j))).fn))), (true, .val (.bool ((decide ((0 : Int) ≤ ((pget N ((κ j))).fn : Int)))))), (true, .val (.bool ((decide ((0 : Int) ≤ ((pget N ((κ j))).fn : Int)))))), ((true && !(decide ((0 : Int) ≤ ((pget N ((κ j))).fn : Int)))), .val (.pointer (some ⟨g13, 0, none⟩))), ((true && !(decide ((0 : Int) ≤ ((pget N ((κ j))).fn : Int)))), .val (.int .i64 ((pget N ((κ i))).fn))), ((true && !(decide ((0 : Int) ≤ ((pget N ((κ j))).fn : Int)))), .val (.bool ((decide (((pget N ((κ i))).fn : Int) < (0 : Int)))))), ((true && !(decide ((0 : Int) ≤ ((pget N ((κ j))).fn : Int)))), .val (.bool ((decide (((pget N ((κ i))).fn : Int) < (0 : Int)))))), (((true && !(decide ((0 : Int) ≤ ((pget N ((κ j))).fn : Int)))) && (decide (((pget N ((κ i))).fn : Int) < (0 : Int)))), .val (.pointer (some ⟨g14, 0, none⟩))), (((true && !(decide ((0 : Int) ≤ ((pget N ((κ j))).fn : Int)))) && (decide (((pget N ((κ i))).fn : Int) < (0 : Int)))), .val (.int .i64 ((pget N ((κ j))).fn))), (((true && !(decide ((0 : Int) ≤ ((pget N ((κ j))).fn : Int)))) && (decide (((pget N ((κ i))).fn : Int) < (0 : Int)))), .val (.pointer (some ⟨g13, 0, none⟩))), (((true && !(decide ((0 : Int) ≤ ((pget N ((κ j))).fn : Int)))) && (decide (((pget N ((κ i))).fn : Int) < (0 : Int)))), .val (.int .i64 ((pget N ((κ i))).fn))), (((true && !(decide ((0 : Int) ≤ ((pget N ((κ j))).fn : Int)))) && (decide (((pget N ((κ i))).fn : Int) < (0 : Int)))), .val (.bool ((decide (((pget N ((κ i))).fn : Int) < ((pget N ((κ j))).fn : Int)))))), ((true && !(decide ((0 : Int) ≤ ((pget N ((κ j))).fn : Int)))), .val (.bool (((decide (((pget N ((κ i))).fn : Int) < (0 : Int))) && (decide (((pget N ((κ i))).fn : Int) < ((pget N ((κ j))).fn : Int))))))), (true, .val (.bool (((decide ((0 : Int) ≤ ((pget N ((κ j))).fn : Int))) || ((decide (((pget N ((κ i))).fn : Int) < (0 : Int))) && (decide (((pget N ((κ i))).fn : Int) < ((pget N ((κ j))).fn : Int))))))))] [(0, .pointer (some ⟨g, 0, none⟩)), (1, .int .i64 ((((κ i) : Nat) : Int))), (2, .int .i64 ((((κ j) : Nat) : Int))), (6, .bool false), (7, .pointer (some ⟨g13, 0, none⟩)), (8, .pointer (some ⟨g14, 0, none⟩)), (18, .bool ((((((κ i) : Nat) : Int) : Int) == ((((κ j) : Nat) : Int) : Int)))), (40, .bool (((decide (((pget N ((κ i))).fn : Int) < (0 : Int))) || (decide (((pget N ((κ j))).fn : Int) < (0 : Int))))))] ⟨rfl, rfl, rfl, rfl, rfl, rfl, rfl, rfl, trivial⟩ (by kernel_rfl) (by kernel_rfl) (by kernel_rfl) ?_ ?_
     ·refine ⟨⟨true, .none rfl, fun h w => optUndef h, fun zβ za zw zc => ?_⟩, ?_⟩
      ·exact fld_89_0 rfl (zc.kn.ev rfl) ⟨_, rfl, Below.refl _ _, optDef zβ rfl⟩
      refine ⟨⟨true, .none rfl, fun h w => optUndef h, fun zβ za zw zc => ?_⟩, ?_⟩
      ·exact ld_3 rfl ((evt za 41).trans (optVal (zc.dep 0 41 (by kernel_rfl)) rfl rfl)) (bkeeps zc.below _ _ ((hB32.cell 0).trans rfl)) ⟨_, rfl, Below.refl _ _, optDef zβ rfl⟩
      refine ⟨⟨true, .none rfl, fun h w => optUndef h, fun zβ za zw zc => ?_⟩, ?_⟩
      ·exact geq_3 rfl ((evt za 42).trans (optVal (zc.dep 1 42 (by kernel_rfl)) rfl rfl)) (zc.kn.ev rfl) ⟨_, rfl, Below.refl _ _, optDef zβ rfl⟩
      refine ⟨⟨true, .none rfl, fun h w => optUndef h, fun zβ za zw zc => ?_⟩, ?_⟩
      ·exact wp_move rfl ((evt za 43).trans (optVal (zc.dep 2 43 (by kernel_rfl)) rfl rfl)) ⟨_, rfl, Below.refl _ _, optDef zβ rfl⟩
      refine ⟨⟨_, .no (d := true) rfl (fun v w h => h), fun h w => optUndef h, fun zβ za zw zc => ?_⟩, ?_⟩
      ·exact fld_89_0 rfl (zc.kn.ev rfl) ⟨_, rfl, Below.refl _ _, optDef zβ rfl⟩
      refine ⟨⟨_, .no (d := true) rfl (fun v w h => h), fun h w => optUndef h, fun zβ za zw zc => ?_⟩, ?_⟩
      ·exact ld_3 rfl ((evt za 45).trans (optVal (zc.dep 4 45 (by kernel_rfl)) rfl zβ)) (bkeeps zc.below _ _ ((hB33.cell 0).trans rfl)) ⟨_, rfl, Below.refl _ _, optDef zβ rfl⟩
      refine ⟨⟨_, .no (d := true) rfl (fun v w h => h), fun h w => optUndef h, fun zβ za zw zc => ?_⟩, ?_⟩
      ·exact lss_3 rfl ((evt za 46).trans (optVal (zc.dep 5 46 (by kernel_rfl)) rfl zβ)) (zc.kn.ev rfl) ⟨_, rfl, Below.refl _ _, optDef zβ rfl⟩
      refine ⟨⟨_, .no (d := true) rfl (fun v w h => h), fun h w => optUndef h, fun zβ za zw zc => ?_⟩, ?_⟩
      ·exact wp_move rfl ((evt za 47).trans (optVal (zc.dep 6 47 (by kernel_rfl)) rfl zβ)) ⟨_, rfl, Below.refl _ _, optDef zβ rfl⟩
      refine ⟨⟨_, .yes (d := (true && !(decide ((0 : Int) ≤ ((pget N ((κ j))).fn : Int))))) rfl (fun v w h => h), fun h w => optUndef h, fun zβ za zw zc => ?_⟩, ?_⟩
      ·exact fld_89_0 rfl (zc.kn.ev rfl) ⟨_, rfl, Below.refl _ _, optDef zβ rfl⟩
      refine ⟨⟨_, .yes (d := (true && !(decide ((0 : Int) ≤ ((pget N ((κ j))).fn : Int))))) rfl (fun v w h => h), fun h w => optUndef h, fun zβ za zw zc => ?_⟩, ?_⟩
      ·exact ld_3 rfl ((evt za 49).trans (optVal (zc.dep 8 49 (by kernel_rfl)) rfl zβ)) (bkeeps zc.below _ _ ((hB32.cell 0).trans rfl)) ⟨_, rfl, Below.refl _ _, optDef zβ rfl⟩
      refine ⟨⟨_, .yes (d := (true && !(decide ((0 : Int) ≤ ((pget N ((κ j))).fn : Int))))) rfl (fun v w h => h), fun h w => optUndef h, fun zβ za zw zc => ?_⟩, ?_⟩
      ·exact fld_89_0 rfl (zc.kn.ev rfl) ⟨_, rfl, Below.refl _ _, optDef zβ rfl⟩
      refine ⟨⟨_, .yes (d := (true && !(decide ((0 : Int) ≤ ((pget N ((κ j))).fn : Int))))) rfl (fun v w h => h), fun h w => optUndef h, fun zβ za zw zc => ?_⟩, ?_⟩
      ·exact ld_3 rfl ((evt za 51).trans (optVal (zc.dep 10 51 (by kernel_rfl)) rfl zβ)) (bkeeps zc.below _ _ ((hB33.cell 0).trans rfl)) ⟨_, rfl, Below.refl _ _, optDef zβ rfl⟩
      refine ⟨⟨_, .yes (d := (true && !(decide ((0 : Int) ≤ ((pget N ((κ j))).fn : Int))))) rfl (fun v w h => h), fun h w => optUndef h, fun zβ za zw zc => ?_⟩, ?_⟩
      ·exact gtr_3 rfl ((evt za 50).trans (optVal (zc.dep 9 50 (by kernel_rfl)) rfl zβ)) ((evt za 52).trans (optVal (zc.dep 11 52 (by kernel_rfl)) rfl zβ)) ⟨_, rfl, Below.refl _ _, optDef zβ rfl⟩
      refine ⟨⟨_, .no (d := true) rfl (fun v w h => h), fun h w => optUndef h, fun zβ za zw zc => ?_⟩, ?_⟩
      ·exact wp_and rfl ((evt za 48).trans (optVal (zc.dep 7 48 (by kernel_rfl)) rfl zβ)) (fun hp => ((evt za 53).trans (optVal (zc.dep 12 53 (by kernel_rfl)) rfl (bMk zβ hp)))) ⟨_, rfl, Below.refl _ _, optDef zβ rfl⟩
      refine ⟨⟨true, .none rfl, fun h w => optUndef h, fun zβ za zw zc => ?_⟩, ?_⟩
      ·exact wp_or rfl ((evt za 44).trans (optVal (zc.dep 3 44 (by kernel_rfl)) rfl rfl)) (fun hp => ((evt za 54).trans (optVal (zc.dep 13 54 (by kernel_rfl)) rfl (bMkN zβ hp)))) ⟨_, rfl, Below.refl _ _, optDef zβ rfl⟩
      exact trivial
     ·intro za w34 zh hb35 zu
      have zh := zh.cons (d := 55) (v := .bool (((decide ((0 : Int) ≤ ((pget N ((κ j))).fn : Int))) || ((decide (((pget N ((κ i))).fn : Int) < (0 : Int))) && (decide (((pget N ((κ i))).fn : Int) < ((pget N ((κ j))).fn : Int))))))) (optVal (zu 14 55 (by kernel_rfl)) rfl rfl)
      clear zu
      refine WE.go zh ?_
      refine WE.next ?_
      refine WC.cond rfl (fun h36 => ?_) (fun h36 => ?_)
      ·have h36 : ((0 : Int) ≤ ((pget N ((κ j))).fn : Int)) ∨ ((((pget N ((κ i))).fn : Int) < (0 : Int)) ∧ (((pget N ((κ i))).fn : Int) < ((pget N ((κ j))).fn : Int))) := by simpa using h36
       refine WC.region (WL.mv rfl rfl rfl rfl rfl ?_)
       refine WL.val _ rfl rfl rfl (fun za zC zh zk => nilCheck_ rfl (zh.ev rfl) zk) ?_
       refine WL.val _ rfl rfl rfl (fun za zC zh zk => fld_79_1 rfl (zh.ev rfl) zk) ?_
       have hb38 : Below w5.heap.size w5 w34 := (bstep (bstep hb15 hb30) hb35)
       have ho37 := ho10.below hb38
       refine WL.val _ rfl rfl rfl (fun za zC zh zk => ld_31 rfl (zh.ev rfl) ho37.c1 zk) ?_
       refine WL.mv rfl rfl rfl rfl rfl (WL.mv rfl rfl rfl rfl rfl ?_)
       refine WL.val _ rfl rfl rfl (fun za zC zh zk => ix_31 (k := (κ i)) rfl (zh.ev rfl) rfl (zh.ev rfl) (by first | omega | (simp; omega)) zk) ?_
       have hB39 := hB33.below hb35
       have hB40 := hB32.below hb35
       have hb42 : Below w.heap.size w w34 := (bstep hb11 hb38)
       have ho41 := (hcP (κ i) hla).2.2.below hb42
       have ho43 := (hcP (κ j) hlb).2.2.below hb42
       have hC44 := Chg.trans hC0 (.ofBelow hb42)
       have hw7 : w.heap.size ≤ w34.heap.size := (hC44).size
       obtain ⟨⟨cs45, hB46, hs47⟩, hP48⟩ := PR.setU (i := ((κ i))) (v := (κ j)) ho37 (by omega)
       refine WL.step (post := fun _ w' => Chg (fun q => q = ub) w34 w' ∧ PR w' g S ((some ⟨ob, 0, none⟩), N.length, lc) ((some ⟨ub, 0, none⟩), N.length, uc) (some ⟨ob, 0, none⟩) lc N (some ⟨ub, 0, none⟩) uc ((U.set ((κ i)) ((κ j)))) vb vc V) rfl rfl rfl (fun za zC zh zk => st_3 rfl (zh.ev rfl) (zh.ev rfl) hB46 hs47 (fun v => zk v _ ⟨.ofUpd (Upd.at_ _ _ _ _) rfl, hP48⟩)) ?_
       rintro u49 w50 ⟨hu51, hP52⟩
       have hC53 := Chg.trans hC44 hu51
       have ha54 := ho41.chgS hu51 (fun q e h9 => hSub q e h9)
       have hb55 := ho43.chgS hu51 (fun q e h9 => hSub q e h9)
       have hB57 := chg_blk hB39 hu51 (fun e => by have e2 : g13 = ub := e; omega)
       have hB58 := chg_blk hB40 hu51 (fun e => by have e2 : g14 = ub := e; omega)
       refine WL.nil (WE.sub (K' := [(0, .pointer (some ⟨g, 0, none⟩)), (1, .int .i64 ((((κ i) : Nat) : Int))), (2, .int .i64 ((((κ j) : Nat) : Int))), (6, .bool false), (7, .pointer (some ⟨g13, 0, none⟩)), (8, .pointer (some ⟨g14, 0, none⟩)), (18, .bool ((((((κ i) : Nat) : Int) : Int) == ((((κ j) : Nat) : Int) : Int)))), (40, .bool (((decide (((pget N ((κ i))).fn : Int) < (0 : Int))) || (decide (((pget N ((κ j))).fn : Int) < (0 : Int)))))), (55, .bool (((decide ((0 : Int) ≤ ((pget N ((κ j))).fn : Int))) || ((decide (((pget N ((κ i))).fn : Int) < (0 : Int))) && (decide (((pget N ((κ i))).fn : Int) < ((pget N ((κ j))).fn : Int)))))))]) ⟨rfl, rfl, rfl, rfl, rfl, rfl, rfl, rfl, rfl, trivial⟩ ?_)
       refine WE.next (WC.seq (WC.region (WL.asg rfl rfl rfl rfl rfl (WL.nil (WE.next (WC.ret (WE.thenRet (WE.ret1 rfl rfl ?_))))))))
       have hst : stepM N κ (κ i) (κ j) = some (mrg κ (κ i) (κ j), []) := by
        unfold stepM; rw [if_pos (by omega)]
       have hR2 := hR.merge (a := (κ j)) (b := (κ i)) (by omega) (by omega) hkb hka (Ne.symm hne) hk.idem
       exact ⟨_, rfl, some _, Run.step (i := i) (j := j) hne hst (.nil _), rfl, hC53, fun κ2 e => by obtain rfl := Option.some.inj e; exact ⟨_, _, hR2, hP52, by rw [List.length_set]; exact hUl⟩⟩
      ·have h36 : ¬ (((0 : Int) ≤ ((pget N ((κ j))).fn : Int)) ∨ ((((pget N ((κ i))).fn : Int) < (0 : Int)) ∧ (((pget N ((κ i))).fn : Int) < ((pget N ((κ j))).fn : Int)))) := by simpa using h36
       refine WC.region (WL.mv rfl rfl rfl rfl rfl ?_)
       refine WL.val _ rfl rfl rfl (fun za zC zh zk => nilCheck_ rfl (zh.ev rfl) zk) ?_
       refine WL.val _ rfl rfl rfl (fun za zC zh zk => fld_79_1 rfl (zh.ev rfl) zk) ?_
       have hb60 : Below w5.heap.size w5 w34 := (bstep (bstep hb15 hb30) hb35)
       have ho59 := ho10.below hb60
       refine WL.val _ rfl rfl rfl (fun za zC zh zk => ld_31 rfl (zh.ev rfl) ho59.c1 zk) ?_
       refine WL.mv rfl rfl rfl rfl rfl (WL.mv rfl rfl rfl rfl rfl ?_)
       refine WL.val _ rfl rfl rfl (fun za zC zh zk => ix_31 (k := (κ j)) rfl (zh.ev rfl) rfl (zh.ev rfl) (by first | omega | (simp; omega)) zk) ?_
       have hB61 := hB33.below hb35
       have hB62 := hB32.below hb35
       have hb64 : Below w.heap.size w w34 := (bstep hb11 hb60)
       have ho63 := (hcP (κ i) hla).2.2.below hb64
       have ho65 := (hcP (κ j) hlb).2.2.below hb64
       have hC66 := Chg.trans hC0 (.ofBelow hb64)
       have hw7 : w.heap.size ≤ w34.heap.size := (hC66).size
       obtain ⟨⟨cs67, hB68, hs69⟩, hP70⟩ := PR.setU (i := ((κ j))) (v := (κ i)) ho59 (by omega)
       refine WL.step (post := fun _ w' => Chg (fun q => q = ub) w34 w' ∧ PR w' g S ((some ⟨ob, 0, none⟩), N.length, lc) ((some ⟨ub, 0, none⟩), N.length, uc) (some ⟨ob, 0, none⟩) lc N (some ⟨ub, 0, none⟩) uc ((U.set ((κ j)) ((κ i)))) vb vc V) rfl rfl rfl (fun za zC zh zk => st_3 rfl (zh.ev rfl) (zh.ev rfl) hB68 hs69 (fun v => zk v _ ⟨.ofUpd (Upd.at_ _ _ _ _) rfl, hP70⟩)) ?_
       rintro u71 w72 ⟨hu73, hP74⟩
       have hC75 := Chg.trans hC66 hu73
       have ha76 := ho63.chgS hu73 (fun q e h9 => hSub q e h9)
       have hb77 := ho65.chgS hu73 (fun q e h9 => hSub q e h9)
       have hB79 := chg_blk hB61 hu73 (fun e => by have e2 : g13 = ub := e; omega)
       have hB80 := chg_blk hB62 hu73 (fun e => by have e2 : g14 = ub := e; omega)
       refine WL.nil (WE.sub (K' := [(0, .pointer (some ⟨g, 0, none⟩)), (1, .int .i64 ((((κ i) : Nat) : Int))), (2, .int .i64 ((((κ j) : Nat) : Int))), (6, .bool false), (7, .pointer (some ⟨g13, 0, none⟩)), (8, .pointer (some ⟨g14, 0, none⟩)), (18, .bool ((((((κ i) : Nat) : Int) : Int) == ((((κ j) : Nat) : Int) : Int)))), (40, .bool (((decide (((pget N ((κ i))).fn : Int) < (0 : Int))) || (decide (((pget N ((κ j))).fn : Int) < (0 : Int)))))), (55, .bool (((decide ((0 : Int) ≤ ((pget N ((κ j))).fn : Int))) || ((decide (((pget N ((κ i))).fn : Int) < (0 : Int))) && (decide (((pget N ((κ i))).fn : Int) < ((pget N ((κ j))).fn : Int)))))))]) ⟨rfl, rfl, rfl, rfl, rfl, rfl, rfl, rfl, rfl, trivial⟩ ?_)
       refine WE.next (WC.seq (WC.region (WL.asg rfl rfl rfl rfl rfl (WL.nil (WE.next (WC.ret (WE.thenRet (WE.ret1 rfl rfl ?_))))))))
       have hst : stepM N κ (κ i) (κ j) = some (mrg κ (κ j) (κ i), []) := by
        unfold stepM; rw [if_neg (by omega), if_pos (by omega)]
       have hR2 := hR.merge (a := (κ i)) (b := (κ j)) (by omega) (by omega) hka hkb hne hk.idem
       exact ⟨_, rfl, some _, Run.step (i := i) (j := j) hne hst (.nil _), rfl, hC75, fun κ2 e => by obtain rfl := Option.some.inj e; exact ⟨_, _, hR2, hP74, by rw [List.length_set]; exact hUl⟩⟩
    ·have h31 : ¬ ((((pget N ((κ i))).fn : Int) < (0 : Int)) ∨ (((pget N ((κ j))).fn : Int) < (0 : Int))) := by simpa using h31
     refine WC.skip (WE.next (WC.seq (WC.seq ?_)))
     have hB81 := hB27.below hb30
     have hB82 := hB28.below hb30
     refine WC.opt [(true, .val (.pointer (some ⟨g13, 0, none⟩))), (true, .val (.int .i64 ((pget N ((κ i))).fn))), (true, .val (.pointer (some ⟨g14, 0, none⟩))), (true, .val (.int .i64 ((pget N ((κ j))).fn))), (true, .val (.bool ((((pget N ((κ i))).fn : Int) != ((pget N ((κ j))).fn : Int))))), (true, .val (.bool ((((pget N ((κ i))).fn : Int) != ((pget N ((κ j))).fn : Int))))), ((true && !(((pget N ((κ i))).fn : Int) != ((pget N ((κ j))).fn : Int))), .val (.pointer (some ⟨g13, 1, none⟩))), ((true && !(((pget N ((κ i))).fn : Int) != ((pget N ((κ j))).fn : Int))), .val (.slice ((A9 ((κ i)))) ((pget N ((κ i))).args.length) ((C9 ((κ i)))))), ((true && !(((pget N ((κ i))).fn : Int) != ((pget N ((κ j))).fn : Int))), .val (.int .i64 ((((pget N ((κ i))).args.length : Nat) : Int)))), ((true && !(((pget N ((κ i))).fn : Int) != ((pget N ((κ j))).fn : Int))), .val (.pointer (some ⟨g14, 1, none⟩))), ((true && !(((pget N ((κ i))).fn : Int) != ((pget N ((κ j))).fn : Int))), .val (.slice ((A9 ((κ j)))) ((pget N ((κ j))).args.length) ((C9 ((κ j)))))), ((true && !(((pget N ((κ i))).fn : Int) != ((pget N ((κ j))).fn : Int))), .val (.int .i64 ((((pget N ((κ j))).args.length : Nat) : Int)))), ((true && !(((pget N ((κ i))).fn : Int) != ((pget N ((κ j))).fn : Int))), .val (.bool ((((((pget N ((κ i))).args.length : Nat) : Int) : Int) != ((((pget N ((κ j))).args.length : Nat) : Int) : Int))))), (true, .val (.bool (((((pget N ((κ i))).fn : Int) != ((pget N ((κ j))).fn : Int)) || (((((pget N ((κ i))).args.length : Nat) : Int) : Int) != ((((pget N ((κ j))).args.length : Nat) : Int) : Int))))))] [(0, .pointer (some ⟨g, 0, none⟩)), (1, .int .i64 ((((κ i) : Nat) : Int))), (2, .int .i64 ((((κ j) : Nat) : Int))), (6, .bool false), (7, .pointer (some ⟨g13, 0, none⟩)), (8, .pointer (some ⟨g14, 0, none⟩)), (18, .bool ((((((κ i) : Nat) : Int) : Int) == ((((κ j) : Nat) : Int) : Int)))), (40, .bool (((decide (((pget N ((κ i))).fn : Int) < (0 : Int))) || (decide (((pget N ((κ j))).fn : Int) < (0 : Int))))))] ⟨rfl, rfl, rfl, rfl, rfl, rfl, rfl, rfl, trivial⟩ (by kernel_rfl) (by kernel_rfl) (by kernel_rfl) ?_ ?_
     ·refine ⟨⟨true, .none rfl, fun h w => optUndef h, fun zβ za zw zc => ?_⟩, ?_⟩
      ·exact fld_89_0 rfl (zc.kn.ev rfl) ⟨_, rfl, Below.refl _ _, optDef zβ rfl⟩
      refine ⟨⟨true, .none rfl, fun h w => optUndef h, fun zβ za zw zc => ?_⟩, ?_⟩
      ·exact ld_3 rfl ((evt za 70).trans (optVal (zc.dep 0 70 (by kernel_rfl)) rfl rfl)) (bkeeps zc.below _ _ ((hB81.cell 0).trans rfl)) ⟨_, rfl, Below.refl _ _, optDef zβ rfl⟩
      refine ⟨⟨true, .none rfl, fun h w => optUndef h, fun zβ za zw zc => ?_⟩, ?_⟩
      ·exact fld_89_0 rfl (zc.kn.ev rfl) ⟨_, rfl, Below.refl _ _, optDef zβ rfl⟩
      refine ⟨⟨true, .none rfl, fun h w => optUndef h, fun zβ za zw zc => ?_⟩, ?_⟩
      ·exact ld_3 rfl ((evt za 72).trans (optVal (zc.dep 2 72 (by kernel_rfl)) rfl rfl)) (bkeeps zc.below _ _ ((hB82.cell 0).trans rfl)) ⟨_, rfl, Below.refl _ _, optDef zβ rfl⟩
      refine ⟨⟨true, .none rfl, fun h w => optUndef h, fun zβ za zw zc => ?_⟩, ?_⟩
      ·exact neq_3 rfl ((evt za 71).trans (optVal (zc.dep 1 71 (by kernel_rfl)) rfl rfl)) ((evt za 73).trans (optVal (zc.dep 3 73 (by kernel_rfl)) rfl rfl)) ⟨_, rfl, Below.refl _ _, optDef zβ rfl⟩
      refine ⟨⟨true, .none rfl, fun h w => optUndef h, fun zβ za zw zc => ?_⟩, ?_⟩
      ·exact wp_move rfl ((evt za 74).trans (optVal (zc.dep 4 74 (by kernel_rfl)) rfl rfl)) ⟨_, rfl, Below.refl _ _, optDef zβ rfl⟩
      refine ⟨⟨_, .no (d := true) rfl (fun v w h => h), fun h w => optUndef h, fun zβ za zw zc => ?_⟩, ?_⟩
      ·exact fld_89_1 rfl (zc.kn.ev rfl) ⟨_, rfl, Below.refl _ _, optDef zβ rfl⟩
      refine ⟨⟨_, .no (d := true) rfl (fun v w h => h), fun h w => optUndef h, fun zβ za zw zc => ?_⟩, ?_⟩
      ·exact ld_31 rfl ((evt za 76).trans (optVal (zc.dep 6 76 (by kernel_rfl)) rfl zβ)) (bkeeps zc.below _ _ ((hB81.cell 1).trans rfl)) ⟨_, rfl, Below.refl _ _, optDef zβ rfl⟩
      refine ⟨⟨_, .no (d := true) rfl (fun v w h => h), fun h w => optUndef h, fun zβ za zw zc => ?_⟩, ?_⟩
      ·exact len_31 rfl ((evt za 77).trans (optVal (zc.dep 7 77 (by kernel_rfl)) rfl zβ)) ⟨_, rfl, Below.refl _ _, optDef zβ rfl⟩
      refine ⟨⟨_, .no (d := true) rfl (fun v w h => h), fun h w => optUndef h, fun zβ za zw zc => ?_⟩, ?_⟩
      ·exact fld_89_1 rfl (zc.kn.ev rfl) ⟨_, rfl, Below.refl _ _, optDef zβ rfl⟩
      refine ⟨⟨_, .no (d := true) rfl (fun v w h => h), fun h w => optUndef h, fun zβ za zw zc => ?_⟩, ?_⟩
      ·exact ld_31 rfl ((evt za 79).trans (optVal (zc.dep 9 79 (by kernel_rfl)) rfl zβ)) (bkeeps zc.below _ _ ((hB82.cell 1).trans rfl)) ⟨_, rfl, Below.refl _ _, optDef zβ rfl⟩
      refine ⟨⟨_, .no (d := true) rfl (fun v w h => h), fun h w => optUndef h, fun zβ za zw zc => ?_⟩, ?_⟩
      ·exact len_31 rfl ((evt za 80).trans (optVal (zc.dep 10 80 (by kernel_rfl)) rfl zβ)) ⟨_, rfl, Below.refl _ _, optDef zβ rfl⟩
      refine ⟨⟨_, .no (d := true) rfl (fun v w h => h), fun h w => optUndef h, fun zβ za zw zc => ?_⟩, ?_⟩
      ·exact neq_3 rfl ((evt za 78).trans (optVal (zc.dep 8 78 (by kernel_rfl)) rfl zβ)) ((evt za 81).trans (optVal (zc.dep 11 81 (by kernel_rfl)) rfl zβ)) ⟨_, rfl, Below.refl _ _, optDef zβ rfl⟩
      refine ⟨⟨true, .none rfl, fun h w => optUndef h, fun zβ za zw zc => ?_⟩, ?_⟩
      ·exact wp_or rfl ((evt za 75).trans (optVal (zc.dep 5 75 (by kernel_rfl)) rfl rfl)) (fun hp => ((evt za 82).trans (optVal (zc.dep 12 82 (by kernel_rfl)) rfl (bMkN zβ hp)))) ⟨_, rfl, Below.refl _ _, optDef zβ rfl⟩
      exact trivial
     ·intro za w83 zh hb84 zu
      have zh := zh.cons (d := 83) (v := .bool (((((pget N ((κ i))).fn : Int) != ((pget N ((κ j))).fn : Int)) || (((((pget N ((κ i))).args.length : Nat) : Int) : Int) != ((((pget N ((κ j))).args.length : Nat) : Int) : Int))))) (optVal (zu 13 83 (by kernel_rfl)) rfl rfl)
      clear zu
      refine WE.go zh ?_
      refine WE.next ?_
      refine WC.cond rfl (fun h85 => ?_) (fun h85 => ?_)
      ·have h85 : (((pget N ((κ i))).fn : Int) ≠ ((pget N ((κ j))).fn : Int)) ∨ (((((pget N ((κ i))).args.length : Nat) : Int) : Int) ≠ ((((pget N ((κ j))).args.length : Nat) : Int) : Int)) := by simpa using h85
       refine WC.seq (WC.region (WL.asg rfl rfl rfl rfl rfl ?_))
       refine WL.nil (WE.sub (K' := [(0, .pointer (some ⟨g, 0, none⟩)), (1, .int .i64 ((((κ i) : Nat) : Int))), (2, .int .i64 ((((κ j) : Nat) : Int))), (6, .bool false), (7, .pointer (some ⟨g13, 0, none⟩)), (8, .pointer (some ⟨g14, 0, none⟩)), (18, .bool ((((((κ i) : Nat) : Int) : Int) == ((((κ j) : Nat) : Int) : Int)))), (40, .bool (((decide (((pget N ((κ i))).fn : Int) < (0 : Int))) || (decide (((pget N ((κ j))).fn : Int) < (0 : Int)))))), (83, .bool (((((pget N ((κ i))).fn : Int) != ((pget N ((κ j))).fn : Int)) || (((((pget N ((κ i))).args.length : Nat) : Int) : Int) != ((((pget N ((κ j))).args.length : Nat) : Int) : Int)))))]) ⟨rfl, rfl, rfl, rfl, rfl, rfl, rfl, rfl, rfl, trivial⟩ ?_)
       refine WE.next (WC.ret (WE.thenRet (WE.ret1 rfl rfl ?_)))
       have hb87 : Below w.heap.size w w83 := (bstep (bstep (bstep hb11 hb15) hb30) hb84)
       have hC86 := Chg.trans hC0 (.ofBelow hb87)
       have hst : stepM N κ (κ i) (κ j) = none := by
        unfold stepM; rw [if_neg (by omega), if_neg (by omega), if_pos (by omega)]
       exact ⟨_, rfl, none, Run.clash (i := i) (j := j) hne hst, rfl, hC86, fun κ2 e => nomatch e⟩
      ·have h85 : ¬ ((((pget N ((κ i))).fn : Int) ≠ ((pget N ((κ j))).fn : Int)) ∨ (((((pget N ((κ i))).args.length : Nat) : Int) : Int) ≠ ((((pget N ((κ j))).args.length : Nat) : Int) : Int))) := by simpa using h85
       refine WC.skip (WE.next (WC.seq (WC.region (WL.mv rfl rfl rfl rfl rfl ?_))))
       refine WL.val _ rfl rfl rfl (fun za zC zh zk => nilCheck_ rfl (zh.ev rfl) zk) ?_
       refine WL.val _ rfl rfl rfl (fun za zC zh zk => fld_79_1 rfl (zh.ev rfl) zk) ?_
       have hb89 : Below w5.heap.size w5 w83 := (bstep (bstep hb15 hb30) hb84)
       have ho88 := ho10.below hb89
       refine WL.val _ rfl rfl rfl (fun za zC zh zk => ld_31 rfl (zh.ev rfl) ho88.c1 zk) ?_
       refine WL.mv rfl rfl rfl rfl rfl (WL.mv rfl rfl rfl rfl rfl ?_)
       refine WL.val _ rfl rfl rfl (fun za zC zh zk => ix_31 (k := (κ j)) rfl (zh.ev rfl) rfl (zh.ev rfl) (by first | omega | (simp; omega)) zk) ?_
       have hB90 := hB81.below hb84
       have hB91 := hB82.below hb84
       have hb93 : Below w.heap.size w w83 := (bstep hb11 hb89)
       have ho92 := (hcP (κ i) hla).2.2.below hb93
       have ho94 := (hcP (κ j) hlb).2.2.below hb93
       have hC95 := Chg.trans hC0 (.ofBelow hb93)
       have hw7 : w.heap.size ≤ w83.heap.size := (hC95).size
       obtain ⟨⟨cs96, hB97, hs98⟩, hP99⟩ := PR.setU (i := ((κ j))) (v := (κ i)) ho88 (by omega)
       refine WL.step (post := fun _ w' => Chg (fun q => q = ub) w83 w' ∧ PR w' g S ((some ⟨ob, 0, none⟩), N.length, lc) ((some ⟨ub, 0, none⟩), N.length, uc) (some ⟨ob, 0, none⟩) lc N (some ⟨ub, 0, none⟩) uc ((U.set ((κ j)) ((κ i)))) vb vc V) rfl rfl rfl (fun za zC zh zk => st_3 rfl (zh.ev rfl) (zh.ev rfl) hB97 hs98 (fun v => zk v _ ⟨.ofUpd (Upd.at_ _ _ _ _) rfl, hP99⟩)) ?_
       rintro u100 w101 ⟨hu102, hP103⟩
       have hC104 := Chg.trans hC95 hu102
       have ha105 := ho92.chgS hu102 (fun q e h9 => hSub q e h9)
       have hb106 := ho94.chgS hu102 (fun q e h9 => hSub q e h9)
       have hB108 := chg_blk hB90 hu102 (fun e => by have e2 : g13 = ub := e; omega)
       have hB109 := chg_blk hB91 hu102 (fun e => by have e2 : g14 = ub := e; omega)
       refine WL.nil (WE.sub (K' := [(0, .pointer (some ⟨g, 0, none⟩)), (1, .int .i64 ((((κ i) : Nat) : Int))), (2, .int .i64 ((((κ j) : Nat) : Int))), (6, .bool false), (7, .pointer (some ⟨g13, 0, none⟩)), (8, .pointer (some ⟨g14, 0, none⟩)), (18, .bool ((((((κ i) : Nat) : Int) : Int) == ((((κ j) : Nat) : Int) : Int)))), (40, .bool (((decide (((pget N ((κ i))).fn : Int) < (0 : Int))) || (decide (((pget N ((κ j))).fn : Int) < (0 : Int)))))), (83, .bool (((((pget N ((κ i))).fn : Int) != ((pget N ((κ j))).fn : Int)) || (((((pget N ((κ i))).args.length : Nat) : Int) : Int) != ((((pget N ((κ j))).args.length : Nat) : Int) : Int)))))]) ⟨rfl, rfl, rfl, rfl, rfl, rfl, rfl, rfl, rfl, trivial⟩ ?_)
       refine WE.next (WC.seq (WC.seq (WC.region (WL.asg rfl rfl rfl rfl rfl (WL.nil (WE.next (WC.block ?_)))))))
       have hlen9 : (pget N (κ i)).args.length = (pget N (κ j)).args.length := by omega
       have hst : stepM N κ (κ i) (κ j) = some (mrg κ (κ j) (κ i), ((pget N (κ i)).args.zip (pget N (κ j)).args)) := by
        unfold stepM; rw [if_neg (by omega), if_neg (by omega), if_neg (by omega)]
       have hR2 := hR.merge (a := κ i) (b := κ j) (by omega) (by omega) hka hkb hne hk.idem
       have hk2 := stepM_kok hk hka hkb hne hla hlb hst
       have hs2 := stepM_sum hka hkb hne hla hlb hst
       rw [List.length_zip] at hs2
       have hI2 := stepM_inr hN hla hlb hst
       refine WC.loop (X := RS) (fun x => (pget N (κ i)).args.length - x.k) (fun x => [(0, .pointer (some ⟨g, 0, none⟩)), (1, .int .i64 ((((κ i) : Nat) : Int))), (2, .int .i64 ((((κ j) : Nat) : Int))), (7, .pointer (some ⟨g13, 0, none⟩)), (8, .pointer (some ⟨g14, 0, none⟩)), (9, .int .i64 (((x.k : Nat) : Int))), (18, .bool ((((((κ i) : Nat) : Int) : Int) == ((((κ j) : Nat) : Int) : Int)))), (40, .bool (((decide (((pget N ((κ i))).fn : Int) < (0 : Int))) || (decide (((pget N ((κ j))).fn : Int) < (0 : Int)))))), (83, .bool (((((pget N ((κ i))).fn : Int) != ((pget N ((κ j))).fn : Int)) || (((((pget N ((κ i))).args.length : Nat) : Int) : Int) != ((((pget N ((κ j))).args.length : Nat) : Int) : Int)))))]) (fun x w110 => x.k ≤ (pget N (κ i)).args.length ∧ Reps x.U x.κ x.d ∧ x.U.length = N.length ∧ Run false N (((pget N (κ i)).args.zip (pget N (κ j)).args).take x.k) (mrg κ (κ j) (κ i)) (some x.κ) ∧ Chg (fun b => b = ub) w w110 ∧ Blk w110 g13 89 #[.int .i64 ((pget N ((κ i))).fn), .slice ((A9 ((κ i)))) ((pget N ((κ i))).args.length) ((C9 ((κ i))))] ∧ Blk w110 g14 89 #[.int .i64 ((pget N ((κ j))).fn), .slice ((A9 ((κ j)))) ((pget N ((κ j))).args.length) ((C9 ((κ j))))] ∧ PR (w110) g S ((some ⟨ob, 0, none⟩), N.length, lc) ((some ⟨ub, 0, none⟩), N.length, uc) (some ⟨ob, 0, none⟩) lc N (some ⟨ub, 0, none⟩) uc x.U vb vc V ∧ InRow eltN S (w110) (pget N (κ i)).args (A9 (κ i)) ∧ InRow eltN S (w110) (pget N (κ j)).args (A9 (κ j))) (⟨0, mrg κ (κ j) (κ i), (fun z => if κ z = κ j then d z + d (κ i) + 1 else d z), (U.set ((κ j)) ((κ i)))⟩) ⟨rfl, rfl, rfl, rfl, rfl, rfl, rfl, rfl, rfl, trivial⟩ ?_ ?_
       ·exact ⟨Nat.zero_le _, hR2, (by rw [List.length_set]; exact hUl), Run.nil _, hC104, hB108, hB109, hP103, ha105, hb106⟩
       ·rintro x w110 ⟨hkx, hRx, hUx, hrx, hCx, hB111, hB112, ho113, ho114, ho115⟩
        have hwx := hCx.size
        refine WC.seq (WC.seq (WC.region (WL.mv rfl rfl rfl rfl rfl ?_)))
        refine WL.val _ rfl rfl rfl (fun za zC zh zk => fld_89_1 rfl (zh.ev rfl) zk) ?_
        refine WL.val _ rfl rfl rfl (fun za zC zh zk => ld_31 rfl (zh.ev rfl) ((hB111.cell 1).trans rfl) zk) ?_
        refine WL.val (.int .i64 ((((pget N ((κ i))).args.length : Nat) : Int))) rfl rfl rfl (fun za zC zh zk => len_31 rfl (zh.ev rfl) zk) ?_
        refine WL.val (.bool ((decide ((((x.k : Nat) : Int) : Int) < ((((pget N ((κ i))).args.length : Nat) : Int) : Int))))) rfl rfl rfl (fun za zC zh zk => lss_3 rfl (zh.ev rfl) (zh.ev rfl) zk) ?_
        refine WL.nil (WE.next ?_)
        refine WC.cond rfl (fun h116 => ?_) (fun h116 => ?_)
        ·have h116 : (((x.k : Nat) : Int) : Int) < ((((pget N ((κ i))).args.length : Nat) : Int) : Int) := by simpa using h116
         refine WC.skip (WE.next (WC.seq (WC.block (WC.seq ?_))))
         have hkl : x.k < (pget N (κ i)).args.length := by omega
         have hka9 : (aget (pget N (κ i)).args x.k) < N.length ∧ (aget (pget N (κ j)).args x.k) < N.length := hI2 _ (mem_zip hkl hlen9)
         have hkp := Run.keep hN hrx hk2 (fun p hp => hI2 p (List.mem_of_mem_take hp)) x.κ rfl
         have hGV9 : ∀ (vals : List Value) (wa wb : World), Below wa.heap.size wa wb → (fun vals wz => match vals with | [] => PR wz g S ((some ⟨ob, 0, none⟩), N.length, lc) ((some ⟨ub, 0, none⟩), N.length, uc) (some ⟨ob, 0, none⟩) lc N (some ⟨ub, 0, none⟩) uc x.U vb vc V | [z0] => ∃ oo, Run false N [((aget (pget N (κ i)).args x.k), (aget (pget N (κ j)).args x.k))] x.κ oo ∧ z0 = .bool oo.isSome ∧ ∀ κ9, oo = some κ9 → ∃ U8 d8, Reps U8 κ9 d8 ∧ PR wz g S ((some ⟨ob, 0, none⟩), N.length, lc) ((some ⟨ub, 0, none⟩), N.length, uc) (some ⟨ob, 0, none⟩) lc N (some ⟨ub, 0, none⟩) uc U8 vb vc V ∧ U8.length = N.length | [_, z1] => ∃ oo, Run false N [((aget (pget N (κ i)).args x.k), (aget (pget N (κ j)).args x.k))] x.κ oo ∧ z1 = .bool (!oo.isSome) ∧ ∀ κ9, oo = some κ9 → ∃ U8 d8, Reps U8 κ9 d8 ∧ PR wz g S ((some ⟨ob, 0, none⟩), N.length, lc) ((some ⟨ub, 0, none⟩), N.length, uc) (some ⟨ob, 0, none⟩) lc N (some ⟨ub, 0, none⟩) uc U8 vb vc V ∧ U8.length = N.length | _ => False) vals wa → (fun vals wz => match vals with | [] => PR wz g S ((some ⟨ob, 0, none⟩), N.length, lc) ((some ⟨ub, 0, none⟩), N.length, uc) (some ⟨ob, 0, none⟩) lc N (some ⟨ub, 0, none⟩) uc x.U vb vc V | [z0] => ∃ oo, Run false N [((aget (pget N (κ i)).args x.k), (aget (pget N (κ j)).args x.k))] x.κ oo ∧ z0 = .bool oo.isSome ∧ ∀ κ9, oo = some κ9 → ∃ U8 d8, Reps U8 κ9 d8 ∧ PR wz g S ((some ⟨ob, 0, none⟩), N.length, lc) ((some ⟨ub, 0, none⟩), N.length, uc) (some ⟨ob, 0, none⟩) lc N (some ⟨ub, 0, none⟩) uc U8 vb vc V ∧ U8.length = N.length | [_, z1] => ∃ oo, Run false N [((aget (pget N (κ i)).args x.k), (aget (pget N (κ j)).args x.k))] x.κ oo ∧ z1 = .bool (!oo.isSome) ∧ ∀ κ9, oo = some κ9 → ∃ U8 d8, Reps U8 κ9 d8 ∧ PR wz g S ((some ⟨ob, 0, none⟩), N.length, lc) ((some ⟨ub, 0, none⟩), N.length, uc) (some ⟨ob, 0, none⟩) lc N (some ⟨ub, 0, none⟩) uc U8 vb vc V ∧ U8.length = N.length | _ => False) vals wb := by
          intro vals wa wb hb h
          match vals, h with
          | [], h => exact PR.below h hb
          | [z0], h =>
           obtain ⟨oo, k1, k2, k3⟩ := h
           exact ⟨oo, k1, k2, fun κ9 e => by obtain ⟨U8, d8, m1, m2, m3⟩ := k3 κ9 e; exact ⟨U8, d8, m1, m2.below hb, m3⟩⟩
          | [_, z1], h =>
           obtain ⟨oo, k1, k2, k3⟩ := h
           exact ⟨oo, k1, k2, fun κ9 e => by obtain ⟨U8, d8, m1, m2, m3⟩ := k3 κ9 e; exact ⟨U8, d8, m1, m2.below hb, m3⟩⟩
         obtain ⟨b117, o118, ha119, hS120, hc121⟩ := InRow.openNS ho114
         have hSb122 := hS120 x.k (by first | omega | (simp; omega))
         obtain ⟨b123, o124, ha125, hS126, hc127⟩ := InRow.openNS ho115
         have hSb128 := hS126 x.k (by first | omega | (simp; omega))
         refine WC.seqV (S := ((fun b => b = ub))) [(true, .val (.pointer (some ⟨g, 0, none⟩))), (true, .val (.pointer (some ⟨g13, 1, none⟩))), (true, .val (.slice ((A9 ((κ i)))) ((pget N ((κ i))).args.length) ((C9 ((κ i)))))), (true, .val (.int .i64 (((x.k : Nat) : Int)))), (true, .val (.pointer (some ⟨b117, o118 + x.k, none⟩))), (true, .val (.int .i64 ((((aget ((pget N (κ i)).args) x.k) : Nat) : Int)))), (true, .val (.pointer (some ⟨g14, 1, none⟩))), (true, .val (.slice ((A9 ((κ j)))) ((pget N ((κ j))).args.length) ((C9 ((κ j)))))), (true, .val (.int .i64 (((x.k : Nat) : Int)))), (true, .val (.pointer (some ⟨b123, o124 + x.k, none⟩))), (true, .val (.int .i64 ((((aget ((pget N (κ j)).args) x.k) : Nat) : Int)))), (true, .val undef), (true, .val undef)] [(0, .pointer (some ⟨g, 0, none⟩)), (1, .int .i64 ((((κ i) : Nat) : Int))), (2, .int .i64 ((((κ j) : Nat) : Int))), (7, .pointer (some ⟨g13, 0, none⟩)), (8, .pointer (some ⟨g14, 0, none⟩)), (9, .int .i64 (((x.k : Nat) : Int))), (18, .bool ((((((κ i) : Nat) : Int) : Int) == ((((κ j) : Nat) : Int) : Int)))), (40, .bool (((decide (((pget N ((κ i))).fn : Int) < (0 : Int))) || (decide (((pget N ((κ j))).fn : Int) < (0 : Int)))))), (83, .bool (((((pget N ((κ i))).fn : Int) != ((pget N ((κ j))).fn : Int)) || (((((pget N ((κ i))).args.length : Nat) : Int) : Int) != ((((pget N ((κ j))).args.length : Nat) : Int) : Int))))), (95, .bool ((decide ((((x.k : Nat) : Int) : Int) < ((((pget N ((κ i))).args.length : Nat) : Int) : Int)))))] [11, 12] [none, none] (fun vals wz => match vals with | [] => PR wz g S ((some ⟨ob, 0, none⟩), N.length, lc) ((some ⟨ub, 0, none⟩), N.length, uc) (some ⟨ob, 0, none⟩) lc N (some ⟨ub, 0, none⟩) uc x.U vb vc V | [z0] => ∃ oo, Run false N [((aget (pget N (κ i)).args x.k), (aget (pget N (κ j)).args x.k))] x.κ oo ∧ z0 = .bool oo.isSome ∧ ∀ κ9, oo = some κ9 → ∃ U8 d8, Reps U8 κ9 d8 ∧ PR wz g S ((some ⟨ob, 0, none⟩), N.length, lc) ((some ⟨ub, 0, none⟩), N.length, uc) (some ⟨ob, 0, none⟩) lc N (some ⟨ub, 0, none⟩) uc U8 vb vc V ∧ U8.length = N.length | [_, z1] => ∃ oo, Run false N [((aget (pget N (κ i)).args x.k), (aget (pget N (κ j)).args x.k))] x.κ oo ∧ z1 = .bool (!oo.isSome) ∧ ∀ κ9, oo = some κ9 → ∃ U8 d8, Reps U8 κ9 d8 ∧ PR wz g S ((some ⟨ob, 0, none⟩), N.length, lc) ((some ⟨ub, 0, none⟩), N.length, uc) (some ⟨ob, 0, none⟩) lc N (some ⟨ub, 0, none⟩) uc U8 vb vc V ∧ U8.length = N.length | _ => False) hGV9 (by decide) ⟨rfl, rfl, rfl, rfl, rfl, rfl, rfl, rfl, rfl, rfl, trivial⟩ (by kernel_rfl) (by kernel_rfl) (by kernel_rfl) (by kernel_rfl) ho113 ?_ ?_
         ·refine ⟨.inl ⟨rfl, true, .none rfl, (fun gg b h => by cases h), fun h w => optUndef h, fun zβ za zw zc => ?_⟩, ?_⟩
          ·exact wp_move rfl (zc.kn.ev rfl) ⟨_, rfl, Below.refl _ _, optDef zβ rfl⟩
          refine ⟨.inl ⟨rfl, true, .none rfl, (fun gg b h => by cases h), fun h w => optUndef h, fun zβ za zw zc => ?_⟩, ?_⟩
          ·exact fld_89_1 rfl (zc.kn.ev rfl) ⟨_, rfl, Below.refl _ _, optDef zβ rfl⟩
          refine ⟨.inl ⟨rfl, true, .none rfl, (fun gg b h => by cases h), fun h w => optUndef h, fun zβ za zw zc => ?_⟩, ?_⟩
          ·exact ld_31 rfl ((evt za 99).trans (optSVal (zc.dep 1 99 (by kernel_rfl) (by decide)) rfl rfl)) (chg_cell zc.chg (by first | exact hSub _ (by assumption) | (intro e; (try dsimp only at e); omega)) ((hB111.cell 1).trans rfl)) ⟨_, rfl, Below.refl _ _, optDef zβ rfl⟩
          refine ⟨.inl ⟨rfl, true, .none rfl, (fun gg b h => by cases h), fun h w => optUndef h, fun zβ za zw zc => ?_⟩, ?_⟩
          ·exact wp_move rfl (zc.kn.ev rfl) ⟨_, rfl, Below.refl _ _, optDef zβ rfl⟩
          refine ⟨.inl ⟨rfl, true, .none rfl, (fun gg b h => by cases h), fun h w => optUndef h, fun zβ za zw zc => ?_⟩, ?_⟩
          ·exact ix_31 (k := x.k) rfl ((evt za 100).trans (optSVal (zc.dep 2 100 (by kernel_rfl) (by decide)) rfl rfl)) (ha119 x.k (by first | omega | (simp; omega))) ((evt za 101).trans (optSVal (zc.dep 3 101 (by kernel_rfl) (by decide)) rfl rfl)) (by first | omega | (simp; omega)) ⟨_, rfl, Below.refl _ _, optDef zβ rfl⟩
          refine ⟨.inl ⟨rfl, true, .none rfl, (fun gg b h => by cases h), fun h w => optUndef h, fun zβ za zw zc => ?_⟩, ?_⟩
          ·exact ld_3 rfl ((evt za 102).trans (optSVal (zc.dep 4 102 (by kernel_rfl) (by decide)) rfl rfl)) (chg_cell zc.chg (by first | exact hSub _ (by assumption) | (intro e; (try dsimp only at e); omega)) (hc121 x.k (by first | omega | (simp; omega)))) ⟨_, rfl, Below.refl _ _, optDef zβ rfl⟩
          refine ⟨.inl ⟨rfl, true, .none rfl, (fun gg b h => by cases h), fun h w => optUndef h, fun zβ za zw zc => ?_⟩, ?_⟩
          ·exact fld_89_1 rfl (zc.kn.ev rfl) ⟨_, rfl, Below.refl _ _, optDef zβ rfl⟩
          refine ⟨.inl ⟨rfl, true, .none rfl, (fun gg b h => by cases h), fun h w => optUndef h, fun zβ za zw zc => ?_⟩, ?_⟩
          ·exact ld_31 rfl ((evt za 104).trans (optSVal (zc.dep 6 104 (by kernel_rfl) (by decide)) rfl rfl)) (chg_cell zc.chg (by first | exact hSub _ (by assumption) | (intro e; (try dsimp only at e); omega)) ((hB112.cell 1).trans rfl)) ⟨_, rfl, Below.refl _ _, optDef zβ rfl⟩
          refine ⟨.inl ⟨rfl, true, .none rfl, (fun gg b h => by cases h), fun h w => optUndef h, fun zβ za zw zc => ?_⟩, ?_⟩
          ·exact wp_move rfl (zc.kn.ev rfl) ⟨_, rfl, Below.refl _ _, optDef zβ rfl⟩
          refine ⟨.inl ⟨rfl, true, .none rfl, (fun gg b h => by cases h), fun h w => optUndef h, fun zβ za zw zc => ?_⟩, ?_⟩
          ·exact ix_31 (k := x.k) rfl ((evt za 105).trans (optSVal (zc.dep 7 105 (by kernel_rfl) (by decide)) rfl rfl)) (ha125 x.k (by first | omega | (simp; omega))) ((evt za 106).trans (optSVal (zc.dep 8 106 (by kernel_rfl) (by decide)) rfl rfl)) (by first | omega | (simp; omega)) ⟨_, rfl, Below.refl _ _, optDef zβ rfl⟩
          refine ⟨.inl ⟨rfl, true, .none rfl, (fun gg b h => by cases h), fun h w => optUndef h, fun zβ za zw zc => ?_⟩, ?_⟩
          ·exact ld_3 rfl ((evt za 107).trans (optSVal (zc.dep 9 107 (by kernel_rfl) (by decide)) rfl rfl)) (chg_cell zc.chg (by first | exact hSub _ (by assumption) | (intro e; (try dsimp only at e); omega)) (hc127 x.k (by first | omega | (simp; omega)))) ⟨_, rfl, Below.refl _ _, optDef zβ rfl⟩
          refine ⟨.inr ⟨0, rfl, by kernel_rfl, true, .none rfl, (fun gg b h => by cases h), (fun h => (nomatch h)), fun zβ za zw zvals zc => ?_⟩, ?_⟩
          ·obtain rfl := vlen0 zc.len
           have zn := zc.now
           exact wp_call (by kernel_rfl) rfl (hv3 ((evt za 98).trans (optSVal (zc.dep 0 98 (by kernel_rfl) (by decide)) rfl rfl)) ((evt za 103).trans (optSVal (zc.dep 5 103 (by kernel_rfl) (by decide)) rfl rfl)) ((evt za 108).trans (optSVal (zc.dep 10 108 (by kernel_rfl) (by decide)) rfl rfl))) (ih (n - 1) (by omega) x.κ x.d x.U _ _ _ (by omega) hkp.1 hRx zn hUx hka9.1 hka9.2) (fun v w' h => by obtain ⟨oo, m1, m2, m3, m4⟩ := h; exact ⟨v, rfl, m3, ⟨oo, m1, m2, m4⟩, cvNo⟩)
          refine ⟨.inr ⟨1, rfl, by kernel_rfl, true, .none rfl, (fun gg b h => by cases h), (fun h => (nomatch h)), fun zβ za zw zvals zc => ?_⟩, ?_⟩
          ·obtain ⟨z0, rfl⟩ := vlen1 zc.len
           have zn := zc.now
           obtain ⟨oo, k1, e, k2⟩ := zn
           have e0 : z0 = za.tmps.getD 109 undef := Option.some.inj (zc.val 0 11 109 rfl (by kernel_rfl))
           exact wp_not rfl ((evt za 109).trans (e0.symm.trans e)) ⟨_, rfl, .ofBelow (Below.refl _ _), ⟨oo, k1, rfl, k2⟩, cvNo⟩
          exact trivial
         ·intro za w129 zvals zh zl hG130 hc131 zu zw zk
          obtain ⟨z0, z1, rfl⟩ := vlen2 zl
          obtain ⟨oo, hrun, e9, hNo⟩ := hG130
          have hrun9 : Run false N (((pget N (κ i)).args.zip (pget N (κ j)).args).take x.k ++ [((aget (pget N (κ i)).args x.k), (aget (pget N (κ j)).args x.k))]) (mrg κ (κ j) (κ i)) oo := Run.snoc hrx hrun
          have zh := zh.cons (d := 110) (v := .bool (!oo.isSome)) ((Option.some.inj (zw 1 12 110 rfl (by kernel_rfl))).symm.trans e9)
          have hC132 := Chg.trans hCx hc131
          have ha133 := ho114.chgS hc131 (fun q e h9 => hSub q e h9)
          have hb134 := ho115.chgS hc131 (fun q e h9 => hSub q e h9)
          have hB136 := chg_blk hB111 hc131 (fun e => by have e2 : g13 = ub := e; omega)
          have hB137 := chg_blk hB112 hc131 (fun e => by have e2 : g14 = ub := e; omega)
          clear zu zw zk
          refine WE.go zh ?_
          refine WE.next ?_
          refine WC.cond rfl (fun h138 => ?_) (fun h138 => ?_)
          ·skip
           have hoo : oo = none := by cases oo with | none => rfl | some q => simp at h138
           refine WC.seq (WC.region (WL.asg rfl rfl rfl rfl rfl (WL.nil (WE.next (WC.ret (WE.blockRet (WE.thenRet (WE.thenRet (WE.blockRet (WE.thenRet (WE.ret1 rfl rfl ?_)))))))))))
           have hrs := Run.stop (qs := ((pget N (κ i)).args.zip (pget N (κ j)).args).drop (x.k + 1)) (hoo ▸ hrun9)
           rw [← zip_take_succ hkl hlen9, List.take_append_drop] at hrs
           exact ⟨_, rfl, none, Run.step (i := i) (j := j) hne hst (by show Run false N (((pget N (κ i)).args.zip (pget N (κ j)).args) ++ []) _ none; rw [List.append_nil]; exact hrs), rfl, hC132, fun κ2 e => nomatch e⟩
          ·skip
           obtain ⟨κ9, rfl⟩ : ∃ q, oo = some q := by cases oo with | none => simp at h138 | some q => exact ⟨q, rfl⟩
           obtain ⟨U8, d8, hR8, hP8, hU8⟩ := hNo κ9 rfl
           refine WC.skip (WE.blockNormal (WE.next (WC.region (WL.mv rfl rfl rfl rfl rfl ?_))))
           refine WL.val (.int .i64 ((((x.k + 1) : Nat) : Int))) rfl rfl rfl (fun za zC zh zk => addb_3 rfl (zh.ev rfl) (zh.ev rfl) (wrap_eq (by omega) (by omega) (by omega)) zk) ?_
           refine WL.asg rfl rfl rfl rfl rfl (WL.nil ?_)
           refine WE.round (⟨x.k + 1, κ9, d8, U8⟩) ⟨rfl, rfl, rfl, rfl, rfl, rfl, rfl, rfl, rfl, trivial⟩ ?_ ?_
           ·exact ⟨(by (try dsimp only); omega), hR8, hU8, (by dsimp only; rw [zip_take_succ hkl hlen9]; exact hrun9), hC132, hB136, hB137, hP8, ha133, hb134⟩
           ·(try dsimp only); omega
        ·have h116 : ¬ ((((x.k : Nat) : Int) : Int) < ((((pget N ((κ i))).args.length : Nat) : Int) : Int)) := by simpa using h116
         refine WC.exit (WE.thenExit (WE.thenExit (WE.blockIs rfl (WE.next (WC.seq (WC.region (WL.asg rfl rfl rfl rfl rfl (WL.nil (WE.next (WC.ret (WE.ret1 rfl rfl ?_)))))))))))
         have hke : x.k = (pget N (κ i)).args.length := by omega
         rw [List.take_of_length_le (by rw [List.length_zip]; omega)] at hrx
         exact ⟨_, rfl, some x.κ, Run.step (i := i) (j := j) hne hst (by show Run false N (((pget N (κ i)).args.zip (pget N (κ j)).args) ++ []) _ _; rw [List.append_nil]; exact hrx), rfl, hCx, fun κ2 e => by obtain rfl := Option.some.inj e; exact ⟨x.U, x.d, hRx, ho113, hUx⟩⟩
end Go.Proofs.Ytibncmnmjhimeaa

namespace Go.Proofs.Ytibncmnmjhimeaa
open Go.RowKit Go
set_option linter.unusedVariables false
set_option linter.unusedSimpArgs false
/-- The cells of the row of parts. -/
def CP (w : World) (ob : Nat) (A : Nat → Option Addr) (C : Nat → Nat) (N : List Pt) : Prop := ∀ k, k < N.length → w.cell? ⟨ob, 0 + k * 2, none⟩ = some (.int .i64 (pget N k).fn) ∧ w.cell? ⟨ob, 0 + k * 2 + 1, none⟩ = some (.slice (A k) (pget N k).args.length (C k))
theorem CP.chg {w w' : World} {ob : Nat} {A : Nat → Option Addr} {C : Nat → Nat} {N : List Pt} {Z : Nat → Prop} (h : CP w ob A C N) (hc : Chg Z w w') (hb : ¬ Z ob) : CP w' ob A C N := fun k hk => ⟨chg_cell hc hb (h k hk).1, chg_cell hc hb (h k hk).2⟩
theorem CP.below {w w' : World} {ob : Nat} {A : Nat → Option Addr} {C : Nat → Nat} {N : List Pt} (h : CP w ob A C N) (hb : Below w.heap.size w w') : CP w' ob A C N := h.chg (Z := fun _ => False) (.ofBelow hb) id
set_option maxRecDepth 100000 in
theorem rask_any (κ d : Nat → Nat) (U : List Nat) (N : List Pt) (V : Nat → Nat) (g : Nat) (S : Nat → Prop) (la : Option Addr) (lc ub uc vb vc gm zb zc db dc : Nat) (hk : KOk N κ) (hN : NOk N) (hn : N.length ≤ 1048576) (hs : argN N ≤ 1048576) (hUl : U.length = N.length) (hR : Reps U κ d) (hzZ : ¬ RZ g S la lc N.length (some ⟨ub, 0, none⟩) uc U.length vb zb) (hdZ : ¬ RZ g S la lc N.length (some ⟨ub, 0, none⟩) uc U.length vb db) (n : Nat) : ∀ (ms : List Ms) (i : Nat) (w : World), unS ms ≤ n → PR w g S (la, N.length, lc) ((some ⟨ub, 0, none⟩), N.length, uc) la lc N (some ⟨ub, 0, none⟩) uc U vb vc V → AskOk N κ ms → RM w gm zb zc db dc ms → i < N.length →
  Calls Try.prog 45 #[.pointer (some ⟨g, 0, none⟩), .pointer (some ⟨gm, 0, none⟩), .int .i64 (i : Int)] w (Ret fun v' w' => ∃ bb : Bool, v' = .bool bb ∧ Chg (fun b => b = zb ∨ b = db) w w' ∧ (bb = true → ∃ ms', RM w' gm zb zc db dc ms' ∧ AskOk N κ ms' ∧ MExt ms ms' ∧ 0 < (mget ms' (κ i)).sz) ∧ (bb = false → NoMeas N κ ms i)) := by
 induction n using Nat.strongRecOn with
 | _ n ih => ?_
 intro ms i w hun hP hA hM hi
 have hC0 := Chg.refl (fun b => b = zb ∨ b = db) w
 have hlr : κ i < N.length := hk.lt _ hi
 have hkr : κ (κ i) = κ i := hk.idem _
 have hml := hA.len
 have hal9 := args_le hlr
 have hgm1 : gm ≠ zb := hM.gz
 have hgm2 : gm ≠ db := hM.gd
 obtain ⟨ob, A9, C9, rfl, hob, hcP⟩ := hP.ofP (by omega)
 have hoz : ¬ (fun b => b = zb ∨ b = db) ob := fun e => e.elim (fun e => hzZ (e ▸ .inr (.inr (.inl hob)))) (fun e => hdZ (e ▸ .inr (.inr (.inl hob))))
 have hCP : CP w ob A9 C9 N := fun k hk2 => ⟨(hcP k hk2).1, (hcP k hk2).2.1⟩
 have hPz : ∀ b, RZ g S (some ⟨ob, 0, none⟩) lc N.length (some ⟨ub, 0, none⟩) uc U.length vb b → ¬ (fun b => b = zb ∨ b = db) b := fun b q e => e.elim (fun e => hzZ (e ▸ q)) (fun e => hdZ (e ▸ q))
 have hSz : ∀ b, S b → ¬ (b = zb ∨ b = db) := fun b q => hPz b (.inr (.inr (.inr (.inr q))))
 refine Calls.walk (l := [.pointer (some ⟨g, 0, none⟩), .pointer (some ⟨gm, 0, none⟩), .int .i64 (((i : Nat) : Int))]) Try.func45 rfl (by kernel_rfl) ?_
 refine WC.sub (K' := [(0, .pointer (some ⟨g, 0, none⟩)), (1, .pointer (some ⟨gm, 0, none⟩)), (2, .int .i64 (((i : Nat) : Int)))]) ⟨rfl, rfl, rfl, trivial⟩ ?_
 refine WC.seq (WC.region (WL.asg rfl rfl rfl rfl rfl (WL.nil (WE.next (WC.seq (WC.region (WL.mv rfl rfl rfl rfl rfl (WL.mv rfl rfl rfl rfl rfl ?_))))))))
 refine WL.call rfl rfl rfl (fun za zh zC => wp_call (by kernel_rfl) rfl (hv2 (zh.ev rfl) (zh.ev rfl))) (rtop_any κ d _ g S _ lc N _ uc U vb vc V _ i (by rw [hUl]; exact hP) hR (by omega) (by omega)) ?_
 rintro _ w2 ⟨rfl, hq1⟩
 refine WL.asg rfl rfl rfl rfl rfl (WL.nil (WE.next (WC.seq (WC.seq (WC.region (WL.mv rfl rfl rfl rfl rfl ?_))))))
 refine WL.val _ rfl rfl rfl (fun za zC zh zk => nilCheck_ rfl (zh.ev rfl) zk) ?_
 refine WL.val _ rfl rfl rfl (fun za zC zh zk => fld_81_0 rfl (zh.ev rfl) zk) ?_
 have ho3 := hM.below hq1
 refine WL.val _ rfl rfl rfl (fun za zC zh zk => ld_31 rfl (zh.ev rfl) ho3.c0 zk) ?_
 refine WL.mv rfl rfl rfl rfl rfl ?_
 refine WL.val _ rfl rfl rfl (fun za zC zh zk => ix_31 (k := (κ i)) rfl (zh.ev rfl) rfl (zh.ev rfl) (by first | omega | (simp only [List.length_set]; omega)) zk) ?_
 refine WL.val _ rfl rfl rfl (fun za zC zh zk => ld_3 rfl (zh.ev rfl) (ho3.sz (by first | omega | (simp only [List.length_set]; omega))) zk) ?_
 refine WL.val (.bool ((((szI (mget ms ((κ i)))) : Int) != (0 : Int)))) rfl rfl rfl (fun za zC zh zk => neq_3 rfl (zh.ev rfl) (zh.ev rfl) zk) ?_
 refine WL.nil (WE.next ?_)
 refine WC.cond rfl (fun h4 => ?_) (fun h4 => ?_)
 ·have h4 : ((szI (mget ms ((κ i)))) : Int) ≠ (0 : Int) := by simpa using h4
  refine WC.seq (WC.region (WL.mv rfl rfl rfl rfl rfl ?_))
  refine WL.val _ rfl rfl rfl (fun za zC zh zk => nilCheck_ rfl (zh.ev rfl) zk) ?_
  refine WL.val _ rfl rfl rfl (fun za zC zh zk => fld_81_0 rfl (zh.ev rfl) zk) ?_
  refine WL.val _ rfl rfl rfl (fun za zC zh zk => ld_31 rfl (zh.ev rfl) ho3.c0 zk) ?_
  refine WL.mv rfl rfl rfl rfl rfl ?_
  refine WL.val _ rfl rfl rfl (fun za zC zh zk => ix_31 (k := (κ i)) rfl (zh.ev rfl) rfl (zh.ev rfl) (by first | omega | (simp only [List.length_set]; omega)) zk) ?_
  refine WL.val _ rfl rfl rfl (fun za zC zh zk => ld_3 rfl (zh.ev rfl) (ho3.sz (by first | omega | (simp only [List.length_set]; omega))) zk) ?_
  refine WL.val (.bool ((decide ((0 : Int) < ((szI (mget ms ((κ i)))) : Int))))) rfl rfl rfl (fun za zC zh zk => gtr_3 rfl (zh.ev rfl) (zh.ev rfl) zk) ?_
  refine WL.asg rfl rfl rfl rfl rfl (WL.nil (WE.next (WC.ret (WE.thenRet (WE.ret1 rfl rfl ?_)))))
  have hC5 := Chg.trans hC0 (.ofBelow hq1)
  have hne0 : szI (mget ms (κ i)) ≠ 0 := by omega
  refine ⟨_, rfl, _, rfl, hC5, fun e => ⟨ms, ho3, hA, MExt.refl _, ?_⟩, fun e sz dp hm => ⟨κ i, ?_, Nat.le_refl _⟩⟩
  ·have e2 := of_decide_eq_true e
   cases e3 : (mget ms (κ i)).op with
   | true => unfold szI at e2; rw [e3] at e2; simp at e2
   | false => unfold szI at e2; rw [e3] at e2; simpa using e2
  ·have e2 := of_decide_eq_false e
   cases e3 : (mget ms (κ i)).op with
   | true => rfl
   | false => unfold szI at e2 hne0; rw [e3] at e2 hne0; simp at e2 hne0; omega
 ·have h4 : ¬ (((szI (mget ms ((κ i)))) : Int) ≠ (0 : Int)) := by simpa using h4
  have hz1 : (mget ms (κ i)).op = false := by
   cases e : (mget ms (κ i)).op with
   | false => rfl
   | true => unfold szI at h4; rw [e] at h4; simp at h4
  have hz0 : (mget ms (κ i)).sz = 0 := by unfold szI at h4; rw [hz1] at h4; simpa using h4
  obtain ⟨hA1, hu1⟩ := hA.opn hlr hz0 hz1
  refine WC.skip (WE.next (WC.seq (WC.region (WL.mv rfl rfl rfl rfl rfl ?_))))
  refine WL.val _ rfl rfl rfl (fun za zC zh zk => nilCheck_ rfl (zh.ev rfl) zk) ?_
  refine WL.val _ rfl rfl rfl (fun za zC zh zk => fld_81_0 rfl (zh.ev rfl) zk) ?_
  refine WL.val _ rfl rfl rfl (fun za zC zh zk => ld_31 rfl (zh.ev rfl) ho3.c0 zk) ?_
  refine WL.mv rfl rfl rfl rfl rfl ?_
  refine WL.val _ rfl rfl rfl (fun za zC zh zk => ix_31 (k := (κ i)) rfl (zh.ev rfl) rfl (zh.ev rfl) (by first | omega | (simp only [List.length_set]; omega)) zk) ?_
  obtain ⟨⟨cs6, hB7, hs8⟩, hM9⟩ := ho3.setZ (r := κ i) (by first | omega | (simp only [List.length_set]; omega)) ⟨(mget ms (κ i)).sz, (mget ms (κ i)).dp, true⟩ rfl
  refine WL.step (post := fun _ w' => Upd zb w2 w' ∧ RM w' gm zb zc db dc (ms.set (κ i) ⟨(mget ms (κ i)).sz, (mget ms (κ i)).dp, true⟩)) rfl rfl rfl (fun za zC zh zk => st_3 rfl (zh.ev rfl) (zh.ev rfl) hB7 hs8 (fun v => zk v _ ⟨Upd.at_ _ _ _ _, hM9⟩)) ?_
  rintro u10 w11 ⟨hu12, hM13⟩
  have hc14 : Chg (fun b => b = zb ∨ b = db) w2 w11 := .ofUpd hu12 (.inl rfl)
  have ho15 := hP.below hq1
  have ho16 := hCP.below hq1
  have ho17 := (hcP (κ i) hlr).2.2.below hq1
  have hC18 := Chg.trans hC0 (.ofBelow hq1)
  have hC19 := Chg.trans hC18 hc14
  have hP20 := ho15.chg hc14 hPz
  have hQ21 := ho16.chg hc14 hoz
  have ha22 := ho17.chgS hc14 hSz
  refine WL.nil (WE.next (WC.seq (WC.region (WL.asg rfl rfl rfl rfl rfl (WL.asg rfl rfl rfl rfl rfl (WL.nil (WE.next (WC.seq (WC.seq (WC.region (WL.asg rfl rfl rfl rfl rfl (WL.nil (WE.next (WC.block ?_))))))))))))))
  refine WC.loop (X := AS) (fun x => (pget N (κ i)).args.length - x.k) (fun x => [(0, .pointer (some ⟨g, 0, none⟩)), (1, .pointer (some ⟨gm, 0, none⟩)), (2, .int .i64 ((((κ i) : Nat) : Int))), (7, .int .i64 ((((szF κ (msz x.ms) ((pget N (κ i)).args.take x.k)) : Nat) : Int))), (8, .int .i64 ((((dpF κ (mdp x.ms) ((pget N (κ i)).args.take x.k)) : Nat) : Int))), (9, .int .i64 (((x.k : Nat) : Int))), (21, .bool ((((szI (mget ms ((κ i)))) : Int) != (0 : Int))))]) (fun x w23 => x.k ≤ (pget N (κ i)).args.length ∧ AskOk N κ x.ms ∧ MExt (ms.set (κ i) ⟨(mget ms (κ i)).sz, (mget ms (κ i)).dp, true⟩) x.ms ∧ (∀ a ∈ (pget N (κ i)).args.take x.k, 0 < (mget x.ms (κ a)).sz) ∧ Chg (fun b => b = zb ∨ b = db) w w23 ∧ PR (w23) g S ((some ⟨ob, 0, none⟩), N.length, lc) ((some ⟨ub, 0, none⟩), N.length, uc) (some ⟨ob, 0, none⟩) lc N (some ⟨ub, 0, none⟩) uc U vb vc V ∧ RM (w23) gm zb zc db dc x.ms ∧ CP (w23) ob A9 C9 N ∧ InRow eltN S (w23) (pget N (κ i)).args (A9 (κ i))) (⟨0, [], (ms.set (κ i) ⟨(mget ms (κ i)).sz, (mget ms (κ i)).dp, true⟩)⟩) ⟨rfl, rfl, rfl, rfl, rfl, rfl, rfl, trivial⟩ ?_ ?_
  ·exact ⟨Nat.zero_le _, hA1, MExt.refl _, (fun a h9 => by simp at h9), hC19, hP20, hM13, hQ21, ha22⟩
  ·rintro x w23 ⟨hkx, hAx, hEx, hDx, hCx, ho24, ho25, ho26, ho27⟩
   have hmx := hAx.len
   refine WC.seq (WC.seq (WC.region (WL.mv rfl rfl rfl rfl rfl (WL.mv rfl rfl rfl rfl rfl ?_))))
   refine WL.val _ rfl rfl rfl (fun za zC zh zk => nilCheck_ rfl (zh.ev rfl) zk) ?_
   refine WL.val _ rfl rfl rfl (fun za zC zh zk => fld_79_0 rfl (zh.ev rfl) zk) ?_
   refine WL.val _ rfl rfl rfl (fun za zC zh zk => ld_77 rfl (zh.ev rfl) ho24.c0 zk) ?_
   refine WL.mv rfl rfl rfl rfl rfl ?_
   refine WL.val _ rfl rfl rfl (fun za zC zh zk => ix_77 (k := (κ i)) rfl (zh.ev rfl) rfl (zh.ev rfl) (by first | omega | (simp; omega)) zk) ?_
   refine WL.val _ rfl rfl rfl (fun za zC zh zk => fld_89_1 rfl (zh.ev rfl) zk) ?_
   refine WL.val _ rfl rfl rfl (fun za zC zh zk => ld_31 rfl (zh.ev rfl) (ho26 ((κ i)) (by first | omega | (simp; omega))).2 zk) ?_
   refine WL.val (.int .i64 ((((pget N ((κ i))).args.length : Nat) : Int))) rfl rfl rfl (fun za zC zh zk => len_31 rfl (zh.ev rfl) zk) ?_
   refine WL.val (.bool ((decide ((((x.k : Nat) : Int) : Int) < ((((pget N ((κ i))).args.length : Nat) : Int) : Int))))) rfl rfl rfl (fun za zC zh zk => lss_3 rfl (zh.ev rfl) (zh.ev rfl) zk) ?_
   refine WL.nil (WE.next ?_)
   refine WC.cond rfl (fun h28 => ?_) (fun h28 => ?_)
   ·have h28 : (((x.k : Nat) : Int) : Int) < ((((pget N ((κ i))).args.length : Nat) : Int) : Int) := by simpa using h28
    refine WC.skip (WE.next (WC.seq (WC.block (WC.seq (WC.region (WL.mv rfl rfl rfl rfl rfl (WL.mv rfl rfl rfl rfl rfl ?_)))))))
    refine WL.val _ rfl rfl rfl (fun za zC zh zk => nilCheck_ rfl (zh.ev rfl) zk) ?_
    refine WL.val _ rfl rfl rfl (fun za zC zh zk => fld_79_0 rfl (zh.ev rfl) zk) ?_
    refine WL.val _ rfl rfl rfl (fun za zC zh zk => ld_77 rfl (zh.ev rfl) ho24.c0 zk) ?_
    refine WL.mv rfl rfl rfl rfl rfl ?_
    refine WL.val _ rfl rfl rfl (fun za zC zh zk => ix_77 (k := (κ i)) rfl (zh.ev rfl) rfl (zh.ev rfl) (by first | omega | (simp; omega)) zk) ?_
    refine WL.val _ rfl rfl rfl (fun za zC zh zk => fld_89_1 rfl (zh.ev rfl) zk) ?_
    refine WL.val _ rfl rfl rfl (fun za zC zh zk => ld_31 rfl (zh.ev rfl) (ho26 ((κ i)) (by first | omega | (simp; omega))).2 zk) ?_
    refine WL.mv rfl rfl rfl rfl rfl ?_
    obtain ⟨b29, o30, ha31, hS32, hc33⟩ := InRow.openNS ho27
    have hSb34 := hS32 x.k (by first | omega | (simp; omega))
    refine WL.val _ rfl rfl rfl (fun za zC zh zk => ix_31 (k := x.k) rfl (zh.ev rfl) (ha31 x.k (by first | omega | (simp; omega))) (zh.ev rfl) (by first | omega | (simp; omega)) zk) ?_
    refine WL.val _ rfl rfl rfl (fun za zC zh zk => ld_3 rfl (zh.ev rfl) (hc33 x.k (by first | omega | (simp; omega))) zk) ?_
    have hkl : x.k < (pget N (κ i)).args.length := by omega
    have ham : (aget (pget N (κ i)).args x.k) ∈ (pget N (κ i)).args := aget_mem hkl
    have hal : (aget (pget N (κ i)).args x.k) < N.length := by have z := (hN (κ i) hlr).1 _ ham; omega
    have hka : κ (aget (pget N (κ i)).args x.k) < N.length := hk.lt _ hal
    have hkk : κ (κ (aget (pget N (κ i)).args x.k)) = κ (aget (pget N (κ i)).args x.k) := hk.idem _
    refine WL.call rfl rfl rfl (fun za zh zC => wp_call (by kernel_rfl) rfl (hv2 (zh.ev rfl) (zh.ev rfl))) (rtop_any κ d _ g S _ lc N _ uc U vb vc V _ (aget (pget N (κ i)).args x.k) (by rw [hUl]; exact ho24) hR (by omega) (by omega)) ?_
    rintro _ w36 ⟨rfl, hq35⟩
    refine WL.asg rfl rfl rfl rfl rfl ?_
    refine WL.nil (WE.sub (K' := [(0, .pointer (some ⟨g, 0, none⟩)), (1, .pointer (some ⟨gm, 0, none⟩)), (2, .int .i64 ((((κ i) : Nat) : Int))), (7, .int .i64 ((((szF κ (msz x.ms) ((pget N (κ i)).args.take x.k)) : Nat) : Int))), (8, .int .i64 ((((dpF κ (mdp x.ms) ((pget N (κ i)).args.take x.k)) : Nat) : Int))), (9, .int .i64 (((x.k : Nat) : Int))), (10, .int .i64 ((((κ (aget (pget N (κ i)).args x.k)) : Nat) : Int))), (21, .bool ((((szI (mget ms ((κ i)))) : Int) != (0 : Int)))), (46, .bool ((decide ((((x.k : Nat) : Int) : Int) < ((((pget N ((κ i))).args.length : Nat) : Int) : Int)))))]) ⟨rfl, rfl, rfl, rfl, rfl, rfl, rfl, rfl, rfl, trivial⟩ ?_)
    refine WE.next (WC.seq (WC.seq (WC.region (WL.mv rfl rfl rfl rfl rfl (WL.mv rfl rfl rfl rfl rfl (WL.mv rfl rfl rfl rfl rfl ?_))))))
    have ho37 := ho24.below hq35
    have ho38 := ho25.below hq35
    have hux := hEx.un
    refine WL.call rfl rfl rfl (fun za zh zC => wp_call (by kernel_rfl) rfl (hv3 (zh.ev rfl) (zh.ev rfl) (zh.ev rfl))) (ih (n - 1) (by omega) x.ms (κ (aget (pget N (κ i)).args x.k)) _ (by omega) ho37 hAx ho38 hka) ?_
    rintro _ w43 ⟨bb39, rfl, hc40, h41, h42⟩
    have ho44 := ho26.below hq35
    have ho45 := ho27.below hq35
    have hC46 := Chg.trans hCx (.ofBelow hq35)
    have hC47 := Chg.trans hC46 hc40
    have hP48 := ho37.chg hc40 hPz
    have hQ49 := ho44.chg hc40 hoz
    have ha50 := ho45.chgS hc40 hSz
    refine WL.val (.bool ((!bb39))) rfl rfl rfl (fun za zC zh zk => wp_not rfl (zh.ev rfl) zk) ?_
    refine WL.nil (WE.next ?_)
    refine WC.cond rfl (fun h51 => ?_) (fun h51 => ?_)
    ·have h51 : ¬ (bb39 = true) := by simpa using h51
     refine WC.seq (WC.region (WL.asg rfl rfl rfl rfl rfl (WL.nil (WE.next (WC.ret (WE.thenRet (WE.blockRet (WE.thenRet (WE.thenRet (WE.blockRet (WE.thenRet (WE.ret1 rfl rfl ?_))))))))))))
     have hnm := h42 (by simpa using h51)
     exact ⟨_, rfl, false, rfl, hC47, (fun e => nomatch e), fun _ => NoMeas.up hi hml hlr hEx ham (fun sz dp hm => by obtain ⟨o, e1, e2⟩ := hnm sz dp hm; rw [hkk] at e2; exact ⟨o, e1, e2⟩)⟩
    ·have h51 : ¬ (¬ (bb39 = true)) := by simpa using h51
     refine WC.skip (WE.next (WC.seq ?_))
     obtain ⟨ms3, hM3, hA3, hE3, hD3⟩ := h41 (by simpa using h51)
     rw [hkk] at hD3
     have hE4 := hEx.trans hE3
     have hm3 := hA3.len
     have htk := List.take_succ_eq_append_getElem hkl
     rw [← aget_lt hkl] at htk
     have hD4 : ∀ a ∈ (pget N (κ i)).args.take (x.k + 1), 0 < (mget ms3 (κ a)).sz := fun a h9 => by
      rw [htk] at h9
      rcases List.mem_append.1 h9 with z | z
      ·rw [hE3.keep _ (.inr (hDx a z))]; exact hDx a z
      ·rw [List.mem_singleton.1 z]; exact hD3
     have hS4 : (szF κ (msz ms3) ((pget N (κ i)).args.take (x.k + 1))) = min ((szF κ (msz x.ms) ((pget N (κ i)).args.take x.k)) + (mget ms3 (κ (aget (pget N (κ i)).args x.k))).sz) capS := by rw [htk, szF_snoc, szF_congr (f := msz ms3) (g := msz x.ms) _ (fun a h9 => by show (mget ms3 (κ a)).sz = _; rw [hE3.keep _ (.inr (hDx a h9))])]
     have hD5 : (dpF κ (mdp ms3) ((pget N (κ i)).args.take (x.k + 1))) = max (dpF κ (mdp x.ms) ((pget N (κ i)).args.take x.k)) ((mget ms3 (κ (aget (pget N (κ i)).args x.k))).dp + 1) := by rw [htk, dpF_snoc, dpF_congr (f := mdp ms3) (g := mdp x.ms) _ (fun a h9 => by show (mget ms3 (κ a)).dp = _; rw [hE3.keep _ (.inr (hDx a h9))])]
     have hb3 := hA3.bnd _ hD3
     have hn3 := ndS_le ms3
     have hsp := szF_pos (κ := κ) (f := msz x.ms) ((pget N (κ i)).args.take x.k)
     unfold capS at hb3 hsp hS4
     have hop3 := (hA3.done _ hD3).1
     have hsz3 : szI (mget ms3 (κ (aget (pget N (κ i)).args x.k))) = ((mget ms3 (κ (aget (pget N (κ i)).args x.k))).sz : Int) := by unfold szI; rw [hop3]; rfl
     refine WC.region (WL.mv rfl rfl rfl rfl rfl (WL.mv rfl rfl rfl rfl rfl ?_))
     refine WL.val _ rfl rfl rfl (fun za zC zh zk => nilCheck_ rfl (zh.ev rfl) zk) ?_
     refine WL.val _ rfl rfl rfl (fun za zC zh zk => fld_81_0 rfl (zh.ev rfl) zk) ?_
     refine WL.val _ rfl rfl rfl (fun za zC zh zk => ld_31 rfl (zh.ev rfl) hM3.c0 zk) ?_
     refine WL.mv rfl rfl rfl rfl rfl ?_
     refine WL.val _ rfl rfl rfl (fun za zC zh zk => ix_31 (k := (κ (aget (pget N (κ i)).args x.k))) rfl (zh.ev rfl) rfl (zh.ev rfl) (by first | omega | (simp only [List.length_set]; omega)) zk) ?_
     refine WL.val _ rfl rfl rfl (fun za zC zh zk => ld_3 rfl (zh.ev rfl) (hM3.sz (by first | omega | (simp only [List.length_set]; omega))) zk) ?_
     refine WL.val (.int .i64 (((((szF κ (msz x.ms) ((pget N (κ i)).args.take x.k)) + (mget ms3 (κ (aget (pget N (κ i)).args x.k))).sz) : Nat) : Int))) rfl rfl rfl (fun za zC zh zk => addb_3 rfl (zh.ev rfl) (zh.ev rfl) (wrap_eq (by rw [hsz3]; omega) (by omega) (by omega)) zk) ?_
     refine WL.val (.int .i64 ((((szF κ (msz ms3) ((pget N (κ i)).args.take (x.k + 1))) : Nat) : Int))) rfl rfl rfl (fun za zC zh zk => min_3 rfl (zh.ev rfl) (zh.ev rfl) (by rw [show (min (((((szF κ (msz x.ms) ((pget N (κ i)).args.take x.k)) + (mget ms3 (κ (aget (pget N (κ i)).args x.k))).sz) : Nat) : Int)) 1099511627776 : Int) = (((szF κ (msz ms3) ((pget N (κ i)).args.take (x.k + 1))) : Nat) : Int) from by rw [hS4]; omega]; exact zk)) ?_
     refine WL.asg rfl rfl rfl rfl rfl (WL.nil (WE.next (WC.region (WL.mv rfl rfl rfl rfl rfl (WL.mv rfl rfl rfl rfl rfl ?_)))))
     refine WL.val _ rfl rfl rfl (fun za zC zh zk => nilCheck_ rfl (zh.ev rfl) zk) ?_
     refine WL.val _ rfl rfl rfl (fun za zC zh zk => fld_81_1 rfl (zh.ev rfl) zk) ?_
     refine WL.val _ rfl rfl rfl (fun za zC zh zk => ld_31 rfl (zh.ev rfl) hM3.c1 zk) ?_
     refine WL.mv rfl rfl rfl rfl rfl ?_
     refine WL.val _ rfl rfl rfl (fun za zC zh zk => ix_31 (k := (κ (aget (pget N (κ i)).args x.k))) rfl (zh.ev rfl) rfl (zh.ev rfl) (by first | omega | (simp only [List.length_set]; omega)) zk) ?_
     refine WL.val _ rfl rfl rfl (fun za zC zh zk => ld_3 rfl (zh.ev rfl) (hM3.dp (by first | omega | (simp only [List.length_set]; omega))) zk) ?_
     refine WL.val (.int .i64 (((((mget ms3 ((κ (aget (pget N (κ i)).args x.k)))).dp + 1) : Nat) : Int))) rfl rfl rfl (fun za zC zh zk => addb_3 rfl (zh.ev rfl) (zh.ev rfl) (wrap_eq (by omega) (by omega) (by omega)) zk) ?_
     refine WL.val (.int .i64 ((((dpF κ (mdp ms3) ((pget N (κ i)).args.take (x.k + 1))) : Nat) : Int))) rfl rfl rfl (fun za zC zh zk => max_3 rfl (zh.ev rfl) (zh.ev rfl) (by rw [show (max ((((dpF κ (mdp x.ms) ((pget N (κ i)).args.take x.k)) : Nat) : Int)) (((((mget ms3 ((κ (aget (pget N (κ i)).args x.k)))).dp + 1) : Nat) : Int)) : Int) = (((dpF κ (mdp ms3) ((pget N (κ i)).args.take (x.k + 1))) : Nat) : Int) from by rw [hD5]; omega]; exact zk)) ?_
     refine WL.asg rfl rfl rfl rfl rfl ?_
     refine WL.nil (WE.sub (K' := [(0, .pointer (some ⟨g, 0, none⟩)), (1, .pointer (some ⟨gm, 0, none⟩)), (2, .int .i64 ((((κ i) : Nat) : Int))), (7, .int .i64 ((((szF κ (msz ms3) ((pget N (κ i)).args.take (x.k + 1))) : Nat) : Int))), (8, .int .i64 ((((dpF κ (mdp ms3) ((pget N (κ i)).args.take (x.k + 1))) : Nat) : Int))), (9, .int .i64 (((x.k : Nat) : Int))), (10, .int .i64 ((((κ (aget (pget N (κ i)).args x.k)) : Nat) : Int))), (21, .bool ((((szI (mget ms ((κ i)))) : Int) != (0 : Int)))), (46, .bool ((decide ((((x.k : Nat) : Int) : Int) < ((((pget N ((κ i))).args.length : Nat) : Int) : Int))))), (66, .bool ((!bb39)))]) ⟨rfl, rfl, rfl, rfl, rfl, rfl, rfl, rfl, rfl, rfl, trivial⟩ ?_)
     refine WE.blockNormal (WE.next (WC.region (WL.mv rfl rfl rfl rfl rfl ?_)))
     refine WL.val (.int .i64 ((((x.k + 1) : Nat) : Int))) rfl rfl rfl (fun za zC zh zk => addb_3 rfl (zh.ev rfl) (zh.ev rfl) (wrap_eq (by omega) (by omega) (by omega)) zk) ?_
     refine WL.asg rfl rfl rfl rfl rfl (WL.nil ?_)
     refine WE.round (⟨x.k + 1, [], ms3⟩) ⟨rfl, rfl, rfl, rfl, rfl, rfl, rfl, trivial⟩ ?_ ?_
     ·exact ⟨(by (try dsimp only); omega), hA3, hE4, hD4, hC47, hP48, hM3, hQ49, ha50⟩
     ·(try dsimp only); omega
   ·have h28 : ¬ ((((x.k : Nat) : Int) : Int) < ((((pget N ((κ i))).args.length : Nat) : Int) : Int)) := by simpa using h28
    refine WC.exit (WE.thenExit (WE.thenExit (WE.blockIs rfl (WE.next (WC.seq (WC.region (WL.mv rfl rfl rfl rfl rfl ?_)))))))
    refine WL.val _ rfl rfl rfl (fun za zC zh zk => nilCheck_ rfl (zh.ev rfl) zk) ?_
    refine WL.val _ rfl rfl rfl (fun za zC zh zk => fld_81_0 rfl (zh.ev rfl) zk) ?_
    refine WL.val _ rfl rfl rfl (fun za zC zh zk => ld_31 rfl (zh.ev rfl) ho25.c0 zk) ?_
    refine WL.mv rfl rfl rfl rfl rfl (WL.mv rfl rfl rfl rfl rfl ?_)
    refine WL.val _ rfl rfl rfl (fun za zC zh zk => ix_31 (k := (κ i)) rfl (zh.ev rfl) rfl (zh.ev rfl) (by first | omega | (simp only [List.length_set]; omega)) zk) ?_
    have hke : x.k = (pget N (κ i)).args.length := by omega
    have htl : (pget N (κ i)).args.take x.k = (pget N (κ i)).args := by rw [hke, List.take_length]
    obtain ⟨hA5, hE5, hz5⟩ := hAx.fin (ms := ms) hlr hz0 hz1 hml hEx (by rw [htl] at hDx; exact hDx)
    obtain ⟨⟨cs52, hB53, hs54⟩, hM55⟩ := ho25.setZ (r := κ i) (by first | omega | (simp only [List.length_set]; omega)) ⟨(szF κ (msz x.ms) ((pget N (κ i)).args.take x.k)), (mget x.ms (κ i)).dp, false⟩ rfl
    refine WL.step (post := fun _ w' => Upd zb w23 w' ∧ RM w' gm zb zc db dc (x.ms.set (κ i) ⟨(szF κ (msz x.ms) ((pget N (κ i)).args.take x.k)), (mget x.ms (κ i)).dp, false⟩)) rfl rfl rfl (fun za zC zh zk => st_3 rfl (zh.ev rfl) (zh.ev rfl) hB53 hs54 (fun v => zk v _ ⟨Upd.at_ _ _ _ _, hM55⟩)) ?_
    rintro u56 w57 ⟨hu58, hM59⟩
    have hc60 : Chg (fun b => b = zb ∨ b = db) w23 w57 := .ofUpd hu58 (.inl rfl)
    have hC61 := Chg.trans hCx hc60
    have hP62 := ho24.chg hc60 hPz
    have hQ63 := ho26.chg hc60 hoz
    have ha64 := ho27.chgS hc60 hSz
    refine WL.nil (WE.next (WC.seq (WC.region (WL.mv rfl rfl rfl rfl rfl ?_))))
    refine WL.val _ rfl rfl rfl (fun za zC zh zk => nilCheck_ rfl (zh.ev rfl) zk) ?_
    refine WL.val _ rfl rfl rfl (fun za zC zh zk => fld_81_1 rfl (zh.ev rfl) zk) ?_
    refine WL.val _ rfl rfl rfl (fun za zC zh zk => ld_31 rfl (zh.ev rfl) hM59.c1 zk) ?_
    refine WL.mv rfl rfl rfl rfl rfl (WL.mv rfl rfl rfl rfl rfl ?_)
    refine WL.val _ rfl rfl rfl (fun za zC zh zk => ix_31 (k := (κ i)) rfl (zh.ev rfl) rfl (zh.ev rfl) (by first | omega | (simp only [List.length_set]; omega)) zk) ?_
    obtain ⟨⟨cs65, hB66, hs67⟩, hM68⟩ := hM59.setD (r := κ i) (by first | omega | (simp only [List.length_set]; omega)) ⟨(szF κ (msz x.ms) ((pget N (κ i)).args.take x.k)), (dpF κ (mdp x.ms) ((pget N (κ i)).args.take x.k)), false⟩ (by rw [mget_set (by omega), if_pos rfl]; rfl)
    refine WL.step (post := fun _ w' => Upd db w57 w' ∧ RM w' gm zb zc db dc ((x.ms.set (κ i) ⟨(szF κ (msz x.ms) ((pget N (κ i)).args.take x.k)), (mget x.ms (κ i)).dp, false⟩).set (κ i) ⟨(szF κ (msz x.ms) ((pget N (κ i)).args.take x.k)), (dpF κ (mdp x.ms) ((pget N (κ i)).args.take x.k)), false⟩)) rfl rfl rfl (fun za zC zh zk => st_3 rfl (zh.ev rfl) (zh.ev rfl) hB66 hs67 (fun v => zk v _ ⟨Upd.at_ _ _ _ _, hM68⟩)) ?_
    rintro u69 w70 ⟨hu71, hM72⟩
    have hc73 : Chg (fun b => b = zb ∨ b = db) w57 w70 := .ofUpd hu71 (.inr rfl)
    have hC74 := Chg.trans hC61 hc73
    have hP75 := hP62.chg hc73 hPz
    have hQ76 := hQ63.chg hc73 hoz
    have ha77 := ha64.chgS hc73 hSz
    refine WL.nil (WE.sub (K' := [(0, .pointer (some ⟨g, 0, none⟩)), (1, .pointer (some ⟨gm, 0, none⟩)), (2, .int .i64 ((((κ i) : Nat) : Int))), (7, .int .i64 ((((szF κ (msz x.ms) ((pget N (κ i)).args.take x.k)) : Nat) : Int))), (8, .int .i64 ((((dpF κ (mdp x.ms) ((pget N (κ i)).args.take x.k)) : Nat) : Int))), (9, .int .i64 (((x.k : Nat) : Int))), (21, .bool ((((szI (mget ms ((κ i)))) : Int) != (0 : Int)))), (46, .bool ((decide ((((x.k : Nat) : Int) : Int) < ((((pget N ((κ i))).args.length : Nat) : Int) : Int)))))]) ⟨rfl, rfl, rfl, rfl, rfl, rfl, rfl, rfl, trivial⟩ ?_)
    refine WE.next (WC.seq (WC.region (WL.asg rfl rfl rfl rfl rfl (WL.nil (WE.next (WC.ret (WE.ret1 rfl rfl ?_)))))))
    have hfin := hM72
    rw [List.set_set, htl] at hfin
    exact ⟨_, rfl, true, rfl, hC74, (fun _ => ⟨_, hfin, hA5, hE5, hz5⟩), (fun e => nomatch e)⟩
end Go.Proofs.Ytibncmnmjhimeaa
