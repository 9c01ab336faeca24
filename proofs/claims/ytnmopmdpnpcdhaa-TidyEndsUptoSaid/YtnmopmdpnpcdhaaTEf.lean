/- Is a clause trivial? The program. -/
import Derived.Test.YtnmopmdpnpcdhaaTEb
import Derived.Test.YtnmopmdpnpcdhaaTEd
import Derived.Test.YtnmopmdpnpcdhaaTEe

/- Are terms, clauses small? The program. -/
namespace Go.Proofs.Ytnmopmdpnpcdhaa
open Go.RowKit Go
set_option linter.unusedVariables false
set_option linter.unusedSimpArgs false
mutual
def T.dn (most : Int) : T → Nat → Bool
 | .mk f l, d => decide (d ≤ 30) && (if f < 0 then decide (-most ≤ f) && l.isEmpty else true) && T.dnL most l (d + 1)
def T.dnL (most : Int) : List T → Nat → Bool
 | [], _ => true
 | a :: r, d => a.dn most d && T.dnL most r d
end
/-- Are so many parts, and a term's, no more than there may be, from a depth on? -/
def smB (most : Int) (m d : Nat) (t : T) : Bool := decide (m + t.size ≤ 300) && t.dn most d
def smallB (most : Int) (t : T) : Bool := smB most 0 1 t
theorem dnL_all {most : Int} : ∀ {l : List T} {d : Nat}, T.dnL most l d = true ↔ ∀ k, k < l.length → (tget l k).dn most d = true
 | [], d => by simp [T.dnL]
 | a :: r, d => by
  rw [T.dnL, Bool.and_eq_true, dnL_all]
  constructor
  ·rintro ⟨h1, h2⟩ k hk
   cases k with
   | zero => exact h1
   | succ k => exact h2 k (by simpa using hk)
  ·intro h
   exact ⟨h 0 (by simp), fun k hk => h (k + 1) (by simpa using hk)⟩
theorem sizeL_take {l : List T} {k : Nat} (h : k < l.length) : T.sizeL (l.take (k + 1)) = T.sizeL (l.take k) + (tget l k).size := by
 have aux : ∀ a b : List T, T.sizeL (a ++ b) = T.sizeL a + T.sizeL b := fun a b => by
  induction a with
  | nil => simp [T.sizeL]
  | cons x r ih => simp only [List.cons_append, T.sizeL, ih]; omega
 rw [List.take_succ_eq_append_getElem h, aux, tget_lt h]; simp [T.sizeL]
theorem sizeL_take_le {l : List T} {k : Nat} : T.sizeL (l.take k) ≤ T.sizeL l := by
 have aux : ∀ a b : List T, T.sizeL (a ++ b) = T.sizeL a + T.sizeL b := fun a b => by
  induction a with
  | nil => simp [T.sizeL]
  | cons x r ih => simp only [List.cons_append, T.sizeL, ih]; omega
 have e := congrArg T.sizeL (List.take_append_drop k l)
 rw [aux] at e; omega
theorem smB_iff {most : Int} {m d : Nat} {t : T} : smB most m d t = true ↔ m + t.size ≤ 300 ∧ t.dn most d = true := by unfold smB; rw [Bool.and_eq_true, decide_eq_true_eq]
theorem dn_iff {most : Int} {d : Nat} {f : Int} {l : List T} : (T.mk f l).dn most d = true ↔ d ≤ 30 ∧ (f < 0 → -most ≤ f ∧ l = []) ∧ T.dnL most l (d + 1) = true := by
 rw [T.dn, Bool.and_eq_true, Bool.and_eq_true, decide_eq_true_eq, and_assoc]
 by_cases hf : f < 0
 ·rw [if_pos hf, Bool.and_eq_true, decide_eq_true_eq, List.isEmpty_iff]
  exact ⟨fun h => ⟨h.1, fun _ => h.2.1, h.2.2⟩, fun h => ⟨h.1, h.2.1 hf, h.2.2⟩⟩
 ·rw [if_neg hf]
  exact ⟨fun h => ⟨h.1, fun q => absurd q hf, h.2.2⟩, fun h => ⟨h.1, rfl, h.2.2⟩⟩
theorem size_mk {f : Int} {l : List T} : (T.mk f l).size = 1 + T.sizeL l := by rw [T.size]
theorem smB_head {most : Int} {m d : Nat} {f : Int} {l : List T} (h : (300 < m + 1 ∨ 30 < d) ∨ f < 0 ∧ (f < -most ∨ 0 < l.length)) : smB most m d (.mk f l) = false := by
 rw [Bool.eq_false_iff]; intro e
 rw [smB_iff, size_mk, dn_iff] at e
 obtain ⟨e1, e2, e3, _⟩ := e
 rcases h with (h | h) | ⟨h1, h2⟩
 ·omega
 ·omega
 ·obtain ⟨e4, rfl⟩ := e3 h1
  simp only [List.length_nil] at h2; omega
theorem smB_kid {most : Int} {m d k : Nat} {f : Int} {l : List T} (hk : k < l.length) (h : smB most (m + 1 + T.sizeL (l.take k)) (d + 1) (tget l k) = false) : smB most m d (.mk f l) = false := by
 rw [Bool.eq_false_iff] at h ⊢; intro e; apply h
 rw [smB_iff, size_mk, dn_iff] at e
 rw [smB_iff]
 have e1 := e.1
 have z1 := sizeL_take hk
 have z2 := sizeL_take_le (l := l) (k := k + 1)
 exact ⟨by omega, dnL_all.1 e.2.2.2 k hk⟩
theorem smB_yes {most : Int} {m d : Nat} {f : Int} {l : List T} (h0 : ¬ ((300 < m + 1 ∨ 30 < d) ∨ f < 0 ∧ (f < -most ∨ 0 < l.length))) (hn : m + 1 + T.sizeL l ≤ 300) (h : ∀ k, k < l.length → smB most (m + 1 + T.sizeL (l.take k)) (d + 1) (tget l k) = true) : smB most m d (.mk f l) = true := by
 rw [smB_iff, size_mk, dn_iff]
 exact ⟨by omega, by omega, fun hf => ⟨by omega, List.eq_nil_of_length_eq_zero (by omega)⟩, dnL_all.2 (fun k hk => (smB_iff.1 (h k hk)).2)⟩
set_option maxRecDepth 100000 in
theorem small1_any (most : Int) (hmost : 0 ≤ most ∧ most ≤ 1099511627776) (w0 : World) (gn gm gf : Nat) (hgn : w0.heap.size ≤ gn) (hmn : gm ≠ gn) (hfn : gf ≠ gn) : ∀ (t : T) (m d : Nat) (w : World) (pb po : Nat) (a : Option Addr) (c : Nat), m ≤ 1000 → d ≤ 31 → Below w0.heap.size w0 w → w0.cell? ⟨pb, po, none⟩ = some (.int .i64 t.f) → w0.cell? ⟨pb, po + 1, none⟩ = some (.slice a t.args.length c) → IsT w0 t (.agg #[.int .i64 t.f, .slice a t.args.length c]) →
  Blk w gn 3 #[.int .i64 (m : Int)] → Blk w gm 3 #[.int .i64 most] → Blk w gf 102 #[.func (.func 52) #[] #[.pointer (some ⟨gn, 0, none⟩), .pointer (some ⟨gm, 0, none⟩), .pointer (some ⟨gf, 0, none⟩)]] → Calls Try.prog 52 #[.pointer (some ⟨pb, po, none⟩), .int .i64 (d : Int), .pointer (some ⟨gn, 0, none⟩), .pointer (some ⟨gm, 0, none⟩), .pointer (some ⟨gf, 0, none⟩)] w (Ret fun v' w' => (v' = .bool (smB most m d t) ∧ ∃ m' : Nat, Blk w' gn 3 #[.int .i64 (m' : Int)] ∧ (smB most m d t = true → m' = m + t.size)) ∧ Chg (fun b => b = gn) w w') := by
 refine T.ind (fun f l ih => ?_)
 intro m d w pb po a c hm hd hw hc0 hc1 hT hN hM hF
 have hl0 : IsTs w0 l a 0 := (isT_row hT).2.2.2
 have hI : I64 f := hT.form.1
 unfold I64 at hI
 have hlen : l.length ≤ 9223372036854775807 := by have z := isT_row hT; have z2 := z.2.1; have z3 := z.2.2.1; unfold maxLen at z3; have z1 : l.length ≤ c := z2; omega
 have hc0' : w0.cell? ⟨pb, po, none⟩ = some (.int .i64 f) := hc0
 have hc1' : w0.cell? ⟨pb, po + 1, none⟩ = some (.slice a l.length c) := hc1
 refine Calls.walk (l := [.pointer (some ⟨pb, po, none⟩), .int .i64 (((d : Nat) : Int)), .pointer (some ⟨gn, 0, none⟩), .pointer (some ⟨gm, 0, none⟩), .pointer (some ⟨gf, 0, none⟩)]) Try.func52 rfl (by kernel_rfl) ?_
 refine WC.sub (K' := [(0, .pointer (some ⟨pb, po, none⟩)), (1, .int .i64 (((d : Nat) : Int))), (2, .pointer (some ⟨gn, 0, none⟩)), (3, .pointer (some ⟨gm, 0, none⟩)), (4, .pointer (some ⟨gf, 0, none⟩))]) ⟨rfl, rfl, rfl, rfl, rfl, trivial⟩ ?_
 refine WC.seq (WC.region (WL.asg rfl rfl rfl rfl rfl (WL.nil (WE.next (WC.seq (WC.seq (WC.region ?_)))))))
 refine WL.val _ rfl rfl rfl (fun za zC zh zk => ld_3 rfl (zh.ev rfl) ((hN.cell 0).trans rfl) zk) ?_
 refine WL.val (.int .i64 ((((m + 1) : Nat) : Int))) rfl rfl rfl (fun za zC zh zk => addb_3 rfl (zh.ev rfl) (zh.ev rfl) (wrap_eq (by omega) (by omega) (by omega)) zk) ?_
 refine WL.step (post := fun _ w' => Upd gn w w' ∧ Blk w' gn 3 #[.int .i64 ((((m + 1) : Nat) : Int))]) rfl rfl rfl (fun za zC zh zk => st_3 rfl (zh.ev rfl) (zh.ev rfl) hN (by first | decide | simp) (fun v => zk v _ ⟨Upd.at_ _ _ _ _, hN.set_ 0 _⟩)) ?_
 rintro v4 w1 ⟨hu2, hB3⟩
 have hb5 := upd_below hw hu2 (by omega)
 have hB6 := upd_blk hM hu2 (by omega)
 have hB7 := upd_blk hF hu2 (by omega)
 refine WL.nil (WE.next (WC.seq ?_))
 refine WC.opt [(true, .val (.int .i64 ((((m + 1) : Nat) : Int)))), (true, .val (.bool ((decide ((300 : Int) < ((((m + 1) : Nat) : Int) : Int)))))), (true, .val (.bool ((decide ((300 : Int) < ((((m + 1) : Nat) : Int) : Int)))))), ((true && !(decide ((300 : Int) < ((((m + 1) : Nat) : Int) : Int)))), .val (.int .i64 (((d : Nat) : Int)))), ((true && !(decide ((300 : Int) < ((((m + 1) : Nat) : Int) : Int)))), .val (.bool ((decide ((30 : Int) < (((d : Nat) : Int) : Int)))))), (true, .val (.bool (((decide ((300 : Int) < ((((m + 1) : Nat) : Int) : Int))) || (decide ((30 : Int) < (((d : Nat) : Int) : Int))))))), (true, .val (.bool (((decide ((300 : Int) < ((((m + 1) : Nat) : Int) : Int))) || (decide ((30 : Int) < (((d : Nat) : Int) : Int))))))), ((true && !((decide ((300 : Int) < ((((m + 1) : Nat) : Int) : Int))) || (decide ((30 : Int) < (((d : Nat) : Int) : Int))))), .val (.pointer (some ⟨pb, po, none⟩))), ((true && !((decide ((300 : Int) < ((((m + 1) : Nat) : Int) : Int))) || (decide ((30 : Int) < (((d : Nat) : Int) : Int))))), .val (.pointer (some ⟨pb, po, none⟩))), ((true && !((decide ((300 : Int) < ((((m + 1) : Nat) : Int) : Int))) || (decide ((30 : Int) < (((d : Nat) : Int) : Int))))), .val (.pointer (some ⟨pb, po, none⟩))), ((true && !((decide ((300 : Int) < ((((m + 1) : Nat) : Int) : Int))) || (decide ((30 : Int) < (((d : Nat) : Int) : Int))))), .val (.int .i64 f)), ((true && !((decide ((300 : Int) < ((((m + 1) : Nat) : Int) : Int))) || (decide ((30 : Int) < (((d : Nat) : Int) : Int))))), .val (.bool ((decide ((f : Int) < (0 : Int)))))), ((true && !((decide ((300 : Int) < ((((m + 1) : Nat) : Int) : Int))) || (decide ((30 : Int) < (((d : Nat) : Int) : Int))))), .val (.bool ((decide ((f : Int) < (0 : Int)))))), (((true && !((decide ((300 : Int) < ((((m + 1) : Nat) : Int) : Int))) || (decide ((30 : Int) < (((d : Nat) : Int) : Int))))) && (decide ((f : Int) < (0 : Int)))), .val (.pointer (some ⟨pb, po, none⟩))), (((true && !((decide ((300 : Int) < ((((m + 1) : Nat) : Int) : Int))) || (decide ((30 : Int) < (((d : Nat) : Int) : Int))))) && (decide ((f : Int) < (0 : Int)))), .val (.pointer (some ⟨pb, po, none⟩))), (((true && !((decide ((300 : Int) < ((((m + 1) : Nat) : Int) : Int))) || (decide ((30 : Int) < (((d : Nat) : Int) : Int))))) && (decide ((f : Int) < (0 : Int)))), .val (.pointer (some ⟨pb, po, none⟩))), (((true && !((decide ((300 : Int) < ((((m + 1) : Nat) : Int) : Int))) || (decide ((30 : Int) < (((d : Nat) : Int) : Int))))) && (decide ((f : Int) < (0 : Int)))), .val (.int .i64 f)), (((true && !((decide ((300 : Int) < ((((m + 1) : Nat) : Int) : Int))) || (decide ((30 : Int) < (((d : Nat) : Int) : Int))))) && (decide ((f : Int) < (0 : Int)))), .val (.int .i64 most)), (((true && !((decide ((300 : Int) < ((((m + 1) : Nat) : Int) : Int))) || (decide ((30 : Int) < (((d : Nat) : Int) : Int))))) && (decide ((f : Int) < (0 : Int)))), .val (.int .i64 ((-most)))), (((true && !((decide ((300 : Int) < ((((m + 1) : Nat) : Int) : Int))) || (decide ((30 : Int) < (((d : Nat) : Int) : Int))))) && (decide ((f : Int) < (0 : Int)))), .val (.bool ((decide ((f : Int) < ((-most) : Int)))))), (((true && !((decide ((300 : Int) < ((((m + 1) : Nat) : Int) : Int))) || (decide ((30 : Int) < (((d : Nat) : Int) : Int))))) && (decide ((f : Int) < (0 : Int)))), .val (.bool ((decide ((f : Int) < ((-most) : Int)))))), ((((true && !((decide ((300 : Int) < ((((m + 1) : Nat) : Int) : Int))) || (decide ((30 : Int) < (((d : Nat) : Int) : Int))))) && (decide ((f : Int) < (0 : Int)))) && !(decide ((f : Int) < ((-most) : Int)))), .val (.pointer (some ⟨pb, po, none⟩))), ((((true && !((decide ((300 : Int) < ((((m + 1) : Nat) : Int) : Int))) || (decide ((30 : Int) < (((d : Nat) : Int) : Int))))) && (decide ((f : Int) < (0 : Int)))) && !(decide ((f : Int) < ((-most) : Int)))), .val (.pointer (some ⟨pb, po, none⟩))), ((((true && !((decide ((300 : Int) < ((((m + 1) : Nat) : Int) : Int))) || (decide ((30 : Int) < (((d : Nat) : Int) : Int))))) && (decide ((f : Int) < (0 : Int)))) && !(decide ((f : Int) < ((-most) : Int)))), .val (.pointer (some ⟨pb, po + 1, none⟩))), ((((true && !((decide ((300 : Int) < ((((m + 1) : Nat) : Int) : Int))) || (decide ((30 : Int) < (((d : Nat) : Int) : Int))))) && (decide ((f : Int) < (0 : Int)))) && !(decide ((f : Int) < ((-most) : Int)))), .val (.slice a l.length c)), ((((true && !((decide ((300 : Int) < ((((m + 1) : Nat) : Int) : Int))) || (decide ((30 : Int) < (((d : Nat) : Int) : Int))))) && (decide ((f : Int) < (0 : Int)))) && !(decide ((f : Int) < ((-most) : Int)))), .val (.int .i64 (((l.length : Nat) : Int)))), ((((true && !((decide ((300 : Int) < ((((m + 1) : Nat) : Int) : Int))) || (decide ((30 : Int) < (((d : Nat) : Int) : Int))))) && (decide ((f : Int) < (0 : Int)))) && !(decide ((f : Int) < ((-most) : Int)))), .val (.bool ((decide ((0 : Int) < (((l.length : Nat) : Int) : Int)))))), (((true && !((decide ((300 : Int) < ((((m + 1) : Nat) : Int) : Int))) || (decide ((30 : Int) < (((d : Nat) : Int) : Int))))) && (decide ((f : Int) < (0 : Int)))), .val (.bool (((decide ((f : Int) < ((-most) : Int))) || (decide ((0 : Int) < (((l.length : Nat) : Int) : Int))))))), ((true && !((decide ((300 : Int) < ((((m + 1) : Nat) : Int) : Int))) || (decide ((30 : Int) < (((d : Nat) : Int) : Int))))), .val (.bool (((decide ((f : Int) < (0 : Int))) && ((decide ((f : Int) < ((-most) : Int))) || (decide ((0 : Int) < (((l.length : Nat) : Int) : Int)))))))), (true, .val (.bool ((((decide ((300 : Int) < ((((m + 1) : Nat) : Int) : Int))) || (decide ((30 : Int) < (((d : Nat) : Int) : Int)))) || ((decide ((f : Int) < (0 : Int))) && ((decide ((f : Int) < ((-most) : Int))) || (decide ((0 : Int) < (((l.length : Nat) : Int) : Int)))))))))] [(0, .pointer (some ⟨pb, po, none⟩)), (1, .int .i64 (((d : Nat) : Int))), (2, .pointer (some ⟨gn, 0, none⟩)), (3, .pointer (some ⟨gm, 0, none⟩)), (4, .pointer (some ⟨gf, 0, none⟩)), (7, .bool false)] ⟨rfl, rfl, rfl, rfl, rfl, rfl, trivial⟩ (by kernel_rfl) (by kernel_rfl) (by kernel_rfl) ?_ ?_
 ·refine ⟨⟨true, .none rfl, fun h w => optUndef h, fun zβ za zw zc => ?_⟩, ?_⟩
  ·exact ld_3 rfl (zc.kn.ev rfl) (bkeeps zc.below _ _ ((hB3.cell 0).trans rfl)) ⟨_, rfl, Below.refl _ _, optDef zβ rfl⟩
  refine ⟨⟨true, .none rfl, fun h w => optUndef h, fun zβ za zw zc => ?_⟩, ?_⟩
  ·exact gtr_3 rfl ((evt za 11).trans (optVal (zc.dep 0 11 (by kernel_rfl)) rfl rfl)) (zc.kn.ev rfl) ⟨_, rfl, Below.refl _ _, optDef zβ rfl⟩
  refine ⟨⟨true, .none rfl, fun h w => optUndef h, fun zβ za zw zc => ?_⟩, ?_⟩
  ·exact wp_move rfl ((evt za 12).trans (optVal (zc.dep 1 12 (by kernel_rfl)) rfl rfl)) ⟨_, rfl, Below.refl _ _, optDef zβ rfl⟩
  refine ⟨⟨_, .no (c := (decide ((300 : Int) < ((((m + 1) : Nat) : Int) : Int)))) (d := true) rfl (fun v w h => h), fun h w => optUndef h, fun zβ za zw zc => ?_⟩, ?_⟩
  ·exact wp_move rfl (zc.kn.ev rfl) ⟨_, rfl, Below.refl _ _, optDef zβ rfl⟩
  refine ⟨⟨_, .no (c := (decide ((300 : Int) < ((((m + 1) : Nat) : Int) : Int)))) (d := true) rfl (fun v w h => h), fun h w => optUndef h, fun zβ za zw zc => ?_⟩, ?_⟩
  ·exact gtr_3 rfl ((evt za 14).trans (optVal (zc.dep 3 14 (by kernel_rfl)) rfl zβ)) (zc.kn.ev rfl) ⟨_, rfl, Below.refl _ _, optDef zβ rfl⟩
  refine ⟨⟨true, .none rfl, fun h w => optUndef h, fun zβ za zw zc => ?_⟩, ?_⟩
  ·exact wp_or rfl ((evt za 13).trans (optVal (zc.dep 2 13 (by kernel_rfl)) rfl rfl)) (fun hp => ((evt za 15).trans (optVal (zc.dep 4 15 (by kernel_rfl)) rfl (bMkN zβ hp)))) ⟨_, rfl, Below.refl _ _, optDef zβ rfl⟩
  refine ⟨⟨true, .none rfl, fun h w => optUndef h, fun zβ za zw zc => ?_⟩, ?_⟩
  ·exact wp_move rfl ((evt za 16).trans (optVal (zc.dep 5 16 (by kernel_rfl)) rfl rfl)) ⟨_, rfl, Below.refl _ _, optDef zβ rfl⟩
  refine ⟨⟨_, .no (c := ((decide ((300 : Int) < ((((m + 1) : Nat) : Int) : Int))) || (decide ((30 : Int) < (((d : Nat) : Int) : Int))))) (d := true) rfl (fun v w h => h), fun h w => optUndef h, fun zβ za zw zc => ?_⟩, ?_⟩
  ·exact wp_move rfl (zc.kn.ev rfl) ⟨_, rfl, Below.refl _ _, optDef zβ rfl⟩
  refine ⟨⟨_, .no (c := ((decide ((300 : Int) < ((((m + 1) : Nat) : Int) : Int))) || (decide ((30 : Int) < (((d : Nat) : Int) : Int))))) (d := true) rfl (fun v w h => h), fun h w => optUndef h, fun zβ za zw zc => ?_⟩, ?_⟩
  ·exact nilCheck_ rfl ((evt za 18).trans (optVal (zc.dep 7 18 (by kernel_rfl)) rfl zβ)) ⟨_, rfl, Below.refl _ _, optDef zβ rfl⟩
  refine ⟨⟨_, .no (c := ((decide ((300 : Int) < ((((m + 1) : Nat) : Int) : Int))) || (decide ((30 : Int) < (((d : Nat) : Int) : Int))))) (d := true) rfl (fun v w h => h), fun h w => optUndef h, fun zβ za zw zc => ?_⟩, ?_⟩
  ·exact fld_58_0 rfl ((evt za 19).trans (optVal (zc.dep 8 19 (by kernel_rfl)) rfl zβ)) ⟨_, rfl, Below.refl _ _, optDef zβ rfl⟩
  refine ⟨⟨_, .no (c := ((decide ((300 : Int) < ((((m + 1) : Nat) : Int) : Int))) || (decide ((30 : Int) < (((d : Nat) : Int) : Int))))) (d := true) rfl (fun v w h => h), fun h w => optUndef h, fun zβ za zw zc => ?_⟩, ?_⟩
  ·exact ld_3 rfl ((evt za 20).trans (optVal (zc.dep 9 20 (by kernel_rfl)) rfl zβ)) (bkeeps (bstep hb5 zc.below) _ _ hc0') ⟨_, rfl, Below.refl _ _, optDef zβ rfl⟩
  refine ⟨⟨_, .no (c := ((decide ((300 : Int) < ((((m + 1) : Nat) : Int) : Int))) || (decide ((30 : Int) < (((d : Nat) : Int) : Int))))) (d := true) rfl (fun v w h => h), fun h w => optUndef h, fun zβ za zw zc => ?_⟩, ?_⟩
  ·exact lss_3 rfl ((evt za 21).trans (optVal (zc.dep 10 21 (by kernel_rfl)) rfl zβ)) (zc.kn.ev rfl) ⟨_, rfl, Below.refl _ _, optDef zβ rfl⟩
  refine ⟨⟨_, .no (c := ((decide ((300 : Int) < ((((m + 1) : Nat) : Int) : Int))) || (decide ((30 : Int) < (((d : Nat) : Int) : Int))))) (d := true) rfl (fun v w h => h), fun h w => optUndef h, fun zβ za zw zc => ?_⟩, ?_⟩
  ·exact wp_move rfl ((evt za 22).trans (optVal (zc.dep 11 22 (by kernel_rfl)) rfl zβ)) ⟨_, rfl, Below.refl _ _, optDef zβ rfl⟩
  refine ⟨⟨_, .yes (c := (decide ((f : Int) < (0 : Int)))) (d := (true && !((decide ((300 : Int) < ((((m + 1) : Nat) : Int) : Int))) || (decide ((30 : Int) < (((d : Nat) : Int) : Int)))))) rfl (fun v w h => h), fun h w => optUndef h, fun zβ za zw zc => ?_⟩, ?_⟩
  ·exact wp_move rfl (zc.kn.ev rfl) ⟨_, rfl, Below.refl _ _, optDef zβ rfl⟩
  refine ⟨⟨_, .yes (c := (decide ((f : Int) < (0 : Int)))) (d := (true && !((decide ((300 : Int) < ((((m + 1) : Nat) : Int) : Int))) || (decide ((30 : Int) < (((d : Nat) : Int) : Int)))))) rfl (fun v w h => h), fun h w => optUndef h, fun zβ za zw zc => ?_⟩, ?_⟩
  ·exact nilCheck_ rfl ((evt za 24).trans (optVal (zc.dep 13 24 (by kernel_rfl)) rfl zβ)) ⟨_, rfl, Below.refl _ _, optDef zβ rfl⟩
  refine ⟨⟨_, .yes (c := (decide ((f : Int) < (0 : Int)))) (d := (true && !((decide ((300 : Int) < ((((m + 1) : Nat) : Int) : Int))) || (decide ((30 : Int) < (((d : Nat) : Int) : Int)))))) rfl (fun v w h => h), fun h w => optUndef h, fun zβ za zw zc => ?_⟩, ?_⟩
  ·exact fld_58_0 rfl ((evt za 25).trans (optVal (zc.dep 14 25 (by kernel_rfl)) rfl zβ)) ⟨_, rfl, Below.refl _ _, optDef zβ rfl⟩
  refine ⟨⟨_, .yes (c := (decide ((f : Int) < (0 : Int)))) (d := (true && !((decide ((300 : Int) < ((((m + 1) : Nat) : Int) : Int))) || (decide ((30 : Int) < (((d : Nat) : Int) : Int)))))) rfl (fun v w h => h), fun h w => optUndef h, fun zβ za zw zc => ?_⟩, ?_⟩
  ·exact ld_3 rfl ((evt za 26).trans (optVal (zc.dep 15 26 (by kernel_rfl)) rfl zβ)) (bkeeps (bstep hb5 zc.below) _ _ hc0') ⟨_, rfl, Below.refl _ _, optDef zβ rfl⟩
  refine ⟨⟨_, .yes (c := (decide ((f : Int) < (0 : Int)))) (d := (true && !((decide ((300 : Int) < ((((m + 1) : Nat) : Int) : Int))) || (decide ((30 : Int) < (((d : Nat) : Int) : Int)))))) rfl (fun v w h => h), fun h w => optUndef h, fun zβ za zw zc => ?_⟩, ?_⟩
  ·exact ld_3 rfl (zc.kn.ev rfl) (bkeeps zc.below _ _ ((hB6.cell 0).trans rfl)) ⟨_, rfl, Below.refl _ _, optDef zβ rfl⟩
  refine ⟨⟨_, .yes (c := (decide ((f : Int) < (0 : Int)))) (d := (true && !((decide ((300 : Int) < ((((m + 1) : Nat) : Int) : Int))) || (decide ((30 : Int) < (((d : Nat) : Int) : Int)))))) rfl (fun v w h => h), fun h w => optUndef h, fun zβ za zw zc => ?_⟩, ?_⟩
  ·exact negb_3 rfl ((evt za 28).trans (optVal (zc.dep 17 28 (by kernel_rfl)) rfl zβ)) (wrap_eq (by omega) (by omega) (by omega)) ⟨_, rfl, Below.refl _ _, optDef zβ rfl⟩
  refine ⟨⟨_, .yes (c := (decide ((f : Int) < (0 : Int)))) (d := (true && !((decide ((300 : Int) < ((((m + 1) : Nat) : Int) : Int))) || (decide ((30 : Int) < (((d : Nat) : Int) : Int)))))) rfl (fun v w h => h), fun h w => optUndef h, fun zβ za zw zc => ?_⟩, ?_⟩
  ·exact lss_3 rfl ((evt za 27).trans (optVal (zc.dep 16 27 (by kernel_rfl)) rfl zβ)) ((evt za 29).trans (optVal (zc.dep 18 29 (by kernel_rfl)) rfl zβ)) ⟨_, rfl, Below.refl _ _, optDef zβ rfl⟩
  refine ⟨⟨_, .yes (c := (decide ((f : Int) < (0 : Int)))) (d := (true && !((decide ((300 : Int) < ((((m + 1) : Nat) : Int) : Int))) || (decide ((30 : Int) < (((d : Nat) : Int) : Int)))))) rfl (fun v w h => h), fun h w => optUndef h, fun zβ za zw zc => ?_⟩, ?_⟩
  ·exact wp_move rfl ((evt za 30).trans (optVal (zc.dep 19 30 (by kernel_rfl)) rfl zβ)) ⟨_, rfl, Below.refl _ _, optDef zβ rfl⟩
  refine ⟨⟨_, .no (c := (decide ((f : Int) < ((-most) : Int)))) (d := ((true && !((decide ((300 : Int) < ((((m + 1) : Nat) : Int) : Int))) || (decide ((30 : Int) < (((d : Nat) : Int) : Int))))) && (decide ((f : Int) < (0 : Int))))) rfl (fun v w h => h), fun h w => optUndef h, fun zβ za zw zc => ?_⟩, ?_⟩
  ·exact wp_move rfl (zc.kn.ev rfl) ⟨_, rfl, Below.refl _ _, optDef zβ rfl⟩
  refine ⟨⟨_, .no (c := (decide ((f : Int) < ((-most) : Int)))) (d := ((true && !((decide ((300 : Int) < ((((m + 1) : Nat) : Int) : Int))) || (decide ((30 : Int) < (((d : Nat) : Int) : Int))))) && (decide ((f : Int) < (0 : Int))))) rfl (fun v w h => h), fun h w => optUndef h, fun zβ za zw zc => ?_⟩, ?_⟩
  ·exact nilCheck_ rfl ((evt za 32).trans (optVal (zc.dep 21 32 (by kernel_rfl)) rfl zβ)) ⟨_, rfl, Below.refl _ _, optDef zβ rfl⟩
  refine ⟨⟨_, .no (c := (decide ((f : Int) < ((-most) : Int)))) (d := ((true && !((decide ((300 : Int) < ((((m + 1) : Nat) : Int) : Int))) || (decide ((30 : Int) < (((d : Nat) : Int) : Int))))) && (decide ((f : Int) < (0 : Int))))) rfl (fun v w h => h), fun h w => optUndef h, fun zβ za zw zc => ?_⟩, ?_⟩
  ·exact fld_58_1 rfl ((evt za 33).trans (optVal (zc.dep 22 33 (by kernel_rfl)) rfl zβ)) ⟨_, rfl, Below.refl _ _, optDef zβ rfl⟩
  refine ⟨⟨_, .no (c := (decide ((f : Int) < ((-most) : Int)))) (d := ((true && !((decide ((300 : Int) < ((((m + 1) : Nat) : Int) : Int))) || (decide ((30 : Int) < (((d : Nat) : Int) : Int))))) && (decide ((f : Int) < (0 : Int))))) rfl (fun v w h => h), fun h w => optUndef h, fun zβ za zw zc => ?_⟩, ?_⟩
  ·exact ld_56 rfl ((evt za 34).trans (optVal (zc.dep 23 34 (by kernel_rfl)) rfl zβ)) (bkeeps (bstep hb5 zc.below) _ _ hc1') ⟨_, rfl, Below.refl _ _, optDef zβ rfl⟩
  refine ⟨⟨_, .no (c := (decide ((f : Int) < ((-most) : Int)))) (d := ((true && !((decide ((300 : Int) < ((((m + 1) : Nat) : Int) : Int))) || (decide ((30 : Int) < (((d : Nat) : Int) : Int))))) && (decide ((f : Int) < (0 : Int))))) rfl (fun v w h => h), fun h w => optUndef h, fun zβ za zw zc => ?_⟩, ?_⟩
  ·exact len_56 rfl ((evt za 35).trans (optVal (zc.dep 24 35 (by kernel_rfl)) rfl zβ)) ⟨_, rfl, Below.refl _ _, optDef zβ rfl⟩
  refine ⟨⟨_, .no (c := (decide ((f : Int) < ((-most) : Int)))) (d := ((true && !((decide ((300 : Int) < ((((m + 1) : Nat) : Int) : Int))) || (decide ((30 : Int) < (((d : Nat) : Int) : Int))))) && (decide ((f : Int) < (0 : Int))))) rfl (fun v w h => h), fun h w => optUndef h, fun zβ za zw zc => ?_⟩, ?_⟩
  ·exact gtr_3 rfl ((evt za 36).trans (optVal (zc.dep 25 36 (by kernel_rfl)) rfl zβ)) (zc.kn.ev rfl) ⟨_, rfl, Below.refl _ _, optDef zβ rfl⟩
  refine ⟨⟨_, .yes (c := (decide ((f : Int) < (0 : Int)))) (d := (true && !((decide ((300 : Int) < ((((m + 1) : Nat) : Int) : Int))) || (decide ((30 : Int) < (((d : Nat) : Int) : Int)))))) rfl (fun v w h => h), fun h w => optUndef h, fun zβ za zw zc => ?_⟩, ?_⟩
  ·exact wp_or rfl ((evt za 31).trans (optVal (zc.dep 20 31 (by kernel_rfl)) rfl zβ)) (fun hp => ((evt za 37).trans (optVal (zc.dep 26 37 (by kernel_rfl)) rfl (bMkN zβ hp)))) ⟨_, rfl, Below.refl _ _, optDef zβ rfl⟩
  refine ⟨⟨_, .no (c := ((decide ((300 : Int) < ((((m + 1) : Nat) : Int) : Int))) || (decide ((30 : Int) < (((d : Nat) : Int) : Int))))) (d := true) rfl (fun v w h => h), fun h w => optUndef h, fun zβ za zw zc => ?_⟩, ?_⟩
  ·exact wp_and rfl ((evt za 23).trans (optVal (zc.dep 12 23 (by kernel_rfl)) rfl zβ)) (fun hp => ((evt za 38).trans (optVal (zc.dep 27 38 (by kernel_rfl)) rfl (bMk zβ hp)))) ⟨_, rfl, Below.refl _ _, optDef zβ rfl⟩
  refine ⟨⟨true, .none rfl, fun h w => optUndef h, fun zβ za zw zc => ?_⟩, ?_⟩
  ·exact wp_or rfl ((evt za 17).trans (optVal (zc.dep 6 17 (by kernel_rfl)) rfl rfl)) (fun hp => ((evt za 39).trans (optVal (zc.dep 28 39 (by kernel_rfl)) rfl (bMkN zβ hp)))) ⟨_, rfl, Below.refl _ _, optDef zβ rfl⟩
  exact trivial
 ·intro za w8 zh hb9 zu
  have zh := zh.cons (d := 40) (v := .bool ((((decide ((300 : Int) < ((((m + 1) : Nat) : Int) : Int))) || (decide ((30 : Int) < (((d : Nat) : Int) : Int)))) || ((decide ((f : Int) < (0 : Int))) && ((decide ((f : Int) < ((-most) : Int))) || (decide ((0 : Int) < (((l.length : Nat) : Int) : Int)))))))) (optVal (zu 29 40 (by kernel_rfl)) rfl rfl)
  clear zu
  refine WE.go zh ?_
  refine WE.next ?_
  refine WC.cond rfl (fun h10 => ?_) (fun h10 => ?_)
  ·have h10 : (((300 : Int) < ((((m + 1) : Nat) : Int) : Int)) ∨ ((30 : Int) < (((d : Nat) : Int) : Int))) ∨ (((f : Int) < (0 : Int)) ∧ (((f : Int) < ((-most) : Int)) ∨ ((0 : Int) < (((l.length : Nat) : Int) : Int)))) := by simpa using h10
   refine WC.seq (WC.region (WL.asg rfl rfl rfl rfl rfl (WL.nil (WE.next (WC.ret (WE.thenRet (WE.ret1 rfl rfl ?_)))))))
   have hB11 := hB3.below hb9
   have hs12 : Chg ((fun b => b = gn)) w w8 := (Chg.trans2 (Chg.trans2 (Chg.refl ((fun b => b = gn)) _) (Chg.ofUpd (S := fun k => k = gn) hu2 rfl) (fun i h1 h2 => by first | exact h2 | exact .inl ⟨h2, h1⟩ | exact .inl h2 | exact .inr h2 | exact .inr (.inl h2) | exact .inr (.inr h2) | ((try dsimp only at *); omega))) (Chg.ofBelow (S := fun k => k < 0) hb9) (fun i h1 h2 => by first | exact h2 | exact .inl ⟨h2, h1⟩ | exact .inl h2 | exact .inr h2 | exact .inr (.inl h2) | exact .inr (.inr h2) | ((try dsimp only at *); omega)))
   have hno : smB most m d (.mk f l) = false := smB_head (by omega)
   exact ⟨_, rfl, ⟨by rw [hno], _, hB11, fun h => by rw [hno] at h; cases h⟩, hs12⟩
  ·have h10 : ¬ ((((300 : Int) < ((((m + 1) : Nat) : Int) : Int)) ∨ ((30 : Int) < (((d : Nat) : Int) : Int))) ∨ (((f : Int) < (0 : Int)) ∧ (((f : Int) < ((-most) : Int)) ∨ ((0 : Int) < (((l.length : Nat) : Int) : Int))))) := by simpa using h10
   have hd30 : d ≤ 30 := by omega
   have hm3 : m + 1 ≤ 300 := by omega
   refine WC.skip (WE.next (WC.seq (WC.seq (WC.region (WL.mv rfl rfl rfl rfl rfl ?_)))))
   refine WL.val _ rfl rfl rfl (fun za zC zh zk => nilCheck_ rfl (zh.ev rfl) zk) ?_
   refine WL.val _ rfl rfl rfl (fun za zC zh zk => fld_58_1 rfl (zh.ev rfl) zk) ?_
   have hb13 : Below w0.heap.size w0 w8 := (bstep hb5 hb9)
   refine WL.val _ rfl rfl rfl (fun za zC zh zk => ld_56 rfl (zh.ev rfl) (bkeeps hb13 _ _ hc1') zk) ?_
   refine WL.val (.int .i64 (((l.length : Nat) : Int))) rfl rfl rfl (fun za zC zh zk => len_56 rfl (zh.ev rfl) zk) ?_
   refine WL.mv rfl rfl rfl rfl rfl (WL.nil (WE.next (WC.block ?_)))
   have hs14 : Chg ((fun b => b = gn)) w w8 := (Chg.trans2 (Chg.trans2 (Chg.refl ((fun b => b = gn)) _) (Chg.ofUpd (S := fun k => k = gn) hu2 rfl) (fun i h1 h2 => by first | exact h2 | exact .inl ⟨h2, h1⟩ | exact .inl h2 | exact .inr h2 | exact .inr (.inl h2) | exact .inr (.inr h2) | ((try dsimp only at *); omega))) (Chg.ofBelow (S := fun k => k < 0) hb9) (fun i h1 h2 => by first | exact h2 | exact .inl ⟨h2, h1⟩ | exact .inl h2 | exact .inr h2 | exact .inr (.inl h2) | exact .inr (.inr h2) | ((try dsimp only at *); omega)))
   refine WC.loop (X := Nat) (fun i => l.length - i) (fun i => [(0, .pointer (some ⟨pb, po, none⟩)), (1, .int .i64 (((d : Nat) : Int))), (2, .pointer (some ⟨gn, 0, none⟩)), (3, .pointer (some ⟨gm, 0, none⟩)), (4, .pointer (some ⟨gf, 0, none⟩)), (40, .bool ((((decide ((300 : Int) < ((((m + 1) : Nat) : Int) : Int))) || (decide ((30 : Int) < (((d : Nat) : Int) : Int)))) || ((decide ((f : Int) < (0 : Int))) && ((decide ((f : Int) < ((-most) : Int))) || (decide ((0 : Int) < (((l.length : Nat) : Int) : Int)))))))), (45, .int .i64 (((l.length : Nat) : Int))), (46, .int .i64 (((i : Nat) : Int)))]) (fun i w15 => i ≤ l.length ∧ m + 1 + T.sizeL (l.take i) ≤ 300 ∧ (∀ k, k < i → smB most (m + 1 + T.sizeL (l.take k)) (d + 1) (tget l k) = true) ∧ Chg (fun b => b = gn) w w15 ∧ Below w0.heap.size w0 w15 ∧ Blk w15 gm 3 #[.int .i64 most] ∧ Blk w15 gf 102 #[.func (.func 52) #[] #[.pointer (some ⟨gn, 0, none⟩), .pointer (some ⟨gm, 0, none⟩), .pointer (some ⟨gf, 0, none⟩)]] ∧ Blk w15 gn 3 #[.int .i64 ((((m + 1 + T.sizeL (l.take i)) : Nat) : Int))]) 0 ⟨rfl, rfl, rfl, rfl, rfl, rfl, rfl, rfl, trivial⟩ ?_ ?_
   ·have hB16 := hB6.below hb9
    have hB17 := hB7.below hb9
    have hB18 := hB3.below hb9
    exact ⟨Nat.zero_le _, by simp [T.sizeL]; omega, fun k h => absurd h (Nat.not_lt_zero k), hs14, hb13, hB16, hB17, (by simpa [T.sizeL] using hB18)⟩
   ·rintro i w15 ⟨hi, hs, hall, hcg, hb19, hB20, hB21, hB22⟩
    refine WC.seq (WC.region ?_)
    refine WL.val (.bool ((decide ((((i : Nat) : Int) : Int) < (((l.length : Nat) : Int) : Int))))) rfl rfl rfl (fun za zC zh zk => lss_3 rfl (zh.ev rfl) (zh.ev rfl) zk) ?_
    refine WL.nil (WE.next (WC.seq ?_))
    refine WC.cond rfl (fun h23 => ?_) (fun h23 => ?_)
    ·have h23 : (((i : Nat) : Int) : Int) < (((l.length : Nat) : Int) : Int) := by simpa using h23
     refine WC.skip (WE.next (WC.seq (WC.block (WC.seq (WC.region (WL.mv rfl rfl rfl rfl rfl (WL.asg rfl rfl rfl rfl rfl (WL.nil (WE.next (WC.seq ?_))))))))))
     obtain ⟨b24, o25, A26, C27, ha28, hc29⟩ := IsTs.open hl0
     refine WC.seqV (S := ((fun b => b = gn))) [(true, .val (.func (.func 52) #[] #[.pointer (some ⟨gn, 0, none⟩), .pointer (some ⟨gm, 0, none⟩), .pointer (some ⟨gf, 0, none⟩)])), (true, .val (.pointer (some ⟨pb, po, none⟩))), (true, .val (.pointer (some ⟨pb, po, none⟩))), (true, .val (.pointer (some ⟨pb, po + 1, none⟩))), (true, .val (.slice a l.length c)), (true, .val (.int .i64 (((i : Nat) : Int)))), (true, .val (.pointer (some ⟨b24, o25 + i * 2, none⟩))), (true, .val (.int .i64 (((d : Nat) : Int)))), (true, .val (.int .i64 ((((d + 1) : Nat) : Int)))), (true, .val undef), (true, .val (.bool ((!(smB most (m + 1 + T.sizeL (l.take i)) (d + 1) (tget l i))))))] [(0, .pointer (some ⟨pb, po, none⟩)), (1, .int .i64 (((d : Nat) : Int))), (2, .pointer (some ⟨gn, 0, none⟩)), (3, .pointer (some ⟨gm, 0, none⟩)), (4, .pointer (some ⟨gf, 0, none⟩)), (8, .int .i64 (((i : Nat) : Int))), (40, .bool ((((decide ((300 : Int) < ((((m + 1) : Nat) : Int) : Int))) || (decide ((30 : Int) < (((d : Nat) : Int) : Int)))) || ((decide ((f : Int) < (0 : Int))) && ((decide ((f : Int) < ((-most) : Int))) || (decide ((0 : Int) < (((l.length : Nat) : Int) : Int)))))))), (45, .int .i64 (((l.length : Nat) : Int))), (46, .int .i64 (((i : Nat) : Int))), (47, .bool ((decide ((((i : Nat) : Int) : Int) < (((l.length : Nat) : Int) : Int)))))] [9] [some (true, .bool ((smB most (m + 1 + T.sizeL (l.take i)) (d + 1) (tget l i))))] (fun vs wz => match vs with | [] => Blk wz gn 3 #[.int .i64 ((((m + 1 + T.sizeL (l.take i)) : Nat) : Int))] | _ => ∃ m2 : Nat, Blk wz gn 3 #[.int .i64 (m2 : Int)] ∧ ((smB most (m + 1 + T.sizeL (l.take i)) (d + 1) (tget l i)) = true → m2 = m + 1 + T.sizeL (l.take i) + (tget l i).size)) ((fun vs w w' hb h => by
      match vs, h with
      | [], h => exact Blk.below h hb
      | _ :: _, ⟨m2, h1, h2⟩ => exact ⟨m2, h1.below hb, h2⟩)) (by decide) ⟨rfl, rfl, rfl, rfl, rfl, rfl, rfl, rfl, rfl, rfl, trivial⟩ (by kernel_rfl) (by kernel_rfl) (by kernel_rfl) (by kernel_rfl) hB22 ?_ ?_
     ·refine ⟨.inl ⟨rfl, true, .none rfl, (fun gg b h => by cases h), fun h w => optUndef h, fun zβ za zw zc => ?_⟩, ?_⟩
      ·exact ld_102 rfl (zc.kn.ev rfl) (chg_cell zc.chg (by (try dsimp only at *); omega) ((hB21.cell 0).trans rfl)) ⟨_, rfl, Below.refl _ _, optDef zβ rfl⟩
      refine ⟨.inl ⟨rfl, true, .none rfl, (fun gg b h => by cases h), fun h w => optUndef h, fun zβ za zw zc => ?_⟩, ?_⟩
      ·exact wp_move rfl (zc.kn.ev rfl) ⟨_, rfl, Below.refl _ _, optDef zβ rfl⟩
      refine ⟨.inl ⟨rfl, true, .none rfl, (fun gg b h => by cases h), fun h w => optUndef h, fun zβ za zw zc => ?_⟩, ?_⟩
      ·exact nilCheck_ rfl ((evt za 50).trans (optSVal (zc.dep 1 50 (by kernel_rfl) (by decide)) rfl rfl)) ⟨_, rfl, Below.refl _ _, optDef zβ rfl⟩
      refine ⟨.inl ⟨rfl, true, .none rfl, (fun gg b h => by cases h), fun h w => optUndef h, fun zβ za zw zc => ?_⟩, ?_⟩
      ·exact fld_58_1 rfl ((evt za 51).trans (optSVal (zc.dep 2 51 (by kernel_rfl) (by decide)) rfl rfl)) ⟨_, rfl, Below.refl _ _, optDef zβ rfl⟩
      refine ⟨.inl ⟨rfl, true, .none rfl, (fun gg b h => by cases h), fun h w => optUndef h, fun zβ za zw zc => ?_⟩, ?_⟩
      ·exact ld_56 rfl ((evt za 52).trans (optSVal (zc.dep 3 52 (by kernel_rfl) (by decide)) rfl rfl)) (chg_old hb19 zc.chg (fun b hb => by (try dsimp only at *); omega) hc1') ⟨_, rfl, Below.refl _ _, optDef zβ rfl⟩
      refine ⟨.inl ⟨rfl, true, .none rfl, (fun gg b h => by cases h), fun h w => optUndef h, fun zβ za zw zc => ?_⟩, ?_⟩
      ·exact wp_move rfl (zc.kn.ev rfl) ⟨_, rfl, Below.refl _ _, optDef zβ rfl⟩
      refine ⟨.inl ⟨rfl, true, .none rfl, (fun gg b h => by cases h), fun h w => optUndef h, fun zβ za zw zc => ?_⟩, ?_⟩
      ·exact ix_56 (k := i) rfl ((evt za 53).trans (optSVal (zc.dep 4 53 (by kernel_rfl) (by decide)) rfl rfl)) (ha28 i (by first | omega | (simp; omega))) ((evt za 54).trans (optSVal (zc.dep 5 54 (by kernel_rfl) (by decide)) rfl rfl)) (by first | omega | (simp; omega)) ⟨_, rfl, Below.refl _ _, optDef zβ rfl⟩
      refine ⟨.inl ⟨rfl, true, .none rfl, (fun gg b h => by cases h), fun h w => optUndef h, fun zβ za zw zc => ?_⟩, ?_⟩
      ·exact wp_move rfl (zc.kn.ev rfl) ⟨_, rfl, Below.refl _ _, optDef zβ rfl⟩
      refine ⟨.inl ⟨rfl, true, .none rfl, (fun gg b h => by cases h), fun h w => optUndef h, fun zβ za zw zc => ?_⟩, ?_⟩
      ·exact addb_3 rfl ((evt za 56).trans (optSVal (zc.dep 7 56 (by kernel_rfl) (by decide)) rfl rfl)) (zc.kn.ev rfl) (wrap_eq (by omega) (by omega) (by omega)) ⟨_, rfl, Below.refl _ _, optDef zβ rfl⟩
      refine ⟨.inr ⟨0, rfl, by kernel_rfl, true, .none rfl, (fun gg b h => by cases h), (fun h => (nomatch h)), fun zβ za zw zvals zc => ?_⟩, ?_⟩
      ·obtain rfl := vlen0 zc.len
       have zn := zc.now
       have hw9 := chg_below hb19 zc.chg (fun b hb e => by (try dsimp only at *); omega)
       exact wp_callv (by kernel_rfl) rfl ((evt za 49).trans (optSVal (zc.dep 0 49 (by kernel_rfl) (by decide)) rfl rfl)) (hv2 ((evt za 55).trans (optSVal (zc.dep 6 55 (by kernel_rfl) (by decide)) rfl rfl)) ((evt za 57).trans (optSVal (zc.dep 8 57 (by kernel_rfl) (by decide)) rfl rfl))) (ih (tget l i) (tget_mem (by omega)) (m + 1 + T.sizeL (l.take i)) (d + 1) _ _ _ _ _ (by omega) (by omega) hw9 (hc29 i (by omega)).1 (hc29 i (by omega)).2.1 (hc29 i (by omega)).2.2 zn (chg_blk hB20 zc.chg hmn) (chg_blk hB21 zc.chg hfn)) (fun v w' h => ⟨v, rfl, h.2, h.1.2, cvIs h.1.1⟩)
      refine ⟨.inl ⟨rfl, true, .none rfl, (fun gg b h => by cases h), fun h w => optUndef h, fun zβ za zw zc => ?_⟩, ?_⟩
      ·exact wp_not rfl ((evt za 58).trans (zc.link 0 9 58 _ _ rfl (by kernel_rfl) rfl rfl)) ⟨_, rfl, Below.refl _ _, optDef zβ rfl⟩
      exact trivial
     ·intro za w30 zvals zh zl hG31 hc32 zu zw zk
      obtain ⟨z0, rfl⟩ := vlen1 zl
      have zh := zh.cons (d := 59) (v := .bool ((!(smB most (m + 1 + T.sizeL (l.take i)) (d + 1) (tget l i))))) (optSVal (zu 10 59 (by kernel_rfl) (by decide)) rfl rfl)
      obtain ⟨m2, hN2, hmm⟩ := hG31
      have hw33 := chg_below hb19 hc32 (fun b hb e => by (try dsimp only at *); omega)
      have hM2 := chg_blk hB20 hc32 hmn
      have hF2 := chg_blk hB21 hc32 hfn
      clear zu zw zk
      refine WE.go zh ?_
      refine WE.next ?_
      refine WC.cond rfl (fun h34 => ?_) (fun h34 => ?_)
      ·have h34 : ¬ ((smB most (m + 1 + T.sizeL (l.take i)) (d + 1) (tget l i)) = true) := by simpa using h34
       refine WC.seq (WC.region (WL.asg rfl rfl rfl rfl rfl (WL.nil (WE.next (WC.ret (WE.blockRet (WE.thenRet (WE.thenRet (WE.blockRet (WE.thenRet (WE.ret1 rfl rfl ?_)))))))))))
       have hno : smB most m d (.mk f l) = false := smB_kid (k := i) (by omega) (by simpa using h34)
       exact ⟨_, rfl, ⟨by rw [hno], _, hN2, fun h => by rw [hno] at h; cases h⟩, hcg.trans hc32⟩
      ·have h34 : ¬ (¬ ((smB most (m + 1 + T.sizeL (l.take i)) (d + 1) (tget l i)) = true)) := by simpa using h34
       refine WC.skip (WE.blockNormal (WE.next (WC.region ?_)))
       refine WL.val (.int .i64 ((((i + 1) : Nat) : Int))) rfl rfl rfl (fun za zC zh zk => addb_3 rfl (zh.ev rfl) (zh.ev rfl) (wrap_eq (by omega) (by omega) (by omega)) zk) ?_
       refine WL.mv rfl rfl rfl rfl rfl (WL.nil ?_)
       have hsm : smB most (m + 1 + T.sizeL (l.take i)) (d + 1) (tget l i) = true := by simpa using h34
       have hm4 := hmm hsm
       have hst := sizeL_take (show i < l.length by omega)
       have hsz3 : m + 1 + T.sizeL (l.take (i + 1)) ≤ 300 := by have z := (smB_iff.1 hsm).1; omega
       refine WE.round (i + 1) ⟨rfl, rfl, rfl, rfl, rfl, rfl, rfl, rfl, trivial⟩ ?_ ?_
       ·exact ⟨by omega, hsz3, fun k hk => by
          by_cases e : k = i
          ·rw [e]; exact hsm
          ·exact hall k (by omega), hcg.trans hc32, hw33, hM2, hF2, (by rw [show m + 1 + T.sizeL (l.take (i + 1)) = m2 by omega]; exact hN2)⟩
       ·omega
    ·have h23 : ¬ ((((i : Nat) : Int) : Int) < (((l.length : Nat) : Int) : Int)) := by simpa using h23
     refine WC.exit (WE.thenExit (WE.thenExit (WE.blockIs rfl (WE.next (WC.seq (WC.region (WL.asg rfl rfl rfl rfl rfl (WL.nil (WE.next (WC.ret (WE.ret1 rfl rfl ?_)))))))))))
     have hil : i = l.length := by omega
     rw [hil, List.take_length] at hs
     have hyes : smB most m d (.mk f l) = true := smB_yes (by omega) hs (fun k hk => hall k (by omega))
     exact ⟨_, rfl, ⟨by rw [hyes], _, hB22, fun _ => by rw [hil, List.take_length, T.size]; omega⟩, hcg.trans (Chg.refl _ _)⟩
end Go.Proofs.Ytnmopmdpnpcdhaa

/- Small terms and clauses: the program. -/
namespace Go.Proofs.Ytnmopmdpnpcdhaa
open Go.RowKit Go
set_option linter.unusedVariables false
set_option linter.unusedSimpArgs false
set_option maxRecDepth 100000 in
theorem tsmall_any (t : T) (most : Int) (hmost : 0 ≤ most ∧ most ≤ 1099511627776) (w : World) (v : Value) (hv : IsT w t v) : Calls Try.prog 48 #[v, .int .i64 most] w (Ret fun v' w' => v' = .bool (smallB most t) ∧ Below w.heap.size w w') := by
 have hvt := hv
 obtain ⟨_, a, c, rfl, _, _, _⟩ := hv.form
 refine Calls.walk (l := [.agg #[.int .i64 t.f, .slice a t.args.length c], .int .i64 most]) Try.func48 rfl (by kernel_rfl) ?_
 refine WC.sub (K' := [(0, .agg #[.int .i64 t.f, .slice a t.args.length c]), (1, .int .i64 most)]) ⟨rfl, rfl, trivial⟩ ?_
 refine WC.seq (WC.region ?_)
 refine WL.step (post := NewBlk w 58 #[.int .i64 t.f, .slice a t.args.length c]) rfl rfl rfl (fun za zC zh zk => box_58 rfl (zh.ev rfl) (zk _ _ (newBlk _ _ _))) ?_
 rintro _ w1 ⟨g2, rfl, hg3, hB4, hb5, hz6⟩
 have hl7 : w.heap.size ≤ g2 := by omega
 refine WL.step (post := NewBlk w1 3 #[.int .i64 most]) rfl rfl rfl (fun za zC zh zk => box_3 rfl (zh.ev rfl) (zk _ _ (newBlk _ _ _))) ?_
 rintro _ w8 ⟨g9, rfl, hg10, hB11, hb12, hz13⟩
 have hl14 : g2 < g9 := by have z1 := hB4.lt; omega
 have hl15 : w.heap.size ≤ g9 := by have z2 := (hb5).size; omega
 refine WL.asg rfl rfl rfl rfl rfl (WL.nil (WE.next (WC.seq ?_)))
 have hB16 := hB4.below hb12
 refine WC.region ?_
 refine WL.step (post := NewBlk w8 3 #[.int .i64 0]) rfl rfl rfl (fun za zC zh zk => alloc_3 rfl (zk _ _ (newBlk _ _ _))) ?_
 rintro _ w17 ⟨g18, rfl, hg19, hB20, hb21, hz22⟩
 have hl23 : g2 < g18 := by have z1 := hB16.lt; omega
 have hl24 : g9 < g18 := by have z1 := hB11.lt; omega
 have hb25 : Below w.heap.size w w8 := (bstep hb5 hb12)
 have hl26 : w.heap.size ≤ g18 := by have z2 := (hb25).size; omega
 have hl27 : w8.heap.size ≤ g18 := by omega
 refine WL.step (post := fun _ w' => Upd g18 w17 w' ∧ Blk w' g18 3 #[.int .i64 0]) rfl rfl rfl (fun za zC zh zk => st_3 rfl (zh.ev rfl) (zh.ev rfl) hB20 (by first | decide | simp) (fun v => zk v _ ⟨Upd.at_ _ _ _ _, hB20.set_ 0 _⟩)) ?_
 rintro v31 w28 ⟨hu29, hB30⟩
 have hb32 : Below w.heap.size w w17 := (bstep hb25 hb21)
 have hb33 := upd_below hb32 hu29 (by omega)
 have hb34 := upd_below hb21 hu29 (by omega)
 have hB35 := hB16.below hb21
 have hB36 := upd_blk hB35 hu29 (by omega)
 have hB37 := hB11.below hb21
 have hB38 := upd_blk hB37 hu29 (by omega)
 refine WL.nil (WE.next (WC.seq (WC.region ?_)))
 refine WL.step (post := NewBlk w28 102 #[.nilFunc]) rfl rfl rfl (fun za zC zh zk => alloc_102 rfl (zk _ _ (newBlk _ _ _))) ?_
 rintro _ w39 ⟨g40, rfl, hg41, hB42, hb43, hz44⟩
 have hl45 : g2 < g40 := by have z1 := hB36.lt; omega
 have hl46 : g9 < g40 := by have z1 := hB38.lt; omega
 have hl47 : g18 < g40 := by have z1 := hB30.lt; omega
 have hl48 : w.heap.size ≤ g40 := by have z2 := (hb33).size; omega
 have hl49 : w8.heap.size ≤ g40 := by have z2 := (hb34).size; omega
 refine WL.nil (WE.next (WC.seq (WC.region ?_)))
 refine WL.val (.func (Fn.func 52) #[] #[.pointer (some ⟨g18, 0, none⟩), .pointer (some ⟨g9, 0, none⟩), .pointer (some ⟨g40, 0, none⟩)]) rfl rfl rfl (fun za zC zh zk => mkfn rfl (hv0) (hv3 (zh.ev rfl) (zh.ev rfl) (zh.ev rfl)) zk) ?_
 refine WL.step (post := fun _ w' => Upd g40 w39 w' ∧ Blk w' g40 102 #[.func (Fn.func 52) #[] #[.pointer (some ⟨g18, 0, none⟩), .pointer (some ⟨g9, 0, none⟩), .pointer (some ⟨g40, 0, none⟩)]]) rfl rfl rfl (fun za zC zh zk => st_102 rfl (zh.ev rfl) (zh.ev rfl) hB42 (by first | decide | simp) (fun v => zk v _ ⟨Upd.at_ _ _ _ _, hB42.set_ 0 _⟩)) ?_
 rintro v53 w50 ⟨hu51, hB52⟩
 have hb54 : Below w.heap.size w w39 := (bstep hb33 hb43)
 have hb55 : Below w8.heap.size w8 w39 := (bstep hb34 hb43)
 have hb56 := upd_below hb54 hu51 (by omega)
 have hb57 := upd_below hb55 hu51 (by omega)
 have hB58 := hB36.below hb43
 have hB59 := upd_blk hB58 hu51 (by omega)
 have hB60 := hB38.below hb43
 have hB61 := upd_blk hB60 hu51 (by omega)
 have hB62 := hB30.below hb43
 have hB63 := upd_blk hB62 hu51 (by omega)
 refine WL.nil (WE.next (WC.seq (WC.region ?_)))
 refine WL.val _ rfl rfl rfl (fun za zC zh zk => ld_102 rfl (zh.ev rfl) ((hB52.cell 0).trans rfl) zk) ?_
 refine WL.call rfl rfl rfl (fun za zh zC => wp_callv (by kernel_rfl) rfl (zh.ev rfl) (hv2 (zh.ev rfl) (zh.ev rfl))) (small1_any most hmost w8 g18 g9 g40 (by omega) (by omega) (by omega) t 0 1 _ g2 0 _ _ (by omega) (by omega) hb57 ((hB16.cell 0).trans rfl) ((hB16.cell 1).trans rfl) (hvt.below hb25) hB63 hB61 hB52) ?_
 rintro _ w65 ⟨⟨rfl, m2, hN2, hm2⟩, hcs⟩
 have hb66 := chg_below hb56 hcs (fun b hb => (by (try dsimp only at *); omega))
 refine WL.asg rfl rfl rfl rfl rfl (WL.nil (WE.next (WC.ret (WE.ret1 rfl rfl ?_))))
 exact ⟨_, rfl, rfl, hb66⟩
def smallL (most : Int) (x : Li) : Bool := smallB most x.l && smallB most x.r
/-- Is a clause within the limits? -/
def clSmallB (most : Int) (c : List Li) : Bool := decide (c.length ≤ 16) && c.all (smallL most)
set_option maxRecDepth 100000 in
theorem csmall1_any (x : Li) (most : Int) (hmost : 0 ≤ most ∧ most ≤ 1099511627776) (w : World) (v : Value) (g : Nat) (hv : IsLi w x v) (hg : Blk w g 3 #[.int .i64 most]) : Calls Try.prog 47 #[v, .pointer (some ⟨g, 0, none⟩)] w (Ret fun v' w' => v' = .bool (!smallL most x) ∧ Below w.heap.size w w') := by
 obtain ⟨a1, a2, c1, c2, rfl, h1, h2⟩ := hv.form
 refine Calls.walk (l := [.agg #[.bool x.neg, .int .i64 x.l.f, .slice a1 x.l.args.length c1, .int .i64 x.r.f, .slice a2 x.r.args.length c2], .pointer (some ⟨g, 0, none⟩)]) Try.func47 rfl (by kernel_rfl) ?_
 refine WC.sub (K' := [(0, .agg #[.bool x.neg, .int .i64 x.l.f, .slice a1 x.l.args.length c1, .int .i64 x.r.f, .slice a2 x.r.args.length c2]), (1, .pointer (some ⟨g, 0, none⟩))]) ⟨rfl, rfl, trivial⟩ ?_
 refine WC.seq (WC.region ?_)
 refine WL.step (post := NewBlk w 60 #[.bool x.neg, .int .i64 x.l.f, .slice a1 x.l.args.length c1, .int .i64 x.r.f, .slice a2 x.r.args.length c2]) rfl rfl rfl (fun za zC zh zk => box_60 rfl (zh.ev rfl) (zk _ _ (newBlk _ _ _))) ?_
 rintro _ w1 ⟨g2, rfl, hg3, hB4, hb5, hz6⟩
 have hl7 : g < g2 := by have z1 := hg.lt; omega
 have hl8 : w.heap.size ≤ g2 := by omega
 refine WL.asg rfl rfl rfl rfl rfl (WL.nil (WE.next (WC.seq ?_)))
 have hB9 := hg.below hb5
 refine WC.opt [(true, .val (.pointer (some ⟨g2, 1, none⟩))), (true, .val (.agg #[.int .i64 x.l.f, .slice a1 x.l.args.length c1])), (true, .val (.int .i64 most)), (true, .val (.bool ((smallB most x.l)))), (true, .val (.bool ((!(smallB most x.l))))), (true, .val (.bool ((!(smallB most x.l))))), ((true && !(!(smallB most x.l))), .val (.pointer (some ⟨g2, 3, none⟩))), ((true && !(!(smallB most x.l))), .val (.agg #[.int .i64 x.r.f, .slice a2 x.r.args.length c2])), ((true && !(!(smallB most x.l))), .val (.int .i64 most)), ((true && !(!(smallB most x.l))), .val (.bool ((smallB most x.r)))), ((true && !(!(smallB most x.l))), .val (.bool ((!(smallB most x.r))))), (true, .val (.bool (((!(smallB most x.l)) || (!(smallB most x.r)))))), (true, .val (.bool (((!(smallB most x.l)) || (!(smallB most x.r))))))] [(0, .agg #[.bool x.neg, .int .i64 x.l.f, .slice a1 x.l.args.length c1, .int .i64 x.r.f, .slice a2 x.r.args.length c2]), (1, .pointer (some ⟨g, 0, none⟩)), (2, .pointer (some ⟨g2, 0, none⟩))] ⟨rfl, rfl, rfl, trivial⟩ (by kernel_rfl) (by kernel_rfl) (by kernel_rfl) ?_ ?_
 ·refine ⟨⟨true, .none rfl, fun h w => optUndef h, fun zβ za zw zc => ?_⟩, ?_⟩
  ·exact fld_60_1 rfl (zc.kn.ev rfl) ⟨_, rfl, Below.refl _ _, optDef zβ rfl⟩
  refine ⟨⟨true, .none rfl, fun h w => optUndef h, fun zβ za zw zc => ?_⟩, ?_⟩
  ·exact ld_58 rfl ((evt za 4).trans (optVal (zc.dep 0 4 (by kernel_rfl)) rfl rfl)) (bkeeps zc.below _ _ ((hB4.cell 1).trans rfl)) (bkeeps zc.below _ _ ((hB4.cell 2).trans rfl)) ⟨_, rfl, Below.refl _ _, optDef zβ rfl⟩
  refine ⟨⟨true, .none rfl, fun h w => optUndef h, fun zβ za zw zc => ?_⟩, ?_⟩
  ·exact ld_3 rfl (zc.kn.ev rfl) (bkeeps zc.below _ _ ((hB9.cell 0).trans rfl)) ⟨_, rfl, Below.refl _ _, optDef zβ rfl⟩
  refine ⟨⟨true, .none rfl, fun h w => optUndef h, fun zβ za zw zc => ?_⟩, ?_⟩
  ·exact wp_call (by kernel_rfl) rfl (hv2 ((evt za 5).trans (optVal (zc.dep 1 5 (by kernel_rfl)) rfl rfl)) ((evt za 6).trans (optVal (zc.dep 2 6 (by kernel_rfl)) rfl rfl))) (tsmall_any x.l most hmost _ _ (IsT.below (bstep hb5 zc.below) h1)) (fun v w' h => ⟨v, rfl, h.2, optDef zβ h.1⟩)
  refine ⟨⟨true, .none rfl, fun h w => optUndef h, fun zβ za zw zc => ?_⟩, ?_⟩
  ·exact wp_not rfl ((evt za 7).trans (optVal (zc.dep 3 7 (by kernel_rfl)) rfl rfl)) ⟨_, rfl, Below.refl _ _, optDef zβ rfl⟩
  refine ⟨⟨true, .none rfl, fun h w => optUndef h, fun zβ za zw zc => ?_⟩, ?_⟩
  ·exact wp_move rfl ((evt za 8).trans (optVal (zc.dep 4 8 (by kernel_rfl)) rfl rfl)) ⟨_, rfl, Below.refl _ _, optDef zβ rfl⟩
  refine ⟨⟨_, .no (c := (!(smallB most x.l))) (d := true) rfl (fun v w h => h), fun h w => optUndef h, fun zβ za zw zc => ?_⟩, ?_⟩
  ·exact fld_60_2 rfl (zc.kn.ev rfl) ⟨_, rfl, Below.refl _ _, optDef zβ rfl⟩
  refine ⟨⟨_, .no (c := (!(smallB most x.l))) (d := true) rfl (fun v w h => h), fun h w => optUndef h, fun zβ za zw zc => ?_⟩, ?_⟩
  ·exact ld_58 rfl ((evt za 10).trans (optVal (zc.dep 6 10 (by kernel_rfl)) rfl zβ)) (bkeeps zc.below _ _ ((hB4.cell 3).trans rfl)) (bkeeps zc.below _ _ ((hB4.cell 4).trans rfl)) ⟨_, rfl, Below.refl _ _, optDef zβ rfl⟩
  refine ⟨⟨_, .no (c := (!(smallB most x.l))) (d := true) rfl (fun v w h => h), fun h w => optUndef h, fun zβ za zw zc => ?_⟩, ?_⟩
  ·exact ld_3 rfl (zc.kn.ev rfl) (bkeeps zc.below _ _ ((hB9.cell 0).trans rfl)) ⟨_, rfl, Below.refl _ _, optDef zβ rfl⟩
  refine ⟨⟨_, .no (c := (!(smallB most x.l))) (d := true) rfl (fun v w h => h), fun h w => optUndef h, fun zβ za zw zc => ?_⟩, ?_⟩
  ·exact wp_call (by kernel_rfl) rfl (hv2 ((evt za 11).trans (optVal (zc.dep 7 11 (by kernel_rfl)) rfl zβ)) ((evt za 12).trans (optVal (zc.dep 8 12 (by kernel_rfl)) rfl zβ))) (tsmall_any x.r most hmost _ _ (IsT.below (bstep hb5 zc.below) h2)) (fun v w' h => ⟨v, rfl, h.2, optDef zβ h.1⟩)
  refine ⟨⟨_, .no (c := (!(smallB most x.l))) (d := true) rfl (fun v w h => h), fun h w => optUndef h, fun zβ za zw zc => ?_⟩, ?_⟩
  ·exact wp_not rfl ((evt za 13).trans (optVal (zc.dep 9 13 (by kernel_rfl)) rfl zβ)) ⟨_, rfl, Below.refl _ _, optDef zβ rfl⟩
  refine ⟨⟨true, .none rfl, fun h w => optUndef h, fun zβ za zw zc => ?_⟩, ?_⟩
  ·exact wp_or rfl ((evt za 9).trans (optVal (zc.dep 5 9 (by kernel_rfl)) rfl rfl)) (fun hp => ((evt za 14).trans (optVal (zc.dep 10 14 (by kernel_rfl)) rfl (bMkN zβ hp)))) ⟨_, rfl, Below.refl _ _, optDef zβ rfl⟩
  refine ⟨⟨true, .none rfl, fun h w => optUndef h, fun zβ za zw zc => ?_⟩, ?_⟩
  ·exact wp_assign rfl ((evt za 15).trans (optVal (zc.dep 11 15 (by kernel_rfl)) rfl rfl)) ⟨_, rfl, Below.refl _ _, optDef zβ rfl⟩
  exact trivial
 ·intro za w12 zh hb13 zu
  have zh := zh.cons (d := 3) (v := .bool (((!(smallB most x.l)) || (!(smallB most x.r))))) (optVal (zu 12 3 (by kernel_rfl)) rfl rfl)
  clear zu
  refine WE.go zh ?_
  refine WE.next (WC.ret (WE.ret1 rfl rfl ?_))
  have hb14 : Below w.heap.size w w12 := (bstep hb5 hb13)
  exact ⟨_, rfl, congrArg Value.bool (by unfold smallL; cases smallB most x.l <;> cases smallB most x.r <;> rfl), hb14⟩
set_option maxRecDepth 100000 in
theorem cindex_any (l : List Li) (most : Int) (hmost : 0 ≤ most ∧ most ≤ 1099511627776) (w : World) (a : Option Addr) (c g : Nat) (hl : IsLs w l a) (hz : l.length ≤ 1048576) (hg : Blk w g 3 #[.int .i64 most]) : Calls Try.prog 51 #[.slice a l.length c, .func (.func 47) #[] #[.pointer (some ⟨g, 0, none⟩)]] w (Ret fun v' w' => (∃ n : Int, v' = .int .i64 n ∧ decide ((0 : Int) ≤ n) = !l.all (smallL most)) ∧ Below w.heap.size w w') := by
 refine Calls.walk (l := [.slice a l.length c, .func (.func 47) #[] #[.pointer (some ⟨g, 0, none⟩)]]) Try.func51 rfl (by kernel_rfl) ?_
 refine WC.sub (K' := [(0, .slice a l.length c), (1, .func (.func 47) #[] #[.pointer (some ⟨g, 0, none⟩)])]) ⟨rfl, rfl, trivial⟩ ?_
 refine WC.seq (WC.region (WL.asg rfl rfl rfl rfl rfl (WL.nil (WE.next (WC.seq (WC.seq (WC.region (WL.mv rfl rfl rfl rfl rfl ?_))))))))
 refine WL.val (.int .i64 (((l.length : Nat) : Int))) rfl rfl rfl (fun za zC zh zk => len_86 rfl (zh.ev rfl) zk) ?_
 refine WL.mv rfl rfl rfl rfl rfl (WL.nil (WE.next (WC.block ?_)))
 refine WC.loop (X := Nat) (fun k => l.length - k) (fun k => [(0, .slice a l.length c), (1, .func (.func 47) #[] #[.pointer (some ⟨g, 0, none⟩)]), (7, .int .i64 (((l.length : Nat) : Int))), (8, .int .i64 (((k : Nat) : Int)))]) (fun k w1 => k ≤ l.length ∧ (∀ q, q < k → smallL most (lget l q) = true) ∧ Below w.heap.size w w1 ∧ Blk w1 g 3 #[.int .i64 most]) 0 ⟨rfl, rfl, rfl, rfl, trivial⟩ ?_ ?_
 ·exact ⟨Nat.zero_le _, fun q h => absurd h (Nat.not_lt_zero q), (Below.refl _ _), hg⟩
 ·rintro k w1 ⟨hk, hall, hb2, hB3⟩
  refine WC.seq (WC.region ?_)
  refine WL.val (.bool ((decide ((((k : Nat) : Int) : Int) < (((l.length : Nat) : Int) : Int))))) rfl rfl rfl (fun za zC zh zk => lss_3 rfl (zh.ev rfl) (zh.ev rfl) zk) ?_
  refine WL.nil (WE.next (WC.seq ?_))
  refine WC.cond rfl (fun h4 => ?_) (fun h4 => ?_)
  ·have h4 : (((k : Nat) : Int) : Int) < (((l.length : Nat) : Int) : Int) := by simpa using h4
   refine WC.skip (WE.next (WC.seq (WC.block (WC.seq (WC.region (WL.mv rfl rfl rfl rfl rfl (WL.asg rfl rfl rfl rfl rfl (WL.nil (WE.next (WC.seq (WC.region (WL.mv rfl rfl rfl rfl rfl (WL.mv rfl rfl rfl rfl rfl (WL.mv rfl rfl rfl rfl rfl ?_))))))))))))))
   obtain ⟨b5, o6, A7, C8, A9, C10, ha11, hc12⟩ := InRow.openL hl
   refine WL.val _ rfl rfl rfl (fun za zC zh zk => ix_86 (k := k) rfl (zh.ev rfl) (ha11 k (by first | omega | (simp; omega))) (zh.ev rfl) (by first | omega | (simp; omega)) zk) ?_
   refine WL.val _ rfl rfl rfl (fun za zC zh zk => ld_60 rfl (zh.ev rfl) (bkeeps hb2 _ _ (hc12 k (by first | omega | (simp; omega))).1) (bkeeps hb2 _ _ (hc12 k (by first | omega | (simp; omega))).2.1) (bkeeps hb2 _ _ (hc12 k (by first | omega | (simp; omega))).2.2.1) (bkeeps hb2 _ _ (hc12 k (by first | omega | (simp; omega))).2.2.2.1) (bkeeps hb2 _ _ (hc12 k (by first | omega | (simp; omega))).2.2.2.2.1) zk) ?_
   refine WL.call rfl rfl rfl (fun za zh zC => wp_callv (by kernel_rfl) rfl (zh.ev rfl) (hv1 (zh.ev rfl))) (csmall1_any (lget l k) most hmost _ _ g (isLi_mk (IsT.below hb2 (InT.isT (hc12 k (by first | omega | (simp; omega))).2.2.2.2.2.1)) (IsT.below hb2 (InT.isT (hc12 k (by first | omega | (simp; omega))).2.2.2.2.2.2))) hB3) ?_
   rintro _ w14 ⟨rfl, hq13⟩
   refine WL.nil (WE.next ?_)
   refine WC.cond rfl (fun h15 => ?_) (fun h15 => ?_)
   ·skip
    refine WC.seq (WC.region (WL.mv rfl rfl rfl rfl rfl (WL.asg rfl rfl rfl rfl rfl (WL.nil (WE.next (WC.ret (WE.blockRet (WE.thenRet (WE.thenRet (WE.blockRet (WE.thenRet (WE.ret1 rfl rfl ?_))))))))))))
    have hb16 : Below w.heap.size w w14 := (bstep hb2 hq13)
    exact ⟨_, rfl, ⟨_, rfl, by rw [Bool.eq_iff_iff]; simp only [decide_eq_true_eq, Bool.not_eq_true']; exact ⟨fun _ => by rw [Bool.eq_false_iff]; intro e; rw [List.all_eq_true] at e; have z := e _ (lget_mem (show k < l.length by omega)); have z2 := h15; simp [z] at z2, fun _ => by omega⟩⟩, hb16⟩
   ·skip
    refine WC.skip (WE.blockNormal (WE.next (WC.region ?_)))
    refine WL.val (.int .i64 ((((k + 1) : Nat) : Int))) rfl rfl rfl (fun za zC zh zk => addb_3 rfl (zh.ev rfl) (zh.ev rfl) (wrap_eq (by omega) (by omega) (by omega)) zk) ?_
    refine WL.mv rfl rfl rfl rfl rfl (WL.nil ?_)
    refine WE.round (k + 1) ⟨rfl, rfl, rfl, rfl, trivial⟩ ?_ ?_
    ·have hb17 : Below w.heap.size w w14 := (bstep hb2 hq13)
     have hB18 := hB3.below hq13
     exact ⟨by omega, fun q hq => by
       by_cases e : q = k
       ·subst e; have z := h15; simpa using z
       ·exact hall q (by omega), hb17, hB18⟩
    ·omega
  ·have h4 : ¬ ((((k : Nat) : Int) : Int) < (((l.length : Nat) : Int) : Int)) := by simpa using h4
   refine WC.exit (WE.thenExit (WE.thenExit (WE.blockIs rfl (WE.next (WC.seq (WC.region (WL.asg rfl rfl rfl rfl rfl (WL.nil (WE.next (WC.ret (WE.ret1 rfl rfl ?_)))))))))))
   have hyes : l.all (smallL most) = true := by rw [List.all_eq_true]; intro x hx; obtain ⟨q, hq, rfl⟩ := List.getElem_of_mem hx; have z := hall q (by omega); rwa [lget_lt hq] at z
   exact ⟨_, rfl, ⟨_, rfl, by rw [hyes]; rfl⟩, hb2⟩
set_option maxRecDepth 100000 in
theorem ccontains_any (l : List Li) (most : Int) (hmost : 0 ≤ most ∧ most ≤ 1099511627776) (w : World) (a : Option Addr) (c g : Nat) (hl : IsLs w l a) (hz : l.length ≤ 1048576) (hg : Blk w g 3 #[.int .i64 most]) : Calls Try.prog 46 #[.slice a l.length c, .func (.func 47) #[] #[.pointer (some ⟨g, 0, none⟩)]] w (Ret fun v' w' => v' = .bool (!l.all (smallL most)) ∧ Below w.heap.size w w') := by
 refine Calls.walk (l := [.slice a l.length c, .func (.func 47) #[] #[.pointer (some ⟨g, 0, none⟩)]]) Try.func46 rfl (by kernel_rfl) ?_
 refine WC.sub (K' := [(0, .slice a l.length c), (1, .func (.func 47) #[] #[.pointer (some ⟨g, 0, none⟩)])]) ⟨rfl, rfl, trivial⟩ ?_
 refine WC.seq (WC.region (WL.asg rfl rfl rfl rfl rfl (WL.nil (WE.next (WC.seq (WC.region (WL.mv rfl rfl rfl rfl rfl (WL.mv rfl rfl rfl rfl rfl ?_))))))))
 refine WL.call rfl rfl rfl (fun za zh zC => wp_call (by kernel_rfl) rfl (hv2 (zh.ev rfl) (zh.ev rfl))) (cindex_any l most hmost _ _ _ g (hl.below (Below.refl _ _)) hz (hg.below (Below.refl _ _))) ?_
 rintro _ w1 ⟨⟨n, rfl, hn⟩, hbn⟩
 refine WL.val (.bool ((decide ((0 : Int) ≤ (n : Int))))) rfl rfl rfl (fun za zC zh zk => geq_3 rfl (zh.ev rfl) (zh.ev rfl) zk) ?_
 refine WL.asg rfl rfl rfl rfl rfl (WL.nil (WE.next (WC.ret (WE.ret1 rfl rfl ?_))))
 exact ⟨_, rfl, congrArg Value.bool hn, hbn⟩
set_option maxRecDepth 100000 in
theorem lsmall_any (l : List Li) (most : Int) (hmost : 0 ≤ most ∧ most ≤ 1099511627776) (w : World) (a : Option Addr) (c : Nat) (hl : IsLs w l a) (hz : l.length ≤ 1048576) : Calls Try.prog 41 #[.slice a l.length c, .int .i64 most] w (Ret fun v' w' => v' = .bool (clSmallB most l) ∧ Below w.heap.size w w') := by
 refine Calls.walk (l := [.slice a l.length c, .int .i64 most]) Try.func41 rfl (by kernel_rfl) ?_
 refine WC.sub (K' := [(0, .slice a l.length c), (1, .int .i64 most)]) ⟨rfl, rfl, trivial⟩ ?_
 refine WC.seq (WC.region ?_)
 refine WL.step (post := NewBlk w 3 #[.int .i64 most]) rfl rfl rfl (fun za zC zh zk => box_3 rfl (zh.ev rfl) (zk _ _ (newBlk _ _ _))) ?_
 rintro _ w1 ⟨g2, rfl, hg3, hB4, hb5, hz6⟩
 have hl7 : w.heap.size ≤ g2 := by omega
 refine WL.asg rfl rfl rfl rfl rfl (WL.nil (WE.next (WC.seq ?_)))
 refine WC.opt [(true, .val (.slice a l.length c)), (true, .val (.int .i64 (((l.length : Nat) : Int)))), (true, .val (.bool ((decide ((((l.length : Nat) : Int) : Int) ≤ (16 : Int)))))), (true, .val (.bool ((decide ((((l.length : Nat) : Int) : Int) ≤ (16 : Int)))))), ((true && (decide ((((l.length : Nat) : Int) : Int) ≤ (16 : Int)))), .val (.slice a l.length c)), ((true && (decide ((((l.length : Nat) : Int) : Int) ≤ (16 : Int)))), .val (.func (Fn.func 47) #[] #[.pointer (some ⟨g2, 0, none⟩)])), ((true && (decide ((((l.length : Nat) : Int) : Int) ≤ (16 : Int)))), .val (.bool ((!l.all (smallL most))))), ((true && (decide ((((l.length : Nat) : Int) : Int) ≤ (16 : Int)))), .val (.bool ((!(!l.all (smallL most)))))), (true, .val (.bool (((decide ((((l.length : Nat) : Int) : Int) ≤ (16 : Int))) && (!(!l.all (smallL most))))))), (true, .val (.bool (((decide ((((l.length : Nat) : Int) : Int) ≤ (16 : Int))) && (!(!l.all (smallL most)))))))] [(0, .slice a l.length c), (1, .int .i64 most), (3, .pointer (some ⟨g2, 0, none⟩))] ⟨rfl, rfl, rfl, trivial⟩ (by kernel_rfl) (by kernel_rfl) (by kernel_rfl) ?_ ?_
 ·refine ⟨⟨true, .none rfl, fun h w => optUndef h, fun zβ za zw zc => ?_⟩, ?_⟩
  ·exact wp_move rfl (zc.kn.ev rfl) ⟨_, rfl, Below.refl _ _, optDef zβ rfl⟩
  refine ⟨⟨true, .none rfl, fun h w => optUndef h, fun zβ za zw zc => ?_⟩, ?_⟩
  ·exact len_86 rfl ((evt za 5).trans (optVal (zc.dep 0 5 (by kernel_rfl)) rfl rfl)) ⟨_, rfl, Below.refl _ _, optDef zβ rfl⟩
  refine ⟨⟨true, .none rfl, fun h w => optUndef h, fun zβ za zw zc => ?_⟩, ?_⟩
  ·exact leq_3 rfl ((evt za 6).trans (optVal (zc.dep 1 6 (by kernel_rfl)) rfl rfl)) (zc.kn.ev rfl) ⟨_, rfl, Below.refl _ _, optDef zβ rfl⟩
  refine ⟨⟨true, .none rfl, fun h w => optUndef h, fun zβ za zw zc => ?_⟩, ?_⟩
  ·exact wp_move rfl ((evt za 7).trans (optVal (zc.dep 2 7 (by kernel_rfl)) rfl rfl)) ⟨_, rfl, Below.refl _ _, optDef zβ rfl⟩
  refine ⟨⟨_, .yes (c := (decide ((((l.length : Nat) : Int) : Int) ≤ (16 : Int)))) (d := true) rfl (fun v w h => h), fun h w => optUndef h, fun zβ za zw zc => ?_⟩, ?_⟩
  ·exact wp_move rfl (zc.kn.ev rfl) ⟨_, rfl, Below.refl _ _, optDef zβ rfl⟩
  refine ⟨⟨_, .yes (c := (decide ((((l.length : Nat) : Int) : Int) ≤ (16 : Int)))) (d := true) rfl (fun v w h => h), fun h w => optUndef h, fun zβ za zw zc => ?_⟩, ?_⟩
  ·exact mkfn rfl (hv0) (hv1 (zc.kn.ev rfl)) ⟨_, rfl, Below.refl _ _, optDef zβ rfl⟩
  refine ⟨⟨_, .yes (c := (decide ((((l.length : Nat) : Int) : Int) ≤ (16 : Int)))) (d := true) rfl (fun v w h => h), fun h w => optUndef h, fun zβ za zw zc => ?_⟩, ?_⟩
  ·exact wp_call (by kernel_rfl) rfl (hv2 ((evt za 9).trans (optVal (zc.dep 4 9 (by kernel_rfl)) rfl zβ)) ((evt za 10).trans (optVal (zc.dep 5 10 (by kernel_rfl)) rfl zβ))) (ccontains_any l most hmost _ _ _ g2 (hl.below (bstep hb5 zc.below)) hz (hB4.below zc.below)) (fun v w' h => ⟨v, rfl, h.2, optDef zβ h.1⟩)
  refine ⟨⟨_, .yes (c := (decide ((((l.length : Nat) : Int) : Int) ≤ (16 : Int)))) (d := true) rfl (fun v w h => h), fun h w => optUndef h, fun zβ za zw zc => ?_⟩, ?_⟩
  ·exact wp_not rfl ((evt za 11).trans (optVal (zc.dep 6 11 (by kernel_rfl)) rfl zβ)) ⟨_, rfl, Below.refl _ _, optDef zβ rfl⟩
  refine ⟨⟨true, .none rfl, fun h w => optUndef h, fun zβ za zw zc => ?_⟩, ?_⟩
  ·exact wp_and rfl ((evt za 8).trans (optVal (zc.dep 3 8 (by kernel_rfl)) rfl rfl)) (fun hp => ((evt za 12).trans (optVal (zc.dep 7 12 (by kernel_rfl)) rfl (bMk zβ hp)))) ⟨_, rfl, Below.refl _ _, optDef zβ rfl⟩
  refine ⟨⟨true, .none rfl, fun h w => optUndef h, fun zβ za zw zc => ?_⟩, ?_⟩
  ·exact wp_assign rfl ((evt za 13).trans (optVal (zc.dep 8 13 (by kernel_rfl)) rfl rfl)) ⟨_, rfl, Below.refl _ _, optDef zβ rfl⟩
  exact trivial
 ·intro za w9 zh hb10 zu
  have zh := zh.cons (d := 4) (v := .bool (((decide ((((l.length : Nat) : Int) : Int) ≤ (16 : Int))) && (!(!l.all (smallL most)))))) (optVal (zu 9 4 (by kernel_rfl)) rfl rfl)
  clear zu
  refine WE.go zh ?_
  refine WE.next (WC.ret (WE.ret1 rfl rfl ?_))
  have hb11 : Below w.heap.size w w9 := (bstep hb5 hb10)
  exact ⟨_, rfl, congrArg Value.bool (by unfold clSmallB; rw [Bool.not_not]; congr 1; exact decide_eq_decide.2 ⟨fun h => by omega, fun h => by omega⟩), hb11⟩
set_option maxRecDepth 100000 in
theorem clsmall_any (l : List Li) (most : Int) (hmost : 0 ≤ most ∧ most ≤ 1099511627776) (w : World) (a : Option Addr) (c : Nat) (hl : IsLs w l a) (hz : l.length ≤ 1048576) : Calls Try.prog 30 #[.slice a l.length c, .int .i64 most] w (Ret fun v' w' => v' = .bool (clSmallB most l) ∧ Below w.heap.size w w') := by
 refine Calls.walk (l := [.slice a l.length c, .int .i64 most]) Try.func30 rfl (by kernel_rfl) ?_
 refine WC.sub (K' := [(0, .slice a l.length c), (1, .int .i64 most)]) ⟨rfl, rfl, trivial⟩ ?_
 refine WC.seq (WC.region (WL.asg rfl rfl rfl rfl rfl (WL.nil (WE.next (WC.seq (WC.region (WL.mv rfl rfl rfl rfl rfl (WL.mv rfl rfl rfl rfl rfl ?_))))))))
 refine WL.call rfl rfl rfl (fun za zh zC => wp_call (by kernel_rfl) rfl (hv2 (zh.ev rfl) (zh.ev rfl))) (lsmall_any l most hmost _ _ _ (hl.below (Below.refl _ _)) hz) ?_
 rintro _ w2 ⟨rfl, hq1⟩
 refine WL.asg rfl rfl rfl rfl rfl (WL.nil (WE.next (WC.ret (WE.ret1 rfl rfl ?_))))
 exact ⟨_, rfl, rfl, hq1⟩
set_option maxRecDepth 100000 in
theorem fair_any (l : List Li) (w : World) (a : Option Addr) (c : Nat) (hl : IsLs w l a) (hz : l.length ≤ 1048576) : Calls Try.prog 20 #[.slice a l.length c] w (Ret fun v' w' => v' = .bool (clSmallB 1099511627776 l) ∧ Below w.heap.size w w') := by
 refine Calls.walk (l := [.slice a l.length c]) Try.func20 rfl (by kernel_rfl) ?_
 refine WC.sub (K' := [(0, .slice a l.length c)]) ⟨rfl, trivial⟩ ?_
 refine WC.seq (WC.region (WL.asg rfl rfl rfl rfl rfl (WL.nil (WE.next (WC.seq (WC.region (WL.mv rfl rfl rfl rfl rfl ?_)))))))
 refine WL.call rfl rfl rfl (fun za zh zC => wp_call (by kernel_rfl) rfl (hv2 (zh.ev rfl) (zh.ev rfl))) (clsmall_any l 1099511627776 (by decide) _ _ _ (hl.below (Below.refl _ _)) hz) ?_
 rintro _ w2 ⟨rfl, hq1⟩
 refine WL.asg rfl rfl rfl rfl rfl (WL.nil (WE.next (WC.ret (WE.ret1 rfl rfl ?_))))
 exact ⟨_, rfl, rfl, hq1⟩
end Go.Proofs.Ytnmopmdpnpcdhaa

namespace Go.Proofs.Ytnmopmdpnpcdhaa
open Go.RowKit Go
set_option linter.unusedVariables false
set_option linter.unusedSimpArgs false
def trivPair (l : List Li) (i k : Nat) : Bool := ((lget l k).neg != (lget l i).neg) && sides (lget l k) (lget l i)
def trivOne (l : List Li) (i : Nat) : Bool := !(lget l i).neg && T.same (lget l i).l (lget l i).r
def trivAt (l : List Li) (i : Nat) : Bool := trivOne l i || (List.range i).any (trivPair l i)
def trivB (l : List Li) : Bool := clSmallB 1099511627776 l && (List.range l.length).any (trivAt l)
theorem anyR_true {n k : Nat} {f : Nat → Bool} (hk : k < n) (h : f k = true) : (List.range n).any f = true := by rw [List.any_eq_true]; exact ⟨k, List.mem_range.2 hk, h⟩
theorem anyR_false {n : Nat} {f : Nat → Bool} (h : ∀ k, k < n → f k = false) : (List.range n).any f = false := by rw [List.any_eq_false]; intro k hk; rw [h k (List.mem_range.1 hk)]; simp
set_option maxRecDepth 100000 in
theorem triv_any (l : List Li) (w : World) (a : Option Addr) (c : Nat) (h : IsCl w l a c) (hlen : l.length ≤ 1048576) : Calls Try.prog 9 #[.slice a l.length c] w (Ret fun v' w' => v' = .bool (trivB l) ∧ Below w.heap.size w w') := by
 have hcap := h.cap
 have hll := h.len
 refine Calls.walk (l := [.slice a l.length c]) Try.func9 rfl (by kernel_rfl) ?_
 refine WC.sub (K' := [(0, .slice a l.length c)]) ⟨rfl, trivial⟩ ?_
 refine WC.seq (WC.region (WL.asg rfl rfl rfl rfl rfl (WL.nil (WE.next (WC.seq (WC.seq (WC.region (WL.mv rfl rfl rfl rfl rfl ?_))))))))
 refine WL.call rfl rfl rfl (fun za zh zC => wp_call (by kernel_rfl) rfl (hv1 (zh.ev rfl))) (fair_any l _ _ _ (h.rows.below (Below.refl _ _)) hlen) ?_
 rintro _ w2 ⟨rfl, hq1⟩
 refine WL.val (.bool ((!(clSmallB 1099511627776 l)))) rfl rfl rfl (fun za zC zh zk => wp_not rfl (zh.ev rfl) zk) ?_
 refine WL.nil (WE.next ?_)
 refine WC.cond rfl (fun h3 => ?_) (fun h3 => ?_)
 ·have h3 : ¬ ((clSmallB 1099511627776 l) = true) := by simpa using h3
  refine WC.seq (WC.region (WL.asg rfl rfl rfl rfl rfl (WL.nil (WE.next (WC.ret (WE.thenRet (WE.ret1 rfl rfl ?_)))))))
  exact ⟨_, rfl, congrArg Value.bool (by unfold trivB; have z := h3; simp at z; simp [z]), hq1⟩
 ·have h3 : ¬ (¬ ((clSmallB 1099511627776 l) = true)) := by simpa using h3
  refine WC.skip (WE.next (WC.seq (WC.seq (WC.region (WL.mv rfl rfl rfl rfl rfl ?_)))))
  refine WL.val (.int .i64 (((l.length : Nat) : Int))) rfl rfl rfl (fun za zC zh zk => len_29 rfl (zh.ev rfl) zk) ?_
  refine WL.mv rfl rfl rfl rfl rfl (WL.nil (WE.next (WC.block ?_)))
  refine WC.loop (X := Nat) (fun i => l.length - i) (fun i => [(0, .slice a l.length c), (9, .bool ((!(clSmallB 1099511627776 l)))), (10, .slice a l.length c), (11, .int .i64 (((l.length : Nat) : Int))), (12, .int .i64 (((i : Nat) : Int)))]) (fun i w4 => i ≤ l.length ∧ (∀ q, q < i → trivAt l q = false) ∧ Below w.heap.size w w4) 0 ⟨rfl, rfl, rfl, rfl, rfl, trivial⟩ ?_ ?_
  ·exact ⟨Nat.zero_le _, fun q h => absurd h (Nat.not_lt_zero q), hq1⟩
  ·rintro i w4 ⟨hi, hall, hb5⟩
   refine WC.seq (WC.region ?_)
   refine WL.val (.bool ((decide ((((i : Nat) : Int) : Int) < (((l.length : Nat) : Int) : Int))))) rfl rfl rfl (fun za zC zh zk => lss_3 rfl (zh.ev rfl) (zh.ev rfl) zk) ?_
   refine WL.nil (WE.next (WC.seq ?_))
   refine WC.cond rfl (fun h6 => ?_) (fun h6 => ?_)
   ·have h6 : (((i : Nat) : Int) : Int) < (((l.length : Nat) : Int) : Int) := by simpa using h6
    refine WC.skip (WE.next (WC.seq (WC.block (WC.seq (WC.region (WL.mv rfl rfl rfl rfl rfl ?_))))))
    obtain ⟨b7, o8, A9, C10, A11, C12, ha13, hc14⟩ := InRow.openL h.rows
    refine WL.val _ rfl rfl rfl (fun za zC zh zk => ix_29 (k := i) rfl (zh.ev rfl) (ha13 i (by first | omega | (simp; omega))) (zh.ev rfl) (by first | omega | (simp; omega)) zk) ?_
    refine WL.val _ rfl rfl rfl (fun za zC zh zk => ld_60 rfl (zh.ev rfl) (bkeeps hb5 _ _ (hc14 i (by first | omega | (simp; omega))).1) (bkeeps hb5 _ _ (hc14 i (by first | omega | (simp; omega))).2.1) (bkeeps hb5 _ _ (hc14 i (by first | omega | (simp; omega))).2.2.1) (bkeeps hb5 _ _ (hc14 i (by first | omega | (simp; omega))).2.2.2.1) (bkeeps hb5 _ _ (hc14 i (by first | omega | (simp; omega))).2.2.2.2.1) zk) ?_
    refine WL.step (post := NewBlk w4 60 #[.bool false, .int .i64 0, .slice none 0 0, .int .i64 0, .slice none 0 0]) rfl rfl rfl (fun za zC zh zk => alloc_60 rfl (zk _ _ (newBlk _ _ _))) ?_
    rintro _ w15 ⟨g16, rfl, hg17, hB18, hb19, hz20⟩
    have hl21 : w.heap.size ≤ g16 := by have z2 := (hb5).size; omega
    refine WL.asg rfl rfl rfl rfl rfl ?_
    refine WL.step (post := fun _ w' => Upd g16 w15 w' ∧ Blk w' g16 60 #[.bool ((lget l i).neg), .int .i64 ((lget l i).l.f), .slice ((A9 i)) ((lget l i).l.args.length) ((C10 i)), .int .i64 ((lget l i).r.f), .slice ((A11 i)) ((lget l i).r.args.length) ((C12 i))]) rfl rfl rfl (fun za zC zh zk => st_60 rfl (zh.ev rfl) (zh.ev rfl) rfl rfl rfl rfl rfl hB18 (by first | decide | simp) (fun v => zk v _ ⟨((((Upd.at_ _ _ _ _).trans (Upd.at_ _ _ _ _)).trans (Upd.at_ _ _ _ _)).trans (Upd.at_ _ _ _ _)).trans (Upd.at_ _ _ _ _), ((((hB18.set_ 0 _).set_ 1 _).set_ 2 _).set_ 3 _).set_ 4 _⟩)) ?_
    rintro v25 w22 ⟨hu23, hB24⟩
    have hb26 : Below w.heap.size w w15 := (bstep hb5 hb19)
    have hb27 := upd_below hb26 hu23 (by omega)
    refine WL.nil (WE.next (WC.seq (WC.seq ?_)))
    refine WC.opt [(true, .val (.pointer (some ⟨g16, 0, none⟩))), (true, .val (.bool ((lget l i).neg))), (true, .val (.bool ((!(lget l i).neg)))), (true, .val (.bool ((!(lget l i).neg)))), ((true && (!(lget l i).neg)), .val (.pointer (some ⟨g16, 1, none⟩))), ((true && (!(lget l i).neg)), .val (.agg #[.int .i64 ((lget l i).l.f), .slice ((A9 i)) ((lget l i).l.args.length) ((C10 i))])), ((true && (!(lget l i).neg)), .val (.pointer (some ⟨g16, 3, none⟩))), ((true && (!(lget l i).neg)), .val (.agg #[.int .i64 ((lget l i).r.f), .slice ((A11 i)) ((lget l i).r.args.length) ((C12 i))])), ((true && (!(lget l i).neg)), .val (.bool ((T.same (lget l i).l (lget l i).r)))), (true, .val (.bool (((!(lget l i).neg) && (T.same (lget l i).l (lget l i).r)))))] [(0, .slice a l.length c), (3, .int .i64 (((i : Nat) : Int))), (4, .pointer (some ⟨g16, 0, none⟩)), (9, .bool ((!(clSmallB 1099511627776 l)))), (10, .slice a l.length c), (11, .int .i64 (((l.length : Nat) : Int))), (12, .int .i64 (((i : Nat) : Int))), (13, .bool ((decide ((((i : Nat) : Int) : Int) < (((l.length : Nat) : Int) : Int)))))] ⟨rfl, rfl, rfl, rfl, rfl, rfl, rfl, rfl, trivial⟩ (by kernel_rfl) (by kernel_rfl) (by kernel_rfl) ?_ ?_
    ·refine ⟨⟨true, .none rfl, fun h w => optUndef h, fun zβ za zw zc => ?_⟩, ?_⟩
     ·exact fld_60_0 rfl (zc.kn.ev rfl) ⟨_, rfl, Below.refl _ _, optDef zβ rfl⟩
     refine ⟨⟨true, .none rfl, fun h w => optUndef h, fun zβ za zw zc => ?_⟩, ?_⟩
     ·exact ld_4 rfl ((evt za 17).trans (optVal (zc.dep 0 17 (by kernel_rfl)) rfl rfl)) (bkeeps zc.below _ _ ((hB24.cell 0).trans rfl)) ⟨_, rfl, Below.refl _ _, optDef zβ rfl⟩
     refine ⟨⟨true, .none rfl, fun h w => optUndef h, fun zβ za zw zc => ?_⟩, ?_⟩
     ·exact wp_not rfl ((evt za 18).trans (optVal (zc.dep 1 18 (by kernel_rfl)) rfl rfl)) ⟨_, rfl, Below.refl _ _, optDef zβ rfl⟩
     refine ⟨⟨true, .none rfl, fun h w => optUndef h, fun zβ za zw zc => ?_⟩, ?_⟩
     ·exact wp_move rfl ((evt za 19).trans (optVal (zc.dep 2 19 (by kernel_rfl)) rfl rfl)) ⟨_, rfl, Below.refl _ _, optDef zβ rfl⟩
     refine ⟨⟨_, .yes (c := (!(lget l i).neg)) (d := true) rfl (fun v w h => h), fun h w => optUndef h, fun zβ za zw zc => ?_⟩, ?_⟩
     ·exact fld_60_1 rfl (zc.kn.ev rfl) ⟨_, rfl, Below.refl _ _, optDef zβ rfl⟩
     refine ⟨⟨_, .yes (c := (!(lget l i).neg)) (d := true) rfl (fun v w h => h), fun h w => optUndef h, fun zβ za zw zc => ?_⟩, ?_⟩
     ·exact ld_58 rfl ((evt za 21).trans (optVal (zc.dep 4 21 (by kernel_rfl)) rfl zβ)) (bkeeps zc.below _ _ ((hB24.cell 1).trans rfl)) (bkeeps zc.below _ _ ((hB24.cell 2).trans rfl)) ⟨_, rfl, Below.refl _ _, optDef zβ rfl⟩
     refine ⟨⟨_, .yes (c := (!(lget l i).neg)) (d := true) rfl (fun v w h => h), fun h w => optUndef h, fun zβ za zw zc => ?_⟩, ?_⟩
     ·exact fld_60_2 rfl (zc.kn.ev rfl) ⟨_, rfl, Below.refl _ _, optDef zβ rfl⟩
     refine ⟨⟨_, .yes (c := (!(lget l i).neg)) (d := true) rfl (fun v w h => h), fun h w => optUndef h, fun zβ za zw zc => ?_⟩, ?_⟩
     ·exact ld_58 rfl ((evt za 23).trans (optVal (zc.dep 6 23 (by kernel_rfl)) rfl zβ)) (bkeeps zc.below _ _ ((hB24.cell 3).trans rfl)) (bkeeps zc.below _ _ ((hB24.cell 4).trans rfl)) ⟨_, rfl, Below.refl _ _, optDef zβ rfl⟩
     refine ⟨⟨_, .yes (c := (!(lget l i).neg)) (d := true) rfl (fun v w h => h), fun h w => optUndef h, fun zβ za zw zc => ?_⟩, ?_⟩
     ·exact wp_call (by kernel_rfl) rfl (hv2 ((evt za 22).trans (optVal (zc.dep 5 22 (by kernel_rfl)) rfl zβ)) ((evt za 24).trans (optVal (zc.dep 7 24 (by kernel_rfl)) rfl zβ))) (ret_of (same_any _ _ _ _ _ (IsT.below (bstep hb27 zc.below) (InT.isT (hc14 i (by first | omega | (have zz := zβ; simp only [Bool.and_eq_true, Bool.or_eq_true, Bool.true_and, Bool.not_eq_true', Bool.or_eq_false_iff, Bool.and_eq_false_iff, beq_eq_false_iff_ne, ne_eq, beq_iff_eq, decide_eq_true_eq, decide_eq_false_iff_not, bne_iff_ne, bne_eq_false_iff_eq] at zz; omega))).2.2.2.2.2.1)) (IsT.below (bstep hb27 zc.below) (InT.isT (hc14 i (by first | omega | (have zz := zβ; simp only [Bool.and_eq_true, Bool.or_eq_true, Bool.true_and, Bool.not_eq_true', Bool.or_eq_false_iff, Bool.and_eq_false_iff, beq_eq_false_iff_ne, ne_eq, beq_iff_eq, decide_eq_true_eq, decide_eq_false_iff_not, bne_iff_ne, bne_eq_false_iff_eq] at zz; omega))).2.2.2.2.2.2)))) (fun v w' h => ⟨v, rfl, h.2, optDef zβ h.1⟩)
     refine ⟨⟨true, .none rfl, fun h w => optUndef h, fun zβ za zw zc => ?_⟩, ?_⟩
     ·exact wp_and rfl ((evt za 20).trans (optVal (zc.dep 3 20 (by kernel_rfl)) rfl rfl)) (fun hp => ((evt za 25).trans (optVal (zc.dep 8 25 (by kernel_rfl)) rfl (bMk zβ hp)))) ⟨_, rfl, Below.refl _ _, optDef zβ rfl⟩
     exact trivial
    ·intro za w28 zh hb29 zu
     have zh := zh.cons (d := 26) (v := .bool (((!(lget l i).neg) && (T.same (lget l i).l (lget l i).r)))) (optVal (zu 9 26 (by kernel_rfl)) rfl rfl)
     clear zu
     refine WE.go zh ?_
     refine WE.next ?_
     refine WC.cond rfl (fun h30 => ?_) (fun h30 => ?_)
     ·have h30 : (¬ ((lget l i).neg = true)) ∧ ((T.same (lget l i).l (lget l i).r) = true) := by simpa using h30
      refine WC.seq (WC.region (WL.asg rfl rfl rfl rfl rfl (WL.nil (WE.next (WC.ret (WE.thenRet (WE.blockRet (WE.thenRet (WE.thenRet (WE.blockRet (WE.thenRet (WE.ret1 rfl rfl ?_))))))))))))
      have hb31 : Below w.heap.size w w28 := (bstep hb27 hb29)
      have hf : clSmallB 1099511627776 l = true := by simpa using h3
      have hto : trivAt l i = true := by
       have z1 : trivOne l i = true := by have z := h30; unfold trivOne; simpa using z
       unfold trivAt; rw [z1, Bool.true_or]
      exact ⟨_, rfl, congrArg Value.bool (by unfold trivB; rw [hf, anyR_true (show i < l.length by omega) hto]; rfl), hb31⟩
     ·have h30 : ¬ ((¬ ((lget l i).neg = true)) ∧ ((T.same (lget l i).l (lget l i).r) = true)) := by simpa using h30
      refine WC.skip (WE.next (WC.seq (WC.region (WL.mv rfl rfl rfl rfl rfl (WL.mv rfl rfl rfl rfl rfl ?_)))))
      refine WL.val (.slice a i c) rfl rfl rfl (fun za zC zh zk => shi_29 (k := i) rfl (zh.ev rfl) (zh.ev rfl) (by omega) zk) ?_
      refine WL.val (.int .i64 (((i : Nat) : Int))) rfl rfl rfl (fun za zC zh zk => len_29 rfl (zh.ev rfl) zk) ?_
      refine WL.mv rfl rfl rfl rfl rfl (WL.nil (WE.next (WC.block ?_)))
      refine WC.loop (X := Nat) (fun k => i - k) (fun k => [(0, .slice a l.length c), (3, .int .i64 (((i : Nat) : Int))), (4, .pointer (some ⟨g16, 0, none⟩)), (9, .bool ((!(clSmallB 1099511627776 l)))), (10, .slice a l.length c), (11, .int .i64 (((l.length : Nat) : Int))), (12, .int .i64 (((i : Nat) : Int))), (13, .bool ((decide ((((i : Nat) : Int) : Int) < (((l.length : Nat) : Int) : Int))))), (26, .bool (((!(lget l i).neg) && (T.same (lget l i).l (lget l i).r)))), (29, .slice a i c), (30, .int .i64 (((i : Nat) : Int))), (31, .int .i64 (((k : Nat) : Int)))]) (fun k w32 => k ≤ i ∧ (∀ q, q < k → trivPair l i q = false) ∧ Below w.heap.size w w32 ∧ Blk w32 g16 60 #[.bool ((lget l i).neg), .int .i64 ((lget l i).l.f), .slice ((A9 i)) ((lget l i).l.args.length) ((C10 i)), .int .i64 ((lget l i).r.f), .slice ((A11 i)) ((lget l i).r.args.length) ((C12 i))]) 0 ⟨rfl, rfl, rfl, rfl, rfl, rfl, rfl, rfl, rfl, rfl, rfl, rfl, trivial⟩ ?_ ?_
      ·have hb33 : Below w.heap.size w w28 := (bstep hb27 hb29)
       have hB34 := hB24.below hb29
       exact ⟨Nat.zero_le _, fun q h => absurd h (Nat.not_lt_zero q), hb33, hB34⟩
      ·rintro k w32 ⟨hk, hp, hb35, hB36⟩
       refine WC.seq (WC.region ?_)
       refine WL.val (.bool ((decide ((((k : Nat) : Int) : Int) < (((i : Nat) : Int) : Int))))) rfl rfl rfl (fun za zC zh zk => lss_3 rfl (zh.ev rfl) (zh.ev rfl) zk) ?_
       refine WL.nil (WE.next (WC.seq ?_))
       refine WC.cond rfl (fun h37 => ?_) (fun h37 => ?_)
       ·have h37 : (((k : Nat) : Int) : Int) < (((i : Nat) : Int) : Int) := by simpa using h37
        refine WC.skip (WE.next (WC.seq (WC.block (WC.seq (WC.region ?_)))))
        refine WL.val _ rfl rfl rfl (fun za zC zh zk => ix_29 (k := k) rfl (zh.ev rfl) (ha13 k (by first | omega | (simp; omega))) (zh.ev rfl) (by first | omega | (simp; omega)) zk) ?_
        refine WL.val _ rfl rfl rfl (fun za zC zh zk => ld_60 rfl (zh.ev rfl) (bkeeps hb35 _ _ (hc14 k (by first | omega | (simp; omega))).1) (bkeeps hb35 _ _ (hc14 k (by first | omega | (simp; omega))).2.1) (bkeeps hb35 _ _ (hc14 k (by first | omega | (simp; omega))).2.2.1) (bkeeps hb35 _ _ (hc14 k (by first | omega | (simp; omega))).2.2.2.1) (bkeeps hb35 _ _ (hc14 k (by first | omega | (simp; omega))).2.2.2.2.1) zk) ?_
        refine WL.step (post := NewBlk w32 60 #[.bool false, .int .i64 0, .slice none 0 0, .int .i64 0, .slice none 0 0]) rfl rfl rfl (fun za zC zh zk => alloc_60 rfl (zk _ _ (newBlk _ _ _))) ?_
        rintro _ w38 ⟨g39, rfl, hg40, hB41, hb42, hz43⟩
        have hl44 : g16 < g39 := by have z1 := hB36.lt; omega
        have hl45 : w.heap.size ≤ g39 := by have z2 := (hb35).size; omega
        refine WL.step (post := fun _ w' => Upd g39 w38 w' ∧ Blk w' g39 60 #[.bool ((lget l k).neg), .int .i64 ((lget l k).l.f), .slice ((A9 k)) ((lget l k).l.args.length) ((C10 k)), .int .i64 ((lget l k).r.f), .slice ((A11 k)) ((lget l k).r.args.length) ((C12 k))]) rfl rfl rfl (fun za zC zh zk => st_60 rfl (zh.ev rfl) (zh.ev rfl) rfl rfl rfl rfl rfl hB41 (by first | decide | simp) (fun v => zk v _ ⟨((((Upd.at_ _ _ _ _).trans (Upd.at_ _ _ _ _)).trans (Upd.at_ _ _ _ _)).trans (Upd.at_ _ _ _ _)).trans (Upd.at_ _ _ _ _), ((((hB41.set_ 0 _).set_ 1 _).set_ 2 _).set_ 3 _).set_ 4 _⟩)) ?_
        rintro v49 w46 ⟨hu47, hB48⟩
        have hb50 : Below w.heap.size w w38 := (bstep hb35 hb42)
        have hb51 := upd_below hb50 hu47 (by omega)
        have hB52 := hB36.below hb42
        have hB53 := upd_blk hB52 hu47 (by omega)
        refine WL.nil (WE.next (WC.seq ?_))
        refine WC.opt [(true, .val (.pointer (some ⟨g39, 0, none⟩))), (true, .val (.bool ((lget l k).neg))), (true, .val (.pointer (some ⟨g16, 0, none⟩))), (true, .val (.bool ((lget l i).neg))), (true, .val (.bool (((lget l k).neg != (lget l i).neg)))), (true, .val (.bool (((lget l k).neg != (lget l i).neg)))), ((true && ((lget l k).neg != (lget l i).neg)), .val (.agg #[.bool ((lget l k).neg), .int .i64 ((lget l k).l.f), .slice ((A9 k)) ((lget l k).l.args.length) ((C10 k)), .int .i64 ((lget l k).r.f), .slice ((A11 k)) ((lget l k).r.args.length) ((C12 k))])), ((true && ((lget l k).neg != (lget l i).neg)), .val (.agg #[.bool ((lget l i).neg), .int .i64 ((lget l i).l.f), .slice ((A9 i)) ((lget l i).l.args.length) ((C10 i)), .int .i64 ((lget l i).r.f), .slice ((A11 i)) ((lget l i).r.args.length) ((C12 i))])), ((true && ((lget l k).neg != (lget l i).neg)), .val (.bool ((sides (lget l k) (lget l i))))), (true, .val (.bool ((((lget l k).neg != (lget l i).neg) && (sides (lget l k) (lget l i))))))] [(0, .slice a l.length c), (3, .int .i64 (((i : Nat) : Int))), (4, .pointer (some ⟨g16, 0, none⟩)), (6, .pointer (some ⟨g39, 0, none⟩)), (9, .bool ((!(clSmallB 1099511627776 l)))), (10, .slice a l.length c), (11, .int .i64 (((l.length : Nat) : Int))), (12, .int .i64 (((i : Nat) : Int))), (13, .bool ((decide ((((i : Nat) : Int) : Int) < (((l.length : Nat) : Int) : Int))))), (26, .bool (((!(lget l i).neg) && (T.same (lget l i).l (lget l i).r)))), (29, .slice a i c), (30, .int .i64 (((i : Nat) : Int))), (31, .int .i64 (((k : Nat) : Int))), (32, .bool ((decide ((((k : Nat) : Int) : Int) < (((i : Nat) : Int) : Int)))))] ⟨rfl, rfl, rfl, rfl, rfl, rfl, rfl, rfl, rfl, rfl, rfl, rfl, rfl, rfl, trivial⟩ (by kernel_rfl) (by kernel_rfl) (by kernel_rfl) ?_ ?_
        ·refine ⟨⟨true, .none rfl, fun h w => optUndef h, fun zβ za zw zc => ?_⟩, ?_⟩
         ·exact fld_60_0 rfl (zc.kn.ev rfl) ⟨_, rfl, Below.refl _ _, optDef zβ rfl⟩
         refine ⟨⟨true, .none rfl, fun h w => optUndef h, fun zβ za zw zc => ?_⟩, ?_⟩
         ·exact ld_4 rfl ((evt za 35).trans (optVal (zc.dep 0 35 (by kernel_rfl)) rfl rfl)) (bkeeps zc.below _ _ ((hB48.cell 0).trans rfl)) ⟨_, rfl, Below.refl _ _, optDef zβ rfl⟩
         refine ⟨⟨true, .none rfl, fun h w => optUndef h, fun zβ za zw zc => ?_⟩, ?_⟩
         ·exact fld_60_0 rfl (zc.kn.ev rfl) ⟨_, rfl, Below.refl _ _, optDef zβ rfl⟩
         refine ⟨⟨true, .none rfl, fun h w => optUndef h, fun zβ za zw zc => ?_⟩, ?_⟩
         ·exact ld_4 rfl ((evt za 37).trans (optVal (zc.dep 2 37 (by kernel_rfl)) rfl rfl)) (bkeeps zc.below _ _ ((hB53.cell 0).trans rfl)) ⟨_, rfl, Below.refl _ _, optDef zβ rfl⟩
         refine ⟨⟨true, .none rfl, fun h w => optUndef h, fun zβ za zw zc => ?_⟩, ?_⟩
         ·exact neq_4 rfl ((evt za 36).trans (optVal (zc.dep 1 36 (by kernel_rfl)) rfl rfl)) ((evt za 38).trans (optVal (zc.dep 3 38 (by kernel_rfl)) rfl rfl)) ⟨_, rfl, Below.refl _ _, optDef zβ rfl⟩
         refine ⟨⟨true, .none rfl, fun h w => optUndef h, fun zβ za zw zc => ?_⟩, ?_⟩
         ·exact wp_move rfl ((evt za 39).trans (optVal (zc.dep 4 39 (by kernel_rfl)) rfl rfl)) ⟨_, rfl, Below.refl _ _, optDef zβ rfl⟩
         refine ⟨⟨_, .yes (c := ((lget l k).neg != (lget l i).neg)) (d := true) rfl (fun v w h => h), fun h w => optUndef h, fun zβ za zw zc => ?_⟩, ?_⟩
         ·exact ld_60 rfl (zc.kn.ev rfl) (bkeeps zc.below _ _ ((hB48.cell 0).trans rfl)) (bkeeps zc.below _ _ ((hB48.cell 1).trans rfl)) (bkeeps zc.below _ _ ((hB48.cell 2).trans rfl)) (bkeeps zc.below _ _ ((hB48.cell 3).trans rfl)) (bkeeps zc.below _ _ ((hB48.cell 4).trans rfl)) ⟨_, rfl, Below.refl _ _, optDef zβ rfl⟩
         refine ⟨⟨_, .yes (c := ((lget l k).neg != (lget l i).neg)) (d := true) rfl (fun v w h => h), fun h w => optUndef h, fun zβ za zw zc => ?_⟩, ?_⟩
         ·exact ld_60 rfl (zc.kn.ev rfl) (bkeeps zc.below _ _ ((hB53.cell 0).trans rfl)) (bkeeps zc.below _ _ ((hB53.cell 1).trans rfl)) (bkeeps zc.below _ _ ((hB53.cell 2).trans rfl)) (bkeeps zc.below _ _ ((hB53.cell 3).trans rfl)) (bkeeps zc.below _ _ ((hB53.cell 4).trans rfl)) ⟨_, rfl, Below.refl _ _, optDef zβ rfl⟩
         refine ⟨⟨_, .yes (c := ((lget l k).neg != (lget l i).neg)) (d := true) rfl (fun v w h => h), fun h w => optUndef h, fun zβ za zw zc => ?_⟩, ?_⟩
         ·exact wp_call (by kernel_rfl) rfl (hv2 ((evt za 41).trans (optVal (zc.dep 6 41 (by kernel_rfl)) rfl zβ)) ((evt za 42).trans (optVal (zc.dep 7 42 (by kernel_rfl)) rfl zβ))) (tsame_any (lget l k) (lget l i) _ _ _ (isLi_mk (IsT.below (bstep hb51 zc.below) (InT.isT (hc14 k (by first | omega | (have zz := zβ; simp only [Bool.and_eq_true, Bool.or_eq_true, Bool.true_and, Bool.not_eq_true', Bool.or_eq_false_iff, Bool.and_eq_false_iff, beq_eq_false_iff_ne, ne_eq, beq_iff_eq, decide_eq_true_eq, decide_eq_false_iff_not, bne_iff_ne, bne_eq_false_iff_eq] at zz; omega))).2.2.2.2.2.1)) (IsT.below (bstep hb51 zc.below) (InT.isT (hc14 k (by first | omega | (have zz := zβ; simp only [Bool.and_eq_true, Bool.or_eq_true, Bool.true_and, Bool.not_eq_true', Bool.or_eq_false_iff, Bool.and_eq_false_iff, beq_eq_false_iff_ne, ne_eq, beq_iff_eq, decide_eq_true_eq, decide_eq_false_iff_not, bne_iff_ne, bne_eq_false_iff_eq] at zz; omega))).2.2.2.2.2.2))) (isLi_mk (IsT.below (bstep hb51 zc.below) (InT.isT (hc14 i (by first | omega | (have zz := zβ; simp only [Bool.and_eq_true, Bool.or_eq_true, Bool.true_and, Bool.not_eq_true', Bool.or_eq_false_iff, Bool.and_eq_false_iff, beq_eq_false_iff_ne, ne_eq, beq_iff_eq, decide_eq_true_eq, decide_eq_false_iff_not, bne_iff_ne, bne_eq_false_iff_eq] at zz; omega))).2.2.2.2.2.1)) (IsT.below (bstep hb51 zc.below) (InT.isT (hc14 i (by first | omega | (have zz := zβ; simp only [Bool.and_eq_true, Bool.or_eq_true, Bool.true_and, Bool.not_eq_true', Bool.or_eq_false_iff, Bool.and_eq_false_iff, beq_eq_false_iff_ne, ne_eq, beq_iff_eq, decide_eq_true_eq, decide_eq_false_iff_not, bne_iff_ne, bne_eq_false_iff_eq] at zz; omega))).2.2.2.2.2.2)))) (fun v w' h => ⟨v, rfl, h.2, optDef zβ h.1⟩)
         refine ⟨⟨true, .none rfl, fun h w => optUndef h, fun zβ za zw zc => ?_⟩, ?_⟩
         ·exact wp_and rfl ((evt za 40).trans (optVal (zc.dep 5 40 (by kernel_rfl)) rfl rfl)) (fun hp => ((evt za 43).trans (optVal (zc.dep 8 43 (by kernel_rfl)) rfl (bMk zβ hp)))) ⟨_, rfl, Below.refl _ _, optDef zβ rfl⟩
         exact trivial
        ·intro za w55 zh hb56 zu
         have zh := zh.cons (d := 44) (v := .bool ((((lget l k).neg != (lget l i).neg) && (sides (lget l k) (lget l i))))) (optVal (zu 9 44 (by kernel_rfl)) rfl rfl)
         clear zu
         refine WE.go zh ?_
         refine WE.next ?_
         refine WC.cond rfl (fun h57 => ?_) (fun h57 => ?_)
         ·have h57 : ((lget l k).neg ≠ (lget l i).neg) ∧ ((sides (lget l k) (lget l i)) = true) := by simpa using h57
          refine WC.seq (WC.region (WL.asg rfl rfl rfl rfl rfl (WL.nil (WE.next (WC.ret (WE.blockRet (WE.thenRet (WE.thenRet (WE.blockRet (WE.blockRet (WE.thenRet (WE.thenRet (WE.blockRet (WE.thenRet (WE.ret1 rfl rfl ?_)))))))))))))))
          have hb58 : Below w.heap.size w w55 := (bstep hb51 hb56)
          have hf : clSmallB 1099511627776 l = true := by simpa using h3
          have hto : trivAt l i = true := by
           have z1 : trivPair l i k = true := by have z := h57; unfold trivPair; simpa using z
           unfold trivAt; rw [anyR_true (show k < i by omega) z1, Bool.or_true]
          exact ⟨_, rfl, congrArg Value.bool (by unfold trivB; rw [hf, anyR_true (show i < l.length by omega) hto]; rfl), hb58⟩
         ·have h57 : ¬ (((lget l k).neg ≠ (lget l i).neg) ∧ ((sides (lget l k) (lget l i)) = true)) := by simpa using h57
          refine WC.skip (WE.blockNormal (WE.next (WC.region ?_)))
          refine WL.val (.int .i64 ((((k + 1) : Nat) : Int))) rfl rfl rfl (fun za zC zh zk => addb_3 rfl (zh.ev rfl) (zh.ev rfl) (wrap_eq (by omega) (by omega) (by omega)) zk) ?_
          refine WL.mv rfl rfl rfl rfl rfl (WL.nil ?_)
          refine WE.round (k + 1) ⟨rfl, rfl, rfl, rfl, rfl, rfl, rfl, rfl, rfl, rfl, rfl, rfl, trivial⟩ ?_ ?_
          ·have hb59 : Below w.heap.size w w55 := (bstep hb51 hb56)
           have hB60 := hB53.below hb56
           exact ⟨by omega, fun q hq => by
             by_cases e : q = k
             ·rw [e]; have z := h57; unfold trivPair; simpa using z
             ·exact hp q (by omega), hb59, hB60⟩
          ·omega
       ·have h37 : ¬ ((((k : Nat) : Int) : Int) < (((i : Nat) : Int) : Int)) := by simpa using h37
        refine WC.exit (WE.thenExit (WE.thenExit (WE.blockIs rfl (WE.blockNormal (WE.next (WC.region ?_))))))
        refine WL.val (.int .i64 ((((i + 1) : Nat) : Int))) rfl rfl rfl (fun za zC zh zk => addb_3 rfl (zh.ev rfl) (zh.ev rfl) (wrap_eq (by omega) (by omega) (by omega)) zk) ?_
        refine WL.mv rfl rfl rfl rfl rfl (WL.nil ?_)
        have hto : trivAt l i = false := by
         have z1 : trivOne l i = false := by have z := h30; unfold trivOne; simpa using z
         have hki : k = i := by omega
         unfold trivAt; rw [z1, anyR_false (fun q hq => hp q (by omega))]; rfl
        refine WE.round (i + 1) ⟨rfl, rfl, rfl, rfl, rfl, trivial⟩ ?_ ?_
        ·exact ⟨by omega, fun q hq => by
           by_cases e : q = i
           ·rw [e]; exact hto
           ·exact hall q (by omega), hb35⟩
        ·omega
   ·have h6 : ¬ ((((i : Nat) : Int) : Int) < (((l.length : Nat) : Int) : Int)) := by simpa using h6
    refine WC.exit (WE.thenExit (WE.thenExit (WE.blockIs rfl (WE.next (WC.seq (WC.region (WL.asg rfl rfl rfl rfl rfl (WL.nil (WE.next (WC.ret (WE.ret1 rfl rfl ?_)))))))))))
    have hf : clSmallB 1099511627776 l = true := by simpa using h3
    exact ⟨_, rfl, congrArg Value.bool (by unfold trivB; rw [hf, anyR_false (fun q hq => hall q (by omega))]; rfl), hb5⟩
end Go.Proofs.Ytnmopmdpnpcdhaa
