/- What a bank does, as a law sees it. -/
import Derived.Test.YtbohlpfndiiimaaBKNc
import Derived.Test.YtbohlpfndiiimaaBKNe
import Derived.Test.YtbohlpfndiiimaaBKNb
import Derived.Test.YtbohlpfndiiimaaBKNa
import Derived.Test.YtbohlpfndiiimaaBKNd
import Derived.Scope

/- Are terms, clauses small? The program. -/
namespace Go.Proofs.Ytbohlpfndiiimaa
open Go.RowKit Go
set_option linter.unusedVariables false
set_option linter.unusedSimpArgs false
mutual
def T.dn (most : Int) : T → Nat → Bool
 | .mk f l, d => decide (d ≤ 30) && (if f < 0 then decide (-most ≤ f) && l.isEmpty else true) && T.dnL most l (d + 1)
def T.dnL (most : Int) : List T → Nat → Bool
 | [], _ => true
 | a :: r, d => a.dn most d && T.dnL most r d
end
/-- Are so many parts, and a term's, no more than there may be, from a depth on? -/
def smB (most : Int) (m d : Nat) (t : T) : Bool := decide (m + t.size ≤ 300) && t.dn most d
def smallB (most : Int) (t : T) : Bool := smB most 0 1 t
theorem dnL_all {most : Int} : ∀ {l : List T} {d : Nat}, T.dnL most l d = true ↔ ∀ k, k < l.length → (tget l k).dn most d = true
 | [], d => by simp [T.dnL]
 | a :: r, d => by
  rw [T.dnL, Bool.and_eq_true, dnL_all]
  constructor
  ·rintro ⟨h1, h2⟩ k hk
   cases k with
   | zero => exact h1
   | succ k => exact h2 k (by simpa using hk)
  ·intro h
   exact ⟨h 0 (by simp), fun k hk => h (k + 1) (by simpa using hk)⟩
theorem sizeL_take {l : List T} {k : Nat} (h : k < l.length) : T.sizeL (l.take (k + 1)) = T.sizeL (l.take k) + (tget l k).size := by
 have aux : ∀ a b : List T, T.sizeL (a ++ b) = T.sizeL a + T.sizeL b := fun a b => by
  induction a with
  | nil => simp [T.sizeL]
  | cons x r ih => simp only [List.cons_append, T.sizeL, ih]; omega
 rw [List.take_succ_eq_append_getElem h, aux, tget_lt h]; simp [T.sizeL]
theorem sizeL_take_le {l : List T} {k : Nat} : T.sizeL (l.take k) ≤ T.sizeL l := by
 have aux : ∀ a b : List T, T.sizeL (a ++ b) = T.sizeL a + T.sizeL b := fun a b => by
  induction a with
  | nil => simp [T.sizeL]
  | cons x r ih => simp only [List.cons_append, T.sizeL, ih]; omega
 have e := congrArg T.sizeL (List.take_append_drop k l)
 rw [aux] at e; omega
theorem smB_iff {most : Int} {m d : Nat} {t : T} : smB most m d t = true ↔ m + t.size ≤ 300 ∧ t.dn most d = true := by unfold smB; rw [Bool.and_eq_true, decide_eq_true_eq]
theorem dn_iff {most : Int} {d : Nat} {f : Int} {l : List T} : (T.mk f l).dn most d = true ↔ d ≤ 30 ∧ (f < 0 → -most ≤ f ∧ l = []) ∧ T.dnL most l (d + 1) = true := by
 rw [T.dn, Bool.and_eq_true, Bool.and_eq_true, decide_eq_true_eq, and_assoc]
 by_cases hf : f < 0
 ·rw [if_pos hf, Bool.and_eq_true, decide_eq_true_eq, List.isEmpty_iff]
  exact ⟨fun h => ⟨h.1, fun _ => h.2.1, h.2.2⟩, fun h => ⟨h.1, h.2.1 hf, h.2.2⟩⟩
 ·rw [if_neg hf]
  exact ⟨fun h => ⟨h.1, fun q => absurd q hf, h.2.2⟩, fun h => ⟨h.1, rfl, h.2.2⟩⟩
theorem size_mk {f : Int} {l : List T} : (T.mk f l).size = 1 + T.sizeL l := by rw [T.size]
theorem smB_head {most : Int} {m d : Nat} {f : Int} {l : List T} (h : (300 < m + 1 ∨ 30 < d) ∨ f < 0 ∧ (f < -most ∨ 0 < l.length)) : smB most m d (.mk f l) = false := by
 rw [Bool.eq_false_iff]; intro e
 rw [smB_iff, size_mk, dn_iff] at e
 obtain ⟨e1, e2, e3, _⟩ := e
 rcases h with (h | h) | ⟨h1, h2⟩
 ·omega
 ·omega
 ·obtain ⟨e4, rfl⟩ := e3 h1
  simp only [List.length_nil] at h2; omega
theorem smB_kid {most : Int} {m d k : Nat} {f : Int} {l : List T} (hk : k < l.length) (h : smB most (m + 1 + T.sizeL (l.take k)) (d + 1) (tget l k) = false) : smB most m d (.mk f l) = false := by
 rw [Bool.eq_false_iff] at h ⊢; intro e; apply h
 rw [smB_iff, size_mk, dn_iff] at e
 rw [smB_iff]
 have e1 := e.1
 have z1 := sizeL_take hk
 have z2 := sizeL_take_le (l := l) (k := k + 1)
 exact ⟨by omega, dnL_all.1 e.2.2.2 k hk⟩
theorem smB_yes {most : Int} {m d : Nat} {f : Int} {l : List T} (h0 : ¬ ((300 < m + 1 ∨ 30 < d) ∨ f < 0 ∧ (f < -most ∨ 0 < l.length))) (hn : m + 1 + T.sizeL l ≤ 300) (h : ∀ k, k < l.length → smB most (m + 1 + T.sizeL (l.take k)) (d + 1) (tget l k) = true) : smB most m d (.mk f l) = true := by
 rw [smB_iff, size_mk, dn_iff]
 exact ⟨by omega, by omega, fun hf => ⟨by omega, List.eq_nil_of_length_eq_zero (by omega)⟩, dnL_all.2 (fun k hk => (smB_iff.1 (h k hk)).2)⟩
set_option maxRecDepth 100000 in
theorem small1_any (most : Int) (hmost : 0 ≤ most ∧ most ≤ 1099511627776) (w0 : World) (gn gm gf : Nat) (hgn : w0.heap.size ≤ gn) (hmn : gm ≠ gn) (hfn : gf ≠ gn) : ∀ (t : T) (m d : Nat) (w : World) (pb po : Nat) (a : Option Addr) (c : Nat), m ≤ 1000 → d ≤ 31 → Below w0.heap.size w0 w → w0.cell? ⟨pb, po, none⟩ = some (.int .i64 t.f) → w0.cell? ⟨pb, po + 1, none⟩ = some (.slice a t.args.length c) → IsT w0 t (.agg #[.int .i64 t.f, .slice a t.args.length c]) →
  Blk w gn 3 #[.int .i64 (m : Int)] → Blk w gm 3 #[.int .i64 most] → Blk w gf 107 #[.func (.func 65) #[] #[.pointer (some ⟨gn, 0, none⟩), .pointer (some ⟨gm, 0, none⟩), .pointer (some ⟨gf, 0, none⟩)]] → Calls Try.prog 65 #[.pointer (some ⟨pb, po, none⟩), .int .i64 (d : Int), .pointer (some ⟨gn, 0, none⟩), .pointer (some ⟨gm, 0, none⟩), .pointer (some ⟨gf, 0, none⟩)] w (Ret fun v' w' => (v' = .bool (smB most m d t) ∧ ∃ m' : Nat, Blk w' gn 3 #[.int .i64 (m' : Int)] ∧ (smB most m d t = true → m' = m + t.size)) ∧ Chg (fun b => b = gn) w w') := by
 refine T.ind (fun f l ih => ?_)
 intro m d w pb po a c hm hd hw hc0 hc1 hT hN hM hF
 have hl0 : IsTs w0 l a 0 := (isT_row hT).2.2.2
 have hI : I64 f := hT.form.1
 unfold I64 at hI
 have hlen : l.length ≤ 9223372036854775807 := by have z := isT_row hT; have z2 := z.2.1; have z3 := z.2.2.1; unfold maxLen at z3; have z1 : l.length ≤ c := z2; omega
 have hc0' : w0.cell? ⟨pb, po, none⟩ = some (.int .i64 f) := hc0
 have hc1' : w0.cell? ⟨pb, po + 1, none⟩ = some (.slice a l.length c) := hc1
 refine Calls.walk (l := [.pointer (some ⟨pb, po, none⟩), .int .i64 (((d : Nat) : Int)), .pointer (some ⟨gn, 0, none⟩), .pointer (some ⟨gm, 0, none⟩), .pointer (some ⟨gf, 0, none⟩)]) Try.func65 rfl (by kernel_rfl) ?_
 refine WC.sub (K' := [(0, .pointer (some ⟨pb, po, none⟩)), (1, .int .i64 (((d : Nat) : Int))), (2, .pointer (some ⟨gn, 0, none⟩)), (3, .pointer (some ⟨gm, 0, none⟩)), (4, .pointer (some ⟨gf, 0, none⟩))]) ⟨rfl, rfl, rfl, rfl, rfl, trivial⟩ ?_
 refine WC.seq (WC.region (WL.asg rfl rfl rfl rfl rfl (WL.nil (WE.next (WC.seq (WC.seq (WC.region ?_)))))))
 refine WL.val _ rfl rfl rfl (fun za zC zh zk => ld_3 rfl (zh.ev rfl) ((hN.cell 0).trans rfl) zk) ?_
 refine WL.val (.int .i64 ((((m + 1) : Nat) : Int))) rfl rfl rfl (fun za zC zh zk => addb_3 rfl (zh.ev rfl) (zh.ev rfl) (wrap_eq (by omega) (by omega) (by omega)) zk) ?_
 refine WL.step (post := fun _ w' => Upd gn w w' ∧ Blk w' gn 3 #[.int .i64 ((((m + 1) : Nat) : Int))]) rfl rfl rfl (fun za zC zh zk => st_3 rfl (zh.ev rfl) (zh.ev rfl) hN (by first | decide | simp) (fun v => zk v _ ⟨Upd.at_ _ _ _ _, hN.set_ 0 _⟩)) ?_
 rintro v4 w1 ⟨hu2, hB3⟩
 have hb5 := upd_below hw hu2 (by omega)
 have hB6 := upd_blk hM hu2 (by omega)
 have hB7 := upd_blk hF hu2 (by omega)
 refine WL.nil (WE.next (WC.seq ?_))
 refine WC.opt [(true, .val (.int .i64 ((((m + 1) : Nat) : Int)))), (true, .val (.bool ((decide ((300 : Int) < ((((m + 1) : Nat) : Int) : Int)))))), (true, .val (.bool ((decide ((300 : Int) < ((((m + 1) : Nat) : Int) : Int)))))), ((true && !(decide ((300 : Int) < ((((m + 1) : Nat) : Int) : Int)))), .val (.int .i64 (((d : Nat) : Int)))), ((true && !(decide ((300 : Int) < ((((m + 1) : Nat) : Int) : Int)))), .val (.bool ((decide ((30 : Int) < (((d : Nat) : Int) : Int)))))), (true, .val (.bool (((decide ((300 : Int) < ((((m + 1) : Nat) : Int) : Int))) || (decide ((30 : Int) < (((d : Nat) : Int) : Int))))))), (true, .val (.bool (((decide ((300 : Int) < ((((m + 1) : Nat) : Int) : Int))) || (decide ((30 : Int) < (((d : Nat) : Int) : Int))))))), ((true && !((decide ((300 : Int) < ((((m + 1) : Nat) : Int) : Int))) || (decide ((30 : Int) < (((d : Nat) : Int) : Int))))), .val (.pointer (some ⟨pb, po, none⟩))), ((true && !((decide ((300 : Int) < ((((m + 1) : Nat) : Int) : Int))) || (decide ((30 : Int) < (((d : Nat) : Int) : Int))))), .val (.pointer (some ⟨pb, po, none⟩))), ((true && !((decide ((300 : Int) < ((((m + 1) : Nat) : Int) : Int))) || (decide ((30 : Int) < (((d : Nat) : Int) : Int))))), .val (.pointer (some ⟨pb, po, none⟩))), ((true && !((decide ((300 : Int) < ((((m + 1) : Nat) : Int) : Int))) || (decide ((30 : Int) < (((d : Nat) : Int) : Int))))), .val (.int .i64 f)), ((true && !((decide ((300 : Int) < ((((m + 1) : Nat) : Int) : Int))) || (decide ((30 : Int) < (((d : Nat) : Int) : Int))))), .val (.bool ((decide ((f : Int) < (0 : Int)))))), ((true && !((decide ((300 : Int) < ((((m + 1) : Nat) : Int) : Int))) || (decide ((30 : Int) < (((d : Nat) : Int) : Int))))), .val (.bool ((decide ((f : Int) < (0 : Int)))))), (((true && !((decide ((300 : Int) < ((((m + 1) : Nat) : Int) : Int))) || (decide ((30 : Int) < (((d : Nat) : Int) : Int))))) && (decide ((f : Int) < (0 : Int)))), .val (.pointer (some ⟨pb, po, none⟩))), (((true && !((decide ((300 : Int) < ((((m + 1) : Nat) : Int) : Int))) || (decide ((30 : Int) < (((d : Nat) : Int) : Int))))) && (decide ((f : Int) < (0 : Int)))), .val (.pointer (some ⟨pb, po, none⟩))), (((true && !((decide ((300 : Int) < ((((m + 1) : Nat) : Int) : Int))) || (decide ((30 : Int) < (((d : Nat) : Int) : Int))))) && (decide ((f : Int) < (0 : Int)))), .val (.pointer (some ⟨pb, po, none⟩))), (((true && !((decide ((300 : Int) < ((((m + 1) : Nat) : Int) : Int))) || (decide ((30 : Int) < (((d : Nat) : Int) : Int))))) && (decide ((f : Int) < (0 : Int)))), .val (.int .i64 f)), (((true && !((decide ((300 : Int) < ((((m + 1) : Nat) : Int) : Int))) || (decide ((30 : Int) < (((d : Nat) : Int) : Int))))) && (decide ((f : Int) < (0 : Int)))), .val (.int .i64 most)), (((true && !((decide ((300 : Int) < ((((m + 1) : Nat) : Int) : Int))) || (decide ((30 : Int) < (((d : Nat) : Int) : Int))))) && (decide ((f : Int) < (0 : Int)))), .val (.int .i64 ((-most)))), (((true && !((decide ((300 : Int) < ((((m + 1) : Nat) : Int) : Int))) || (decide ((30 : Int) < (((d : Nat) : Int) : Int))))) && (decide ((f : Int) < (0 : Int)))), .val (.bool ((decide ((f : Int) < ((-most) : Int)))))), (((true && !((decide ((300 : Int) < ((((m + 1) : Nat) : Int) : Int))) || (decide ((30 : Int) < (((d : Nat) : Int) : Int))))) && (decide ((f : Int) < (0 : Int)))), .val (.bool ((decide ((f : Int) < ((-most) : Int)))))), ((((true && !((decide ((300 : Int) < ((((m + 1) : Nat) : Int) : Int))) || (decide ((30 : Int) < (((d : Nat) : Int) : Int))))) && (decide ((f : Int) < (0 : Int)))) && !(decide ((f : Int) < ((-most) : Int)))), .val (.pointer (some ⟨pb, po, none⟩))), ((((true && !((decide ((300 : Int) < ((((m + 1) : Nat) : Int) : Int))) || (decide ((30 : Int) < (((d : Nat) : Int) : Int))))) && (decide ((f : Int) < (0 : Int)))) && !(decide ((f : Int) < ((-most) : Int)))), .val (.pointer (some ⟨pb, po, none⟩))), ((((true && !((decide ((300 : Int) < ((((m + 1) : Nat) : Int) : Int))) || (decide ((30 : Int) < (((d : Nat) : Int) : Int))))) && (decide ((f : Int) < (0 : Int)))) && !(decide ((f : Int) < ((-most) : Int)))), .val (.pointer (some ⟨pb, po + 1, none⟩))), ((((true && !((decide ((300 : Int) < ((((m + 1) : Nat) : Int) : Int))) || (decide ((30 : Int) < (((d : Nat) : Int) : Int))))) && (decide ((f : Int) < (0 : Int)))) && !(decide ((f : Int) < ((-most) : Int)))), .val (.slice a l.length c)), ((((true && !((decide ((300 : Int) < ((((m + 1) : Nat) : Int) : Int))) || (decide ((30 : Int) < (((d : Nat) : Int) : Int))))) && (decide ((f : Int) < (0 : Int)))) && !(decide ((f : Int) < ((-most) : Int)))), .val (.int .i64 (((l.length : Nat) : Int)))), ((((true && !((decide ((300 : Int) < ((((m + 1) : Nat) : Int) : Int))) || (decide ((30 : Int) < (((d : Nat) : Int) : Int))))) && (decide ((f : Int) < (0 : Int)))) && !(decide ((f : Int) < ((-most) : Int)))), .val (.bool ((decide ((0 : Int) < (((l.length : Nat) : Int) : Int)))))), (((true && !((decide ((300 : Int) < ((((m + 1) : Nat) : Int) : Int))) || (decide ((30 : Int) < (((d : Nat) : Int) : Int))))) && (decide ((f : Int) < (0 : Int)))), .val (.bool (((decide ((f : Int) < ((-most) : Int))) || (decide ((0 : Int) < (((l.length : Nat) : Int) : Int))))))), ((true && !((decide ((300 : Int) < ((((m + 1) : Nat) : Int) : Int))) || (decide ((30 : Int) < (((d : Nat) : Int) : Int))))), .val (.bool (((decide ((f : Int) < (0 : Int))) && ((decide ((f : Int) < ((-most) : Int))) || (decide ((0 : Int) < (((l.length : Nat) : Int) : Int)))))))), (true, .val (.bool ((((decide ((300 : Int) < ((((m + 1) : Nat) : Int) : Int))) || (decide ((30 : Int) < (((d : Nat) : Int) : Int)))) || ((decide ((f : Int) < (0 : Int))) && ((decide ((f : Int) < ((-most) : Int))) || (decide ((0 : Int) < (((l.length : Nat) : Int) : Int)))))))))] [(0, .pointer (some ⟨pb, po, none⟩)), (1, .int .i64 (((d : Nat) : Int))), (2, .pointer (some ⟨gn, 0, none⟩)), (3, .pointer (some ⟨gm, 0, none⟩)), (4, .pointer (some ⟨gf, 0, none⟩)), (7, .bool false)] ⟨rfl, rfl, rfl, rfl, rfl, rfl, trivial⟩ (by kernel_rfl) (by kernel_rfl) (by kernel_rfl) ?_ ?_
 ·refine ⟨⟨true, .none rfl, fun h w => optUndef h, fun zβ za zw zc => ?_⟩, ?_⟩
  ·exact ld_3 rfl (zc.kn.ev rfl) (bkeeps zc.below _ _ ((hB3.cell 0).trans rfl)) ⟨_, rfl, Below.refl _ _, optDef zβ rfl⟩
  refine ⟨⟨true, .none rfl, fun h w => optUndef h, fun zβ za zw zc => ?_⟩, ?_⟩
  ·exact gtr_3 rfl ((evt za 11).trans (optVal (zc.dep 0 11 (by kernel_rfl)) rfl rfl)) (zc.kn.ev rfl) ⟨_, rfl, Below.refl _ _, optDef zβ rfl⟩
  refine ⟨⟨true, .none rfl, fun h w => optUndef h, fun zβ za zw zc => ?_⟩, ?_⟩
  ·exact wp_move rfl ((evt za 12).trans (optVal (zc.dep 1 12 (by kernel_rfl)) rfl rfl)) ⟨_, rfl, Below.refl _ _, optDef zβ rfl⟩
  refine ⟨⟨_, .no (c := (decide ((300 : Int) < ((((m + 1) : Nat) : Int) : Int)))) (d := true) rfl (fun v w h => h), fun h w => optUndef h, fun zβ za zw zc => ?_⟩, ?_⟩
  ·exact wp_move rfl (zc.kn.ev rfl) ⟨_, rfl, Below.refl _ _, optDef zβ rfl⟩
  refine ⟨⟨_, .no (c := (decide ((300 : Int) < ((((m + 1) : Nat) : Int) : Int)))) (d := true) rfl (fun v w h => h), fun h w => optUndef h, fun zβ za zw zc => ?_⟩, ?_⟩
  ·exact gtr_3 rfl ((evt za 14).trans (optVal (zc.dep 3 14 (by kernel_rfl)) rfl zβ)) (zc.kn.ev rfl) ⟨_, rfl, Below.refl _ _, optDef zβ rfl⟩
  refine ⟨⟨true, .none rfl, fun h w => optUndef h, fun zβ za zw zc => ?_⟩, ?_⟩
  ·exact wp_or rfl ((evt za 13).trans (optVal (zc.dep 2 13 (by kernel_rfl)) rfl rfl)) (fun hp => ((evt za 15).trans (optVal (zc.dep 4 15 (by kernel_rfl)) rfl (bMkN zβ hp)))) ⟨_, rfl, Below.refl _ _, optDef zβ rfl⟩
  refine ⟨⟨true, .none rfl, fun h w => optUndef h, fun zβ za zw zc => ?_⟩, ?_⟩
  ·exact wp_move rfl ((evt za 16).trans (optVal (zc.dep 5 16 (by kernel_rfl)) rfl rfl)) ⟨_, rfl, Below.refl _ _, optDef zβ rfl⟩
  refine ⟨⟨_, .no (c := ((decide ((300 : Int) < ((((m + 1) : Nat) : Int) : Int))) || (decide ((30 : Int) < (((d : Nat) : Int) : Int))))) (d := true) rfl (fun v w h => h), fun h w => optUndef h, fun zβ za zw zc => ?_⟩, ?_⟩
  ·exact wp_move rfl (zc.kn.ev rfl) ⟨_, rfl, Below.refl _ _, optDef zβ rfl⟩
  refine ⟨⟨_, .no (c := ((decide ((300 : Int) < ((((m + 1) : Nat) : Int) : Int))) || (decide ((30 : Int) < (((d : Nat) : Int) : Int))))) (d := true) rfl (fun v w h => h), fun h w => optUndef h, fun zβ za zw zc => ?_⟩, ?_⟩
  ·exact nilCheck_ rfl ((evt za 18).trans (optVal (zc.dep 7 18 (by kernel_rfl)) rfl zβ)) ⟨_, rfl, Below.refl _ _, optDef zβ rfl⟩
  refine ⟨⟨_, .no (c := ((decide ((300 : Int) < ((((m + 1) : Nat) : Int) : Int))) || (decide ((30 : Int) < (((d : Nat) : Int) : Int))))) (d := true) rfl (fun v w h => h), fun h w => optUndef h, fun zβ za zw zc => ?_⟩, ?_⟩
  ·exact fld_35_0 rfl ((evt za 19).trans (optVal (zc.dep 8 19 (by kernel_rfl)) rfl zβ)) ⟨_, rfl, Below.refl _ _, optDef zβ rfl⟩
  refine ⟨⟨_, .no (c := ((decide ((300 : Int) < ((((m + 1) : Nat) : Int) : Int))) || (decide ((30 : Int) < (((d : Nat) : Int) : Int))))) (d := true) rfl (fun v w h => h), fun h w => optUndef h, fun zβ za zw zc => ?_⟩, ?_⟩
  ·exact ld_3 rfl ((evt za 20).trans (optVal (zc.dep 9 20 (by kernel_rfl)) rfl zβ)) (bkeeps (bstep hb5 zc.below) _ _ hc0') ⟨_, rfl, Below.refl _ _, optDef zβ rfl⟩
  refine ⟨⟨_, .no (c := ((decide ((300 : Int) < ((((m + 1) : Nat) : Int) : Int))) || (decide ((30 : Int) < (((d : Nat) : Int) : Int))))) (d := true) rfl (fun v w h => h), fun h w => optUndef h, fun zβ za zw zc => ?_⟩, ?_⟩
  ·exact lss_3 rfl ((evt za 21).trans (optVal (zc.dep 10 21 (by kernel_rfl)) rfl zβ)) (zc.kn.ev rfl) ⟨_, rfl, Below.refl _ _, optDef zβ rfl⟩
  refine ⟨⟨_, .no (c := ((decide ((300 : Int) < ((((m + 1) : Nat) : Int) : Int))) || (decide ((30 : Int) < (((d : Nat) : Int) : Int))))) (d := true) rfl (fun v w h => h), fun h w => optUndef h, fun zβ za zw zc => ?_⟩, ?_⟩
  ·exact wp_move rfl ((evt za 22).trans (optVal (zc.dep 11 22 (by kernel_rfl)) rfl zβ)) ⟨_, rfl, Below.refl _ _, optDef zβ rfl⟩
  refine ⟨⟨_, .yes (c := (decide ((f : Int) < (0 : Int)))) (d := (true && !((decide ((300 : Int) < ((((m + 1) : Nat) : Int) : Int))) || (decide ((30 : Int) < (((d : Nat) : Int) : Int)))))) rfl (fun v w h => h), fun h w => optUndef h, fun zβ za zw zc => ?_⟩, ?_⟩
  ·exact wp_move rfl (zc.kn.ev rfl) ⟨_, rfl, Below.refl _ _, optDef zβ rfl⟩
  refine ⟨⟨_, .yes (c := (decide ((f : Int) < (0 : Int)))) (d := (true && !((decide ((300 : Int) < ((((m + 1) : Nat) : Int) : Int))) || (decide ((30 : Int) < (((d : Nat) : Int) : Int)))))) rfl (fun v w h => h), fun h w => optUndef h, fun zβ za zw zc => ?_⟩, ?_⟩
  ·exact nilCheck_ rfl ((evt za 24).trans (optVal (zc.dep 13 24 (by kernel_rfl)) rfl zβ)) ⟨_, rfl, Below.refl _ _, optDef zβ rfl⟩
  refine ⟨⟨_, .yes (c := (decide ((f : Int) < (0 : Int)))) (d := (true && !((decide ((300 : Int) < ((((m + 1) : Nat) : Int) : Int))) || (decide ((30 : Int) < (((d : Nat) : Int) : Int)))))) rfl (fun v w h => h), fun h w => optUndef h, fun zβ za zw zc => ?_⟩, ?_⟩
  ·exact fld_35_0 rfl ((evt za 25).trans (optVal (zc.dep 14 25 (by kernel_rfl)) rfl zβ)) ⟨_, rfl, Below.refl _ _, optDef zβ rfl⟩
  refine ⟨⟨_, .yes (c := (decide ((f : Int) < (0 : Int)))) (d := (true && !((decide ((300 : Int) < ((((m + 1) : Nat) : Int) : Int))) || (decide ((30 : Int) < (((d : Nat) : Int) : Int)))))) rfl (fun v w h => h), fun h w => optUndef h, fun zβ za zw zc => ?_⟩, ?_⟩
  ·exact ld_3 rfl ((evt za 26).trans (optVal (zc.dep 15 26 (by kernel_rfl)) rfl zβ)) (bkeeps (bstep hb5 zc.below) _ _ hc0') ⟨_, rfl, Below.refl _ _, optDef zβ rfl⟩
  refine ⟨⟨_, .yes (c := (decide ((f : Int) < (0 : Int)))) (d := (true && !((decide ((300 : Int) < ((((m + 1) : Nat) : Int) : Int))) || (decide ((30 : Int) < (((d : Nat) : Int) : Int)))))) rfl (fun v w h => h), fun h w => optUndef h, fun zβ za zw zc => ?_⟩, ?_⟩
  ·exact ld_3 rfl (zc.kn.ev rfl) (bkeeps zc.below _ _ ((hB6.cell 0).trans rfl)) ⟨_, rfl, Below.refl _ _, optDef zβ rfl⟩
  refine ⟨⟨_, .yes (c := (decide ((f : Int) < (0 : Int)))) (d := (true && !((decide ((300 : Int) < ((((m + 1) : Nat) : Int) : Int))) || (decide ((30 : Int) < (((d : Nat) : Int) : Int)))))) rfl (fun v w h => h), fun h w => optUndef h, fun zβ za zw zc => ?_⟩, ?_⟩
  ·exact negb_3 rfl ((evt za 28).trans (optVal (zc.dep 17 28 (by kernel_rfl)) rfl zβ)) (wrap_eq (by omega) (by omega) (by omega)) ⟨_, rfl, Below.refl _ _, optDef zβ rfl⟩
  refine ⟨⟨_, .yes (c := (decide ((f : Int) < (0 : Int)))) (d := (true && !((decide ((300 : Int) < ((((m + 1) : Nat) : Int) : Int))) || (decide ((30 : Int) < (((d : Nat) : Int) : Int)))))) rfl (fun v w h => h), fun h w => optUndef h, fun zβ za zw zc => ?_⟩, ?_⟩
  ·exact lss_3 rfl ((evt za 27).trans (optVal (zc.dep 16 27 (by kernel_rfl)) rfl zβ)) ((evt za 29).trans (optVal (zc.dep 18 29 (by kernel_rfl)) rfl zβ)) ⟨_, rfl, Below.refl _ _, optDef zβ rfl⟩
  refine ⟨⟨_, .yes (c := (decide ((f : Int) < (0 : Int)))) (d := (true && !((decide ((300 : Int) < ((((m + 1) : Nat) : Int) : Int))) || (decide ((30 : Int) < (((d : Nat) : Int) : Int)))))) rfl (fun v w h => h), fun h w => optUndef h, fun zβ za zw zc => ?_⟩, ?_⟩
  ·exact wp_move rfl ((evt za 30).trans (optVal (zc.dep 19 30 (by kernel_rfl)) rfl zβ)) ⟨_, rfl, Below.refl _ _, optDef zβ rfl⟩
  refine ⟨⟨_, .no (c := (decide ((f : Int) < ((-most) : Int)))) (d := ((true && !((decide ((300 : Int) < ((((m + 1) : Nat) : Int) : Int))) || (decide ((30 : Int) < (((d : Nat) : Int) : Int))))) && (decide ((f : Int) < (0 : Int))))) rfl (fun v w h => h), fun h w => optUndef h, fun zβ za zw zc => ?_⟩, ?_⟩
  ·exact wp_move rfl (zc.kn.ev rfl) ⟨_, rfl, Below.refl _ _, optDef zβ rfl⟩
  refine ⟨⟨_, .no (c := (decide ((f : Int) < ((-most) : Int)))) (d := ((true && !((decide ((300 : Int) < ((((m + 1) : Nat) : Int) : Int))) || (decide ((30 : Int) < (((d : Nat) : Int) : Int))))) && (decide ((f : Int) < (0 : Int))))) rfl (fun v w h => h), fun h w => optUndef h, fun zβ za zw zc => ?_⟩, ?_⟩
  ·exact nilCheck_ rfl ((evt za 32).trans (optVal (zc.dep 21 32 (by kernel_rfl)) rfl zβ)) ⟨_, rfl, Below.refl _ _, optDef zβ rfl⟩
  refine ⟨⟨_, .no (c := (decide ((f : Int) < ((-most) : Int)))) (d := ((true && !((decide ((300 : Int) < ((((m + 1) : Nat) : Int) : Int))) || (decide ((30 : Int) < (((d : Nat) : Int) : Int))))) && (decide ((f : Int) < (0 : Int))))) rfl (fun v w h => h), fun h w => optUndef h, fun zβ za zw zc => ?_⟩, ?_⟩
  ·exact fld_35_1 rfl ((evt za 33).trans (optVal (zc.dep 22 33 (by kernel_rfl)) rfl zβ)) ⟨_, rfl, Below.refl _ _, optDef zβ rfl⟩
  refine ⟨⟨_, .no (c := (decide ((f : Int) < ((-most) : Int)))) (d := ((true && !((decide ((300 : Int) < ((((m + 1) : Nat) : Int) : Int))) || (decide ((30 : Int) < (((d : Nat) : Int) : Int))))) && (decide ((f : Int) < (0 : Int))))) rfl (fun v w h => h), fun h w => optUndef h, fun zβ za zw zc => ?_⟩, ?_⟩
  ·exact ld_25 rfl ((evt za 34).trans (optVal (zc.dep 23 34 (by kernel_rfl)) rfl zβ)) (bkeeps (bstep hb5 zc.below) _ _ hc1') ⟨_, rfl, Below.refl _ _, optDef zβ rfl⟩
  refine ⟨⟨_, .no (c := (decide ((f : Int) < ((-most) : Int)))) (d := ((true && !((decide ((300 : Int) < ((((m + 1) : Nat) : Int) : Int))) || (decide ((30 : Int) < (((d : Nat) : Int) : Int))))) && (decide ((f : Int) < (0 : Int))))) rfl (fun v w h => h), fun h w => optUndef h, fun zβ za zw zc => ?_⟩, ?_⟩
  ·exact len_25 rfl ((evt za 35).trans (optVal (zc.dep 24 35 (by kernel_rfl)) rfl zβ)) ⟨_, rfl, Below.refl _ _, optDef zβ rfl⟩
  refine ⟨⟨_, .no (c := (decide ((f : Int) < ((-most) : Int)))) (d := ((true && !((decide ((300 : Int) < ((((m + 1) : Nat) : Int) : Int))) || (decide ((30 : Int) < (((d : Nat) : Int) : Int))))) && (decide ((f : Int) < (0 : Int))))) rfl (fun v w h => h), fun h w => optUndef h, fun zβ za zw zc => ?_⟩, ?_⟩
  ·exact gtr_3 rfl ((evt za 36).trans (optVal (zc.dep 25 36 (by kernel_rfl)) rfl zβ)) (zc.kn.ev rfl) ⟨_, rfl, Below.refl _ _, optDef zβ rfl⟩
  refine ⟨⟨_, .yes (c := (decide ((f : Int) < (0 : Int)))) (d := (true && !((decide ((300 : Int) < ((((m + 1) : Nat) : Int) : Int))) || (decide ((30 : Int) < (((d : Nat) : Int) : Int)))))) rfl (fun v w h => h), fun h w => optUndef h, fun zβ za zw zc => ?_⟩, ?_⟩
  ·exact wp_or rfl ((evt za 31).trans (optVal (zc.dep 20 31 (by kernel_rfl)) rfl zβ)) (fun hp => ((evt za 37).trans (optVal (zc.dep 26 37 (by kernel_rfl)) rfl (bMkN zβ hp)))) ⟨_, rfl, Below.refl _ _, optDef zβ rfl⟩
  refine ⟨⟨_, .no (c := ((decide ((300 : Int) < ((((m + 1) : Nat) : Int) : Int))) || (decide ((30 : Int) < (((d : Nat) : Int) : Int))))) (d := true) rfl (fun v w h => h), fun h w => optUndef h, fun zβ za zw zc => ?_⟩, ?_⟩
  ·exact wp_and rfl ((evt za 23).trans (optVal (zc.dep 12 23 (by kernel_rfl)) rfl zβ)) (fun hp => ((evt za 38).trans (optVal (zc.dep 27 38 (by kernel_rfl)) rfl (bMk zβ hp)))) ⟨_, rfl, Below.refl _ _, optDef zβ rfl⟩
  refine ⟨⟨true, .none rfl, fun h w => optUndef h, fun zβ za zw zc => ?_⟩, ?_⟩
  ·exact wp_or rfl ((evt za 17).trans (optVal (zc.dep 6 17 (by kernel_rfl)) rfl rfl)) (fun hp => ((evt za 39).trans (optVal (zc.dep 28 39 (by kernel_rfl)) rfl (bMkN zβ hp)))) ⟨_, rfl, Below.refl _ _, optDef zβ rfl⟩
  exact trivial
 ·intro za w8 zh hb9 zu
  have zh := zh.cons (d := 40) (v := .bool ((((decide ((300 : Int) < ((((m + 1) : Nat) : Int) : Int))) || (decide ((30 : Int) < (((d : Nat) : Int) : Int)))) || ((decide ((f : Int) < (0 : Int))) && ((decide ((f : Int) < ((-most) : Int))) || (decide ((0 : Int) < (((l.length : Nat) : Int) : Int)))))))) (optVal (zu 29 40 (by kernel_rfl)) rfl rfl)
  clear zu
  refine WE.go zh ?_
  refine WE.next ?_
  refine WC.cond rfl (fun h10 => ?_) (fun h10 => ?_)
  ·have h10 : (((300 : Int) < ((((m + 1) : Nat) : Int) : Int)) ∨ ((30 : Int) < (((d : Nat) : Int) : Int))) ∨ (((f : Int) < (0 : Int)) ∧ (((f : Int) < ((-most) : Int)) ∨ ((0 : Int) < (((l.length : Nat) : Int) : Int)))) := by simpa using h10
   refine WC.seq (WC.region (WL.asg rfl rfl rfl rfl rfl (WL.nil (WE.next (WC.ret (WE.thenRet (WE.ret1 rfl rfl ?_)))))))
   have hB11 := hB3.below hb9
   have hs12 : Chg ((fun b => b = gn)) w w8 := (Chg.trans2 (Chg.trans2 (Chg.refl ((fun b => b = gn)) _) (Chg.ofUpd (S := fun k => k = gn) hu2 rfl) (fun i h1 h2 => by first | exact h2 | exact .inl ⟨h2, h1⟩ | exact .inl h2 | exact .inr h2 | exact .inr (.inl h2) | exact .inr (.inr h2) | ((try dsimp only at *); omega))) (Chg.ofBelow (S := fun k => k < 0) hb9) (fun i h1 h2 => by first | exact h2 | exact .inl ⟨h2, h1⟩ | exact .inl h2 | exact .inr h2 | exact .inr (.inl h2) | exact .inr (.inr h2) | ((try dsimp only at *); omega)))
   have hno : smB most m d (.mk f l) = false := smB_head (by omega)
   exact ⟨_, rfl, ⟨by rw [hno], _, hB11, fun h => by rw [hno] at h; cases h⟩, hs12⟩
  ·have h10 : ¬ ((((300 : Int) < ((((m + 1) : Nat) : Int) : Int)) ∨ ((30 : Int) < (((d : Nat) : Int) : Int))) ∨ (((f : Int) < (0 : Int)) ∧ (((f : Int) < ((-most) : Int)) ∨ ((0 : Int) < (((l.length : Nat) : Int) : Int))))) := by simpa using h10
   have hd30 : d ≤ 30 := by omega
   have hm3 : m + 1 ≤ 300 := by omega
   refine WC.skip (WE.next (WC.seq (WC.seq (WC.region (WL.mv rfl rfl rfl rfl rfl ?_)))))
   refine WL.val _ rfl rfl rfl (fun za zC zh zk => nilCheck_ rfl (zh.ev rfl) zk) ?_
   refine WL.val _ rfl rfl rfl (fun za zC zh zk => fld_35_1 rfl (zh.ev rfl) zk) ?_
   have hb13 : Below w0.heap.size w0 w8 := (bstep hb5 hb9)
   refine WL.val _ rfl rfl rfl (fun za zC zh zk => ld_25 rfl (zh.ev rfl) (bkeeps hb13 _ _ hc1') zk) ?_
   refine WL.val (.int .i64 (((l.length : Nat) : Int))) rfl rfl rfl (fun za zC zh zk => len_25 rfl (zh.ev rfl) zk) ?_
   refine WL.mv rfl rfl rfl rfl rfl (WL.nil (WE.next (WC.block ?_)))
   have hs14 : Chg ((fun b => b = gn)) w w8 := (Chg.trans2 (Chg.trans2 (Chg.refl ((fun b => b = gn)) _) (Chg.ofUpd (S := fun k => k = gn) hu2 rfl) (fun i h1 h2 => by first | exact h2 | exact .inl ⟨h2, h1⟩ | exact .inl h2 | exact .inr h2 | exact .inr (.inl h2) | exact .inr (.inr h2) | ((try dsimp only at *); omega))) (Chg.ofBelow (S := fun k => k < 0) hb9) (fun i h1 h2 => by first | exact h2 | exact .inl ⟨h2, h1⟩ | exact .inl h2 | exact .inr h2 | exact .inr (.inl h2) | exact .inr (.inr h2) | ((try dsimp only at *); omega)))
   refine WC.loop (X := Nat) (fun i => l.length - i) (fun i => [(0, .pointer (some ⟨pb, po, none⟩)), (1, .int .i64 (((d : Nat) : Int))), (2, .pointer (some ⟨gn, 0, none⟩)), (3, .pointer (some ⟨gm, 0, none⟩)), (4, .pointer (some ⟨gf, 0, none⟩)), (40, .bool ((((decide ((300 : Int) < ((((m + 1) : Nat) : Int) : Int))) || (decide ((30 : Int) < (((d : Nat) : Int) : Int)))) || ((decide ((f : Int) < (0 : Int))) && ((decide ((f : Int) < ((-most) : Int))) || (decide ((0 : Int) < (((l.length : Nat) : Int) : Int)))))))), (45, .int .i64 (((l.length : Nat) : Int))), (46, .int .i64 (((i : Nat) : Int)))]) (fun i w15 => i ≤ l.length ∧ m + 1 + T.sizeL (l.take i) ≤ 300 ∧ (∀ k, k < i → smB most (m + 1 + T.sizeL (l.take k)) (d + 1) (tget l k) = true) ∧ Chg (fun b => b = gn) w w15 ∧ Below w0.heap.size w0 w15 ∧ Blk w15 gm 3 #[.int .i64 most] ∧ Blk w15 gf 107 #[.func (.func 65) #[] #[.pointer (some ⟨gn, 0, none⟩), .pointer (some ⟨gm, 0, none⟩), .pointer (some ⟨gf, 0, none⟩)]] ∧ Blk w15 gn 3 #[.int .i64 ((((m + 1 + T.sizeL (l.take i)) : Nat) : Int))]) 0 ⟨rfl, rfl, rfl, rfl, rfl, rfl, rfl, rfl, trivial⟩ ?_ ?_
   ·have hB16 := hB6.below hb9
    have hB17 := hB7.below hb9
    have hB18 := hB3.below hb9
    exact ⟨Nat.zero_le _, by simp [T.sizeL]; omega, fun k h => absurd h (Nat.not_lt_zero k), hs14, hb13, hB16, hB17, (by simpa [T.sizeL] using hB18)⟩
   ·rintro i w15 ⟨hi, hs, hall, hcg, hb19, hB20, hB21, hB22⟩
    refine WC.seq (WC.region ?_)
    refine WL.val (.bool ((decide ((((i : Nat) : Int) : Int) < (((l.length : Nat) : Int) : Int))))) rfl rfl rfl (fun za zC zh zk => lss_3 rfl (zh.ev rfl) (zh.ev rfl) zk) ?_
    refine WL.nil (WE.next (WC.seq ?_))
    refine WC.cond rfl (fun h23 => ?_) (fun h23 => ?_)
    ·have h23 : (((i : Nat) : Int) : Int) < (((l.length : Nat) : Int) : Int) := by simpa using h23
     refine WC.skip (WE.next (WC.seq (WC.block (WC.seq (WC.region (WL.mv rfl rfl rfl rfl rfl (WL.asg rfl rfl rfl rfl rfl (WL.nil (WE.next (WC.seq ?_))))))))))
     obtain ⟨b24, o25, A26, C27, ha28, hc29⟩ := IsTs.open hl0
     refine WC.seqV (S := ((fun b => b = gn))) [(true, .val (.func (.func 65) #[] #[.pointer (some ⟨gn, 0, none⟩), .pointer (some ⟨gm, 0, none⟩), .pointer (some ⟨gf, 0, none⟩)])), (true, .val (.pointer (some ⟨pb, po, none⟩))), (true, .val (.pointer (some ⟨pb, po, none⟩))), (true, .val (.pointer (some ⟨pb, po + 1, none⟩))), (true, .val (.slice a l.length c)), (true, .val (.int .i64 (((i : Nat) : Int)))), (true, .val (.pointer (some ⟨b24, o25 + i * 2, none⟩))), (true, .val (.int .i64 (((d : Nat) : Int)))), (true, .val (.int .i64 ((((d + 1) : Nat) : Int)))), (true, .val undef), (true, .val (.bool ((!(smB most (m + 1 + T.sizeL (l.take i)) (d + 1) (tget l i))))))] [(0, .pointer (some ⟨pb, po, none⟩)), (1, .int .i64 (((d : Nat) : Int))), (2, .pointer (some ⟨gn, 0, none⟩)), (3, .pointer (some ⟨gm, 0, none⟩)), (4, .pointer (some ⟨gf, 0, none⟩)), (8, .int .i64 (((i : Nat) : Int))), (40, .bool ((((decide ((300 : Int) < ((((m + 1) : Nat) : Int) : Int))) || (decide ((30 : Int) < (((d : Nat) : Int) : Int)))) || ((decide ((f : Int) < (0 : Int))) && ((decide ((f : Int) < ((-most) : Int))) || (decide ((0 : Int) < (((l.length : Nat) : Int) : Int)))))))), (45, .int .i64 (((l.length : Nat) : Int))), (46, .int .i64 (((i : Nat) : Int))), (47, .bool ((decide ((((i : Nat) : Int) : Int) < (((l.length : Nat) : Int) : Int)))))] [9] [some (true, .bool ((smB most (m + 1 + T.sizeL (l.take i)) (d + 1) (tget l i))))] (fun vs wz => match vs with | [] => Blk wz gn 3 #[.int .i64 ((((m + 1 + T.sizeL (l.take i)) : Nat) : Int))] | _ => ∃ m2 : Nat, Blk wz gn 3 #[.int .i64 (m2 : Int)] ∧ ((smB most (m + 1 + T.sizeL (l.take i)) (d + 1) (tget l i)) = true → m2 = m + 1 + T.sizeL (l.take i) + (tget l i).size)) ((fun vs w w' hb h => by
      match vs, h with
      | [], h => exact Blk.below h hb
      | _ :: _, ⟨m2, h1, h2⟩ => exact ⟨m2, h1.below hb, h2⟩)) (by decide) ⟨rfl, rfl, rfl, rfl, rfl, rfl, rfl, rfl, rfl, rfl, trivial⟩ (by kernel_rfl) (by kernel_rfl) (by kernel_rfl) (by kernel_rfl) hB22 ?_ ?_
     ·refine ⟨.inl ⟨rfl, true, .none rfl, (fun gg b h => by cases h), fun h w => optUndef h, fun zβ za zw zc => ?_⟩, ?_⟩
      ·exact ld_107 rfl (zc.kn.ev rfl) (chg_cell zc.chg (by (try dsimp only at *); omega) ((hB21.cell 0).trans rfl)) ⟨_, rfl, Below.refl _ _, optDef zβ rfl⟩
      refine ⟨.inl ⟨rfl, true, .none rfl, (fun gg b h => by cases h), fun h w => optUndef h, fun zβ za zw zc => ?_⟩, ?_⟩
      ·exact wp_move rfl (zc.kn.ev rfl) ⟨_, rfl, Below.refl _ _, optDef zβ rfl⟩
      refine ⟨.inl ⟨rfl, true, .none rfl, (fun gg b h => by cases h), fun h w => optUndef h, fun zβ za zw zc => ?_⟩, ?_⟩
      ·exact nilCheck_ rfl ((evt za 50).trans (optSVal (zc.dep 1 50 (by kernel_rfl) (by decide)) rfl rfl)) ⟨_, rfl, Below.refl _ _, optDef zβ rfl⟩
      refine ⟨.inl ⟨rfl, true, .none rfl, (fun gg b h => by cases h), fun h w => optUndef h, fun zβ za zw zc => ?_⟩, ?_⟩
      ·exact fld_35_1 rfl ((evt za 51).trans (optSVal (zc.dep 2 51 (by kernel_rfl) (by decide)) rfl rfl)) ⟨_, rfl, Below.refl _ _, optDef zβ rfl⟩
      refine ⟨.inl ⟨rfl, true, .none rfl, (fun gg b h => by cases h), fun h w => optUndef h, fun zβ za zw zc => ?_⟩, ?_⟩
      ·exact ld_25 rfl ((evt za 52).trans (optSVal (zc.dep 3 52 (by kernel_rfl) (by decide)) rfl rfl)) (chg_old hb19 zc.chg (fun b hb => by (try dsimp only at *); omega) hc1') ⟨_, rfl, Below.refl _ _, optDef zβ rfl⟩
      refine ⟨.inl ⟨rfl, true, .none rfl, (fun gg b h => by cases h), fun h w => optUndef h, fun zβ za zw zc => ?_⟩, ?_⟩
      ·exact wp_move rfl (zc.kn.ev rfl) ⟨_, rfl, Below.refl _ _, optDef zβ rfl⟩
      refine ⟨.inl ⟨rfl, true, .none rfl, (fun gg b h => by cases h), fun h w => optUndef h, fun zβ za zw zc => ?_⟩, ?_⟩
      ·exact ix_25 (k := i) rfl ((evt za 53).trans (optSVal (zc.dep 4 53 (by kernel_rfl) (by decide)) rfl rfl)) (ha28 i (by first | omega | (simp; omega))) ((evt za 54).trans (optSVal (zc.dep 5 54 (by kernel_rfl) (by decide)) rfl rfl)) (by first | omega | (simp; omega)) ⟨_, rfl, Below.refl _ _, optDef zβ rfl⟩
      refine ⟨.inl ⟨rfl, true, .none rfl, (fun gg b h => by cases h), fun h w => optUndef h, fun zβ za zw zc => ?_⟩, ?_⟩
      ·exact wp_move rfl (zc.kn.ev rfl) ⟨_, rfl, Below.refl _ _, optDef zβ rfl⟩
      refine ⟨.inl ⟨rfl, true, .none rfl, (fun gg b h => by cases h), fun h w => optUndef h, fun zβ za zw zc => ?_⟩, ?_⟩
      ·exact addb_3 rfl ((evt za 56).trans (optSVal (zc.dep 7 56 (by kernel_rfl) (by decide)) rfl rfl)) (zc.kn.ev rfl) (wrap_eq (by omega) (by omega) (by omega)) ⟨_, rfl, Below.refl _ _, optDef zβ rfl⟩
      refine ⟨.inr ⟨0, rfl, by kernel_rfl, true, .none rfl, (fun gg b h => by cases h), (fun h => (nomatch h)), fun zβ za zw zvals zc => ?_⟩, ?_⟩
      ·obtain rfl := vlen0 zc.len
       have zn := zc.now
       have hw9 := chg_below hb19 zc.chg (fun b hb e => by (try dsimp only at *); omega)
       exact wp_callv (by kernel_rfl) rfl ((evt za 49).trans (optSVal (zc.dep 0 49 (by kernel_rfl) (by decide)) rfl rfl)) (hv2 ((evt za 55).trans (optSVal (zc.dep 6 55 (by kernel_rfl) (by decide)) rfl rfl)) ((evt za 57).trans (optSVal (zc.dep 8 57 (by kernel_rfl) (by decide)) rfl rfl))) (ih (tget l i) (tget_mem (by omega)) (m + 1 + T.sizeL (l.take i)) (d + 1) _ _ _ _ _ (by omega) (by omega) hw9 (hc29 i (by omega)).1 (hc29 i (by omega)).2.1 (hc29 i (by omega)).2.2 zn (chg_blk hB20 zc.chg hmn) (chg_blk hB21 zc.chg hfn)) (fun v w' h => ⟨v, rfl, h.2, h.1.2, cvIs h.1.1⟩)
      refine ⟨.inl ⟨rfl, true, .none rfl, (fun gg b h => by cases h), fun h w => optUndef h, fun zβ za zw zc => ?_⟩, ?_⟩
      ·exact wp_not rfl ((evt za 58).trans (zc.link 0 9 58 _ _ rfl (by kernel_rfl) rfl rfl)) ⟨_, rfl, Below.refl _ _, optDef zβ rfl⟩
      exact trivial
     ·intro za w30 zvals zh zl hG31 hc32 zu zw zk
      obtain ⟨z0, rfl⟩ := vlen1 zl
      have zh := zh.cons (d := 59) (v := .bool ((!(smB most (m + 1 + T.sizeL (l.take i)) (d + 1) (tget l i))))) (optSVal (zu 10 59 (by kernel_rfl) (by decide)) rfl rfl)
      obtain ⟨m2, hN2, hmm⟩ := hG31
      have hw33 := chg_below hb19 hc32 (fun b hb e => by (try dsimp only at *); omega)
      have hM2 := chg_blk hB20 hc32 hmn
      have hF2 := chg_blk hB21 hc32 hfn
      clear zu zw zk
      refine WE.go zh ?_
      refine WE.next ?_
      refine WC.cond rfl (fun h34 => ?_) (fun h34 => ?_)
      ·have h34 : ¬ ((smB most (m + 1 + T.sizeL (l.take i)) (d + 1) (tget l i)) = true) := by simpa using h34
       refine WC.seq (WC.region (WL.asg rfl rfl rfl rfl rfl (WL.nil (WE.next (WC.ret (WE.blockRet (WE.thenRet (WE.thenRet (WE.blockRet (WE.thenRet (WE.ret1 rfl rfl ?_)))))))))))
       have hno : smB most m d (.mk f l) = false := smB_kid (k := i) (by omega) (by simpa using h34)
       exact ⟨_, rfl, ⟨by rw [hno], _, hN2, fun h => by rw [hno] at h; cases h⟩, hcg.trans hc32⟩
      ·have h34 : ¬ (¬ ((smB most (m + 1 + T.sizeL (l.take i)) (d + 1) (tget l i)) = true)) := by simpa using h34
       refine WC.skip (WE.blockNormal (WE.next (WC.region ?_)))
       refine WL.val (.int .i64 ((((i + 1) : Nat) : Int))) rfl rfl rfl (fun za zC zh zk => addb_3 rfl (zh.ev rfl) (zh.ev rfl) (wrap_eq (by omega) (by omega) (by omega)) zk) ?_
       refine WL.mv rfl rfl rfl rfl rfl (WL.nil ?_)
       have hsm : smB most (m + 1 + T.sizeL (l.take i)) (d + 1) (tget l i) = true := by simpa using h34
       have hm4 := hmm hsm
       have hst := sizeL_take (show i < l.length by omega)
       have hsz3 : m + 1 + T.sizeL (l.take (i + 1)) ≤ 300 := by have z := (smB_iff.1 hsm).1; omega
       refine WE.round (i + 1) ⟨rfl, rfl, rfl, rfl, rfl, rfl, rfl, rfl, trivial⟩ ?_ ?_
       ·exact ⟨by omega, hsz3, fun k hk => by
          by_cases e : k = i
          ·rw [e]; exact hsm
          ·exact hall k (by omega), hcg.trans hc32, hw33, hM2, hF2, (by rw [show m + 1 + T.sizeL (l.take (i + 1)) = m2 by omega]; exact hN2)⟩
       ·omega
    ·have h23 : ¬ ((((i : Nat) : Int) : Int) < (((l.length : Nat) : Int) : Int)) := by simpa using h23
     refine WC.exit (WE.thenExit (WE.thenExit (WE.blockIs rfl (WE.next (WC.seq (WC.region (WL.asg rfl rfl rfl rfl rfl (WL.nil (WE.next (WC.ret (WE.ret1 rfl rfl ?_)))))))))))
     have hil : i = l.length := by omega
     rw [hil, List.take_length] at hs
     have hyes : smB most m d (.mk f l) = true := smB_yes (by omega) hs (fun k hk => hall k (by omega))
     exact ⟨_, rfl, ⟨by rw [hyes], _, hB22, fun _ => by rw [hil, List.take_length, T.size]; omega⟩, hcg.trans (Chg.refl _ _)⟩
end Go.Proofs.Ytbohlpfndiiimaa

/- Terms whose variables have no arguments. -/
namespace Go.Proofs.Ytbohlpfndiiimaa
open Go.RowKit Go
set_option linter.unusedVariables false
set_option linter.unusedSimpArgs false
mutual
def T.plain : T → Bool
  | .mk f l => T.plainL l && (decide (0 ≤ f) || l.isEmpty)
def T.plainL : List T → Bool
  | [] => true
  | t :: r => t.plain && T.plainL r
end
end Go.Proofs.Ytbohlpfndiiimaa

/- Small terms: plain. -/
namespace Go.Proofs.Ytbohlpfndiiimaa
open Go.RowKit Go
set_option linter.unusedVariables false
set_option linter.unusedSimpArgs false
mutual
def T.dep : T → Nat
  | .mk _ l => T.depL l + 1
def T.depL : List T → Nat
  | [] => 0
  | t :: r => max t.dep (T.depL r)
end
mutual
def T.low (m : Int) : T → Bool
  | .mk f l => if f < 0 then decide (-m ≤ f) && decide (l.length = 0) else T.lowL m l
def T.lowL (m : Int) : List T → Bool
  | [] => true
  | t :: r => t.low m && T.lowL m r
end
def T.small (m : Int) (t : T) : Bool := decide (t.size ≤ 300) && decide (t.dep ≤ 30) && t.low m
end Go.Proofs.Ytbohlpfndiiimaa

/- Is a term small? The program. -/
namespace Go.Proofs.Ytbohlpfndiiimaa
open Go.RowKit Go
set_option linter.unusedVariables false
set_option linter.unusedSimpArgs false
set_option maxRecDepth 100000 in
theorem tsmall_any (t : T) (most : Int) (hmost : 0 ≤ most ∧ most ≤ 1099511627776) (w : World) (v : Value) (hv : IsT w t v) : Calls Try.prog 52 #[v, .int .i64 most] w (Ret fun v' w' => v' = .bool (smallB most t) ∧ Below w.heap.size w w') := by
 have hvt := hv
 obtain ⟨_, a, c, rfl, _, _, _⟩ := hv.form
 refine Calls.walk (l := [.agg #[.int .i64 t.f, .slice a t.args.length c], .int .i64 most]) Try.func52 rfl (by kernel_rfl) ?_
 refine WC.sub (K' := [(0, .agg #[.int .i64 t.f, .slice a t.args.length c]), (1, .int .i64 most)]) ⟨rfl, rfl, trivial⟩ ?_
 refine WC.seq (WC.region ?_)
 refine WL.step (post := NewBlk w 35 #[.int .i64 t.f, .slice a t.args.length c]) rfl rfl rfl (fun za zC zh zk => box_35 rfl (zh.ev rfl) (zk _ _ (newBlk _ _ _))) ?_
 rintro _ w1 ⟨g2, rfl, hg3, hB4, hb5, hz6⟩
 have hl7 : w.heap.size ≤ g2 := by omega
 refine WL.step (post := NewBlk w1 3 #[.int .i64 most]) rfl rfl rfl (fun za zC zh zk => box_3 rfl (zh.ev rfl) (zk _ _ (newBlk _ _ _))) ?_
 rintro _ w8 ⟨g9, rfl, hg10, hB11, hb12, hz13⟩
 have hl14 : g2 < g9 := by have z1 := hB4.lt; omega
 have hl15 : w.heap.size ≤ g9 := by have z2 := (hb5).size; omega
 refine WL.asg rfl rfl rfl rfl rfl (WL.nil (WE.next (WC.seq ?_)))
 have hB16 := hB4.below hb12
 refine WC.region ?_
 refine WL.step (post := NewBlk w8 3 #[.int .i64 0]) rfl rfl rfl (fun za zC zh zk => alloc_3 rfl (zk _ _ (newBlk _ _ _))) ?_
 rintro _ w17 ⟨g18, rfl, hg19, hB20, hb21, hz22⟩
 have hl23 : g2 < g18 := by have z1 := hB16.lt; omega
 have hl24 : g9 < g18 := by have z1 := hB11.lt; omega
 have hb25 : Below w.heap.size w w8 := (bstep hb5 hb12)
 have hl26 : w.heap.size ≤ g18 := by have z2 := (hb25).size; omega
 have hl27 : w8.heap.size ≤ g18 := by omega
 refine WL.step (post := fun _ w' => Upd g18 w17 w' ∧ Blk w' g18 3 #[.int .i64 0]) rfl rfl rfl (fun za zC zh zk => st_3 rfl (zh.ev rfl) (zh.ev rfl) hB20 (by first | decide | simp) (fun v => zk v _ ⟨Upd.at_ _ _ _ _, hB20.set_ 0 _⟩)) ?_
 rintro v31 w28 ⟨hu29, hB30⟩
 have hb32 : Below w.heap.size w w17 := (bstep hb25 hb21)
 have hb33 := upd_below hb32 hu29 (by omega)
 have hb34 := upd_below hb21 hu29 (by omega)
 have hB35 := hB16.below hb21
 have hB36 := upd_blk hB35 hu29 (by omega)
 have hB37 := hB11.below hb21
 have hB38 := upd_blk hB37 hu29 (by omega)
 refine WL.nil (WE.next (WC.seq (WC.region ?_)))
 refine WL.step (post := NewBlk w28 107 #[.nilFunc]) rfl rfl rfl (fun za zC zh zk => alloc_107 rfl (zk _ _ (newBlk _ _ _))) ?_
 rintro _ w39 ⟨g40, rfl, hg41, hB42, hb43, hz44⟩
 have hl45 : g2 < g40 := by have z1 := hB36.lt; omega
 have hl46 : g9 < g40 := by have z1 := hB38.lt; omega
 have hl47 : g18 < g40 := by have z1 := hB30.lt; omega
 have hl48 : w.heap.size ≤ g40 := by have z2 := (hb33).size; omega
 have hl49 : w8.heap.size ≤ g40 := by have z2 := (hb34).size; omega
 refine WL.nil (WE.next (WC.seq (WC.region ?_)))
 refine WL.val (.func (Fn.func 65) #[] #[.pointer (some ⟨g18, 0, none⟩), .pointer (some ⟨g9, 0, none⟩), .pointer (some ⟨g40, 0, none⟩)]) rfl rfl rfl (fun za zC zh zk => mkfn rfl (hv0) (hv3 (zh.ev rfl) (zh.ev rfl) (zh.ev rfl)) zk) ?_
 refine WL.step (post := fun _ w' => Upd g40 w39 w' ∧ Blk w' g40 107 #[.func (Fn.func 65) #[] #[.pointer (some ⟨g18, 0, none⟩), .pointer (some ⟨g9, 0, none⟩), .pointer (some ⟨g40, 0, none⟩)]]) rfl rfl rfl (fun za zC zh zk => st_107 rfl (zh.ev rfl) (zh.ev rfl) hB42 (by first | decide | simp) (fun v => zk v _ ⟨Upd.at_ _ _ _ _, hB42.set_ 0 _⟩)) ?_
 rintro v53 w50 ⟨hu51, hB52⟩
 have hb54 : Below w.heap.size w w39 := (bstep hb33 hb43)
 have hb55 : Below w8.heap.size w8 w39 := (bstep hb34 hb43)
 have hb56 := upd_below hb54 hu51 (by omega)
 have hb57 := upd_below hb55 hu51 (by omega)
 have hB58 := hB36.below hb43
 have hB59 := upd_blk hB58 hu51 (by omega)
 have hB60 := hB38.below hb43
 have hB61 := upd_blk hB60 hu51 (by omega)
 have hB62 := hB30.below hb43
 have hB63 := upd_blk hB62 hu51 (by omega)
 refine WL.nil (WE.next (WC.seq (WC.region ?_)))
 refine WL.val _ rfl rfl rfl (fun za zC zh zk => ld_107 rfl (zh.ev rfl) ((hB52.cell 0).trans rfl) zk) ?_
 refine WL.call rfl rfl rfl (fun za zh zC => wp_callv (by kernel_rfl) rfl (zh.ev rfl) (hv2 (zh.ev rfl) (zh.ev rfl))) (small1_any most hmost w8 g18 g9 g40 (by omega) (by omega) (by omega) t 0 1 _ g2 0 _ _ (by omega) (by omega) hb57 ((hB16.cell 0).trans rfl) ((hB16.cell 1).trans rfl) (hvt.below hb25) hB63 hB61 hB52) ?_
 rintro _ w65 ⟨⟨rfl, m2, hN2, hm2⟩, hcs⟩
 have hb66 := chg_below hb56 hcs (fun b hb => (by (try dsimp only at *); omega))
 refine WL.asg rfl rfl rfl rfl rfl (WL.nil (WE.next (WC.ret (WE.ret1 rfl rfl ?_))))
 exact ⟨_, rfl, rfl, hb66⟩
mutual
theorem dn_low (m : Int) : ∀ (t : T) (d : Nat), t.dn m d = true ↔ d + t.dep ≤ 31 ∧ t.low m = true
 | .mk f l, d => by
  rw [dn_iff, T.dep, T.low, dnL_low m l (d + 1)]
  by_cases hf : f < 0
  ·rw [if_pos hf, Bool.and_eq_true, decide_eq_true_eq, decide_eq_true_eq]
   constructor
   ·rintro ⟨h1, h2, _⟩
    obtain ⟨h3, rfl⟩ := h2 hf
    exact ⟨by rw [T.depL]; omega, h3, rfl⟩
   ·rintro ⟨h1, h2, h3⟩
    obtain rfl := List.eq_nil_of_length_eq_zero h3
    exact ⟨by omega, fun _ => ⟨h2, rfl⟩, .inl rfl, rfl⟩
  ·rw [if_neg hf]
   constructor
   ·rintro ⟨h1, _, h3, h4⟩
    refine ⟨?_, h4⟩
    rcases h3 with rfl | h3
    ·rw [T.depL]; omega
    ·omega
   ·rintro ⟨h1, h2⟩
    exact ⟨by omega, fun q => absurd q hf, .inr (by omega), h2⟩
theorem dnL_low (m : Int) : ∀ (l : List T) (d : Nat), T.dnL m l d = true ↔ (l = [] ∨ d + T.depL l ≤ 31) ∧ T.lowL m l = true
 | [], d => by rw [T.dnL, T.lowL]; simp
 | t :: r, d => by
  rw [T.dnL, Bool.and_eq_true, dn_low m t d, dnL_low m r d, T.depL, T.lowL, Bool.and_eq_true]
  constructor
  ·rintro ⟨⟨h1, h2⟩, h3, h4⟩
   refine ⟨.inr ?_, h2, h4⟩
   rcases h3 with rfl | h3
   ·rw [T.depL]; omega
   ·omega
  ·rintro ⟨h1, h2, h3⟩
   rcases h1 with h1 | h1
   ·cases h1
   ·exact ⟨⟨by omega, h2⟩, .inr (by omega), h3⟩
end
/-- Both say the same of small terms. -/
theorem smallB_small (m : Int) (t : T) : smallB m t = t.small m := by
 rw [Bool.eq_iff_iff]
 unfold smallB T.small
 rw [smB_iff, dn_low, Bool.and_eq_true, Bool.and_eq_true, decide_eq_true_eq, decide_eq_true_eq]
 constructor
 ·rintro ⟨h1, h2, h3⟩; exact ⟨⟨by omega, by omega⟩, h3⟩
 ·rintro ⟨⟨h1, h2⟩, h3⟩; exact ⟨by omega, by omega, h3⟩
end Go.Proofs.Ytbohlpfndiiimaa

/- May a term be? The program. -/
namespace Go.Proofs.Ytbohlpfndiiimaa
open Go.RowKit Go
set_option linter.unusedVariables false
set_option linter.unusedSimpArgs false
/-- May a symbol stand at a place, with so many arguments? -/
def nodeB (sg : List Sy) (top : Bool) (f : Int) (n : Nat) : Bool := if f < 0 then true else (decide (((f.toNat : Nat) : Int) < ((sg.length : Nat) : Int)) && ((sget sg f.toNat).ar == (n : Int))) && (top || !(sget sg f.toNat).pred)
mutual
def T.ovr (sg : List Sy) (top : Bool) : T → Bool
 | .mk f l => nodeB sg top f l.length && T.ovrL sg l
def T.ovrL (sg : List Sy) : List T → Bool
 | [] => true
 | t :: r => t.ovr sg false && T.ovrL sg r
end
theorem ovrL_all (sg : List Sy) : ∀ l : List T, T.ovrL sg l = l.all (T.ovr sg false)
 | [] => rfl
 | t :: r => by rw [T.ovrL, ovrL_all sg r]; rfl
theorem ovr_no1 {sg : List Sy} {top : Bool} {f : Int} {l : List T} (h : nodeB sg top f l.length = false) : (T.mk f l).ovr sg top = false := by rw [T.ovr, h]; rfl
theorem ovr_no2 {sg : List Sy} {top : Bool} {f : Int} {l : List T} {k : Nat} (hk : k < l.length) (h : (tget l k).ovr sg false = false) : (T.mk f l).ovr sg top = false := by
 rw [T.ovr, ovrL_all, List.all_eq_false.2 ⟨_, tget_mem hk, by rw [h]; decide⟩, Bool.and_false]
theorem ovr_yes {sg : List Sy} {top : Bool} {f : Int} {l : List T} (h : nodeB sg top f l.length = true) (h2 : ∀ k, k < l.length → (tget l k).ovr sg false = true) : (T.mk f l).ovr sg top = true := by
 rw [T.ovr, h, ovrL_all, Bool.true_and, List.all_eq_true]
 intro t ht
 obtain ⟨k, hk, rfl⟩ := List.getElem_of_mem ht
 rw [← tget_lt hk]; exact h2 k hk
section
variable (sg : List Sy) (w0 : World) (gt gs : Nat) (sa : Option Addr) (sc : Nat) (hsys : IsSys w0 sg sa) (hgt : w0.heap.size ≤ gt) (hne : gt ≠ gs)
include hsys hgt hne in
set_option maxRecDepth 100000 in
theorem tchk1_any (f : Int) (n : Nat) (top : Bool) (b o : Nat) (a : Option Addr) (c : Nat) (hcf : w0.cell? ⟨b, o, none⟩ = some (.int .i64 f)) (hca : w0.cell? ⟨b, o + 1, none⟩ = some (.slice a n c)) (w : World) (hb0 : Below w0.heap.size w0 w) (hBt : Blk w gt 4 #[.bool top]) (hBs : Blk w gs 24 #[.slice sa sg.length sc]) :
  Calls Try.prog 54 #[.pointer (some ⟨b, o, none⟩), .pointer (some ⟨gt, 0, none⟩), .pointer (some ⟨gs, 0, none⟩)] w (Ret fun v' w' => v' = .bool (nodeB sg top f n) ∧ Blk w' gt 4 #[.bool false] ∧ Chg (fun q => q = gt) w w') := by
 have hgtl := hBt.lt
 refine Calls.walk (l := [.pointer (some ⟨b, o, none⟩), .pointer (some ⟨gt, 0, none⟩), .pointer (some ⟨gs, 0, none⟩)]) Try.func54 rfl (by kernel_rfl) ?_
 refine WC.sub (K' := [(0, .pointer (some ⟨b, o, none⟩)), (1, .pointer (some ⟨gt, 0, none⟩)), (2, .pointer (some ⟨gs, 0, none⟩))]) ⟨rfl, rfl, rfl, trivial⟩ ?_
 refine WC.seq (WC.region (WL.asg rfl rfl rfl rfl rfl (WL.nil (WE.next (WC.seq (WC.region ?_))))))
 refine WL.val _ rfl rfl rfl (fun za zC zh zk => ld_4 rfl (zh.ev rfl) ((hBt.cell 0).trans rfl) zk) ?_
 refine WL.asg rfl rfl rfl rfl rfl (WL.nil (WE.next (WC.seq (WC.region ?_))))
 refine WL.step (post := fun _ w' => Upd gt w w' ∧ Blk w' gt 4 #[.bool false]) rfl rfl rfl (fun za zC zh zk => st_4 rfl (zh.ev rfl) (zh.ev rfl) hBt (by first | decide | simp) (fun v => zk v _ ⟨Upd.at_ _ _ _ _, hBt.set_ 0 _⟩)) ?_
 rintro v4 w1 ⟨hu2, hB3⟩
 have hb5 := upd_below hb0 hu2 (by omega)
 have hB6 := upd_blk hBs hu2 (by omega)
 refine WL.nil (WE.next (WC.seq (WC.seq ?_)))
 have hC3 : Chg (fun q => q = gt) w w1 := .ofUpd hu2 rfl
 refine WC.region (WL.mv rfl rfl rfl rfl rfl ?_)
 refine WL.val _ rfl rfl rfl (fun za zC zh zk => nilCheck_ rfl (zh.ev rfl) zk) ?_
 refine WL.val _ rfl rfl rfl (fun za zC zh zk => fld_35_0 rfl (zh.ev rfl) zk) ?_
 have hc7 := bkeeps hb5 _ _ hcf
 refine WL.val _ rfl rfl rfl (fun za zC zh zk => ld_3 rfl (zh.ev rfl) hc7 zk) ?_
 refine WL.val (.bool ((decide ((f : Int) < (0 : Int))))) rfl rfl rfl (fun za zC zh zk => lss_3 rfl (zh.ev rfl) (zh.ev rfl) zk) ?_
 refine WL.nil (WE.next ?_)
 refine WC.cond rfl (fun h8 => ?_) (fun h8 => ?_)
 ·have h8 : (f : Int) < (0 : Int) := by simpa using h8
  refine WC.seq (WC.region (WL.asg rfl rfl rfl rfl rfl (WL.nil (WE.next (WC.ret (WE.thenRet (WE.ret1 rfl rfl ?_)))))))
  exact ⟨_, rfl, congrArg Value.bool (Eq.symm (by unfold nodeB; rw [if_pos (by omega)])), hB3, hC3⟩
 ·have h8 : ¬ ((f : Int) < (0 : Int)) := by simpa using h8
  refine WC.skip (WE.next (WC.seq ?_))
  have hf0 : ¬ f < 0 := by omega
  have hcf9 : w0.cell? ⟨b, o, none⟩ = some (.int .i64 ((f.toNat : Nat) : Int)) := by rw [show ((f.toNat : Nat) : Int) = f by omega]; exact hcf
  have hc9 := bkeeps hb5 _ _ hcf9
  obtain ⟨b10, o11, ha12, hc13⟩ := IsSys.open hsys
  have hc14 := bkeeps hb5 _ _ hca
  refine WC.opt [(true, .val (.pointer (some ⟨b, o, none⟩))), (true, .val (.pointer (some ⟨b, o, none⟩))), (true, .val (.pointer (some ⟨b, o, none⟩))), (true, .val (.int .i64 (((f.toNat : Nat) : Int)))), (true, .val (.pointer (some ⟨gs, 0, none⟩))), (true, .val (.slice sa sg.length sc)), (true, .val (.int .i64 (((sg.length : Nat) : Int)))), (true, .val (.bool ((decide ((((f.toNat : Nat) : Int) : Int) < (((sg.length : Nat) : Int) : Int)))))), (true, .val (.bool ((decide ((((f.toNat : Nat) : Int) : Int) < (((sg.length : Nat) : Int) : Int)))))), ((true && (decide ((((f.toNat : Nat) : Int) : Int) < (((sg.length : Nat) : Int) : Int)))), .val (.pointer (some ⟨gs, 0, none⟩))), ((true && (decide ((((f.toNat : Nat) : Int) : Int) < (((sg.length : Nat) : Int) : Int)))), .val (.slice sa sg.length sc)), ((true && (decide ((((f.toNat : Nat) : Int) : Int) < (((sg.length : Nat) : Int) : Int)))), .val (.pointer (some ⟨b, o, none⟩))), ((true && (decide ((((f.toNat : Nat) : Int) : Int) < (((sg.length : Nat) : Int) : Int)))), .val (.pointer (some ⟨b, o, none⟩))), ((true && (decide ((((f.toNat : Nat) : Int) : Int) < (((sg.length : Nat) : Int) : Int)))), .val (.pointer (some ⟨b, o, none⟩))), ((true && (decide ((((f.toNat : Nat) : Int) : Int) < (((sg.length : Nat) : Int) : Int)))), .val (.int .i64 (((f.toNat : Nat) : Int)))), ((true && (decide ((((f.toNat : Nat) : Int) : Int) < (((sg.length : Nat) : Int) : Int)))), .val (.pointer (some ⟨b10, o11 + f.toNat * 3, none⟩))), ((true && (decide ((((f.toNat : Nat) : Int) : Int) < (((sg.length : Nat) : Int) : Int)))), .val (.pointer (some ⟨b10, o11 + f.toNat * 3 + 1, none⟩))), ((true && (decide ((((f.toNat : Nat) : Int) : Int) < (((sg.length : Nat) : Int) : Int)))), .val (.int .i64 ((sget sg f.toNat).ar))), ((true && (decide ((((f.toNat : Nat) : Int) : Int) < (((sg.length : Nat) : Int) : Int)))), .val (.pointer (some ⟨b, o, none⟩))), ((true && (decide ((((f.toNat : Nat) : Int) : Int) < (((sg.length : Nat) : Int) : Int)))), .val (.pointer (some ⟨b, o, none⟩))), ((true && (decide ((((f.toNat : Nat) : Int) : Int) < (((sg.length : Nat) : Int) : Int)))), .val (.pointer (some ⟨b, o + 1, none⟩))), ((true && (decide ((((f.toNat : Nat) : Int) : Int) < (((sg.length : Nat) : Int) : Int)))), .val (.slice a n c)), ((true && (decide ((((f.toNat : Nat) : Int) : Int) < (((sg.length : Nat) : Int) : Int)))), .val (.int .i64 (((n : Nat) : Int)))), ((true && (decide ((((f.toNat : Nat) : Int) : Int) < (((sg.length : Nat) : Int) : Int)))), .val (.bool ((((sget sg f.toNat).ar : Int) == (((n : Nat) : Int) : Int))))), (true, .val (.bool (((decide ((((f.toNat : Nat) : Int) : Int) < (((sg.length : Nat) : Int) : Int))) && (((sget sg f.toNat).ar : Int) == (((n : Nat) : Int) : Int)))))), (true, .val (.bool (((decide ((((f.toNat : Nat) : Int) : Int) < (((sg.length : Nat) : Int) : Int))) && (((sget sg f.toNat).ar : Int) == (((n : Nat) : Int) : Int)))))), ((true && ((decide ((((f.toNat : Nat) : Int) : Int) < (((sg.length : Nat) : Int) : Int))) && (((sget sg f.toNat).ar : Int) == (((n : Nat) : Int) : Int)))), .val (.bool top)), ((true && ((decide ((((f.toNat : Nat) : Int) : Int) < (((sg.length : Nat) : Int) : Int))) && (((sget sg f.toNat).ar : Int) == (((n : Nat) : Int) : Int)))), .val (.bool top)), (((true && ((decide ((((f.toNat : Nat) : Int) : Int) < (((sg.length : Nat) : Int) : Int))) && (((sget sg f.toNat).ar : Int) == (((n : Nat) : Int) : Int)))) && !top), .val (.pointer (some ⟨gs, 0, none⟩))), (((true && ((decide ((((f.toNat : Nat) : Int) : Int) < (((sg.length : Nat) : Int) : Int))) && (((sget sg f.toNat).ar : Int) == (((n : Nat) : Int) : Int)))) && !top), .val (.slice sa sg.length sc)), (((true && ((decide ((((f.toNat : Nat) : Int) : Int) < (((sg.length : Nat) : Int) : Int))) && (((sget sg f.toNat).ar : Int) == (((n : Nat) : Int) : Int)))) && !top), .val (.pointer (some ⟨b, o, none⟩))), (((true && ((decide ((((f.toNat : Nat) : Int) : Int) < (((sg.length : Nat) : Int) : Int))) && (((sget sg f.toNat).ar : Int) == (((n : Nat) : Int) : Int)))) && !top), .val (.pointer (some ⟨b, o, none⟩))), (((true && ((decide ((((f.toNat : Nat) : Int) : Int) < (((sg.length : Nat) : Int) : Int))) && (((sget sg f.toNat).ar : Int) == (((n : Nat) : Int) : Int)))) && !top), .val (.pointer (some ⟨b, o, none⟩))), (((true && ((decide ((((f.toNat : Nat) : Int) : Int) < (((sg.length : Nat) : Int) : Int))) && (((sget sg f.toNat).ar : Int) == (((n : Nat) : Int) : Int)))) && !top), .val (.int .i64 (((f.toNat : Nat) : Int)))), (((true && ((decide ((((f.toNat : Nat) : Int) : Int) < (((sg.length : Nat) : Int) : Int))) && (((sget sg f.toNat).ar : Int) == (((n : Nat) : Int) : Int)))) && !top), .val (.pointer (some ⟨b10, o11 + f.toNat * 3, none⟩))), (((true && ((decide ((((f.toNat : Nat) : Int) : Int) < (((sg.length : Nat) : Int) : Int))) && (((sget sg f.toNat).ar : Int) == (((n : Nat) : Int) : Int)))) && !top), .val (.pointer (some ⟨b10, o11 + f.toNat * 3 + 2, none⟩))), (((true && ((decide ((((f.toNat : Nat) : Int) : Int) < (((sg.length : Nat) : Int) : Int))) && (((sget sg f.toNat).ar : Int) == (((n : Nat) : Int) : Int)))) && !top), .val (.bool ((sget sg f.toNat).pred))), (((true && ((decide ((((f.toNat : Nat) : Int) : Int) < (((sg.length : Nat) : Int) : Int))) && (((sget sg f.toNat).ar : Int) == (((n : Nat) : Int) : Int)))) && !top), .val (.bool ((!(sget sg f.toNat).pred)))), ((true && ((decide ((((f.toNat : Nat) : Int) : Int) < (((sg.length : Nat) : Int) : Int))) && (((sget sg f.toNat).ar : Int) == (((n : Nat) : Int) : Int)))), .val (.bool ((top || (!(sget sg f.toNat).pred))))), (true, .val (.bool ((((decide ((((f.toNat : Nat) : Int) : Int) < (((sg.length : Nat) : Int) : Int))) && (((sget sg f.toNat).ar : Int) == (((n : Nat) : Int) : Int))) && (top || (!(sget sg f.toNat).pred)))))), (true, .val (.bool ((((decide ((((f.toNat : Nat) : Int) : Int) < (((sg.length : Nat) : Int) : Int))) && (((sget sg f.toNat).ar : Int) == (((n : Nat) : Int) : Int))) && (top || (!(sget sg f.toNat).pred))))))] [(0, .pointer (some ⟨b, o, none⟩)), (1, .pointer (some ⟨gt, 0, none⟩)), (2, .pointer (some ⟨gs, 0, none⟩)), (5, .bool top), (11, .bool ((decide ((f : Int) < (0 : Int)))))] ⟨rfl, rfl, rfl, rfl, rfl, trivial⟩ (by kernel_rfl) (by kernel_rfl) (by kernel_rfl) ?_ ?_
  ·refine ⟨⟨true, .none rfl, fun h w => optUndef h, fun zβ za zw zc => ?_⟩, ?_⟩
   ·exact wp_move rfl (zc.kn.ev rfl) ⟨_, rfl, Below.refl _ _, optDef zβ rfl⟩
   refine ⟨⟨true, .none rfl, fun h w => optUndef h, fun zβ za zw zc => ?_⟩, ?_⟩
   ·exact nilCheck_ rfl ((evt za 12).trans (optVal (zc.dep 0 12 (by kernel_rfl)) rfl rfl)) ⟨_, rfl, Below.refl _ _, optDef zβ rfl⟩
   refine ⟨⟨true, .none rfl, fun h w => optUndef h, fun zβ za zw zc => ?_⟩, ?_⟩
   ·exact fld_35_0 rfl ((evt za 13).trans (optVal (zc.dep 1 13 (by kernel_rfl)) rfl rfl)) ⟨_, rfl, Below.refl _ _, optDef zβ rfl⟩
   refine ⟨⟨true, .none rfl, fun h w => optUndef h, fun zβ za zw zc => ?_⟩, ?_⟩
   ·exact ld_3 rfl ((evt za 14).trans (optVal (zc.dep 2 14 (by kernel_rfl)) rfl rfl)) (bkeeps zc.below _ _ hc9) ⟨_, rfl, Below.refl _ _, optDef zβ rfl⟩
   refine ⟨⟨true, .none rfl, fun h w => optUndef h, fun zβ za zw zc => ?_⟩, ?_⟩
   ·exact fld_24_0 rfl (zc.kn.ev rfl) ⟨_, rfl, Below.refl _ _, optDef zβ rfl⟩
   refine ⟨⟨true, .none rfl, fun h w => optUndef h, fun zβ za zw zc => ?_⟩, ?_⟩
   ·exact ld_22 rfl ((evt za 16).trans (optVal (zc.dep 4 16 (by kernel_rfl)) rfl rfl)) (bkeeps zc.below _ _ ((hB6.cell 0).trans rfl)) ⟨_, rfl, Below.refl _ _, optDef zβ rfl⟩
   refine ⟨⟨true, .none rfl, fun h w => optUndef h, fun zβ za zw zc => ?_⟩, ?_⟩
   ·exact len_22 rfl ((evt za 17).trans (optVal (zc.dep 5 17 (by kernel_rfl)) rfl rfl)) ⟨_, rfl, Below.refl _ _, optDef zβ rfl⟩
   refine ⟨⟨true, .none rfl, fun h w => optUndef h, fun zβ za zw zc => ?_⟩, ?_⟩
   ·exact lss_3 rfl ((evt za 15).trans (optVal (zc.dep 3 15 (by kernel_rfl)) rfl rfl)) ((evt za 18).trans (optVal (zc.dep 6 18 (by kernel_rfl)) rfl rfl)) ⟨_, rfl, Below.refl _ _, optDef zβ rfl⟩
   refine ⟨⟨true, .none rfl, fun h w => optUndef h, fun zβ za zw zc => ?_⟩, ?_⟩
   ·exact wp_move rfl ((evt za 19).trans (optVal (zc.dep 7 19 (by kernel_rfl)) rfl rfl)) ⟨_, rfl, Below.refl _ _, optDef zβ rfl⟩
   refine ⟨⟨_, .yes (c := (decide ((((f.toNat : Nat) : Int) : Int) < (((sg.length : Nat) : Int) : Int)))) (d := true) rfl (fun v w h => h), fun h w => optUndef h, fun zβ za zw zc => ?_⟩, ?_⟩
   ·exact fld_24_0 rfl (zc.kn.ev rfl) ⟨_, rfl, Below.refl _ _, optDef zβ rfl⟩
   refine ⟨⟨_, .yes (c := (decide ((((f.toNat : Nat) : Int) : Int) < (((sg.length : Nat) : Int) : Int)))) (d := true) rfl (fun v w h => h), fun h w => optUndef h, fun zβ za zw zc => ?_⟩, ?_⟩
   ·exact ld_22 rfl ((evt za 21).trans (optVal (zc.dep 9 21 (by kernel_rfl)) rfl zβ)) (bkeeps zc.below _ _ ((hB6.cell 0).trans rfl)) ⟨_, rfl, Below.refl _ _, optDef zβ rfl⟩
   refine ⟨⟨_, .yes (c := (decide ((((f.toNat : Nat) : Int) : Int) < (((sg.length : Nat) : Int) : Int)))) (d := true) rfl (fun v w h => h), fun h w => optUndef h, fun zβ za zw zc => ?_⟩, ?_⟩
   ·exact wp_move rfl (zc.kn.ev rfl) ⟨_, rfl, Below.refl _ _, optDef zβ rfl⟩
   refine ⟨⟨_, .yes (c := (decide ((((f.toNat : Nat) : Int) : Int) < (((sg.length : Nat) : Int) : Int)))) (d := true) rfl (fun v w h => h), fun h w => optUndef h, fun zβ za zw zc => ?_⟩, ?_⟩
   ·exact nilCheck_ rfl ((evt za 23).trans (optVal (zc.dep 11 23 (by kernel_rfl)) rfl zβ)) ⟨_, rfl, Below.refl _ _, optDef zβ rfl⟩
   refine ⟨⟨_, .yes (c := (decide ((((f.toNat : Nat) : Int) : Int) < (((sg.length : Nat) : Int) : Int)))) (d := true) rfl (fun v w h => h), fun h w => optUndef h, fun zβ za zw zc => ?_⟩, ?_⟩
   ·exact fld_35_0 rfl ((evt za 24).trans (optVal (zc.dep 12 24 (by kernel_rfl)) rfl zβ)) ⟨_, rfl, Below.refl _ _, optDef zβ rfl⟩
   refine ⟨⟨_, .yes (c := (decide ((((f.toNat : Nat) : Int) : Int) < (((sg.length : Nat) : Int) : Int)))) (d := true) rfl (fun v w h => h), fun h w => optUndef h, fun zβ za zw zc => ?_⟩, ?_⟩
   ·exact ld_3 rfl ((evt za 25).trans (optVal (zc.dep 13 25 (by kernel_rfl)) rfl zβ)) (bkeeps zc.below _ _ hc9) ⟨_, rfl, Below.refl _ _, optDef zβ rfl⟩
   refine ⟨⟨_, .yes (c := (decide ((((f.toNat : Nat) : Int) : Int) < (((sg.length : Nat) : Int) : Int)))) (d := true) rfl (fun v w h => h), fun h w => optUndef h, fun zβ za zw zc => ?_⟩, ?_⟩
   ·exact ix_22 (k := f.toNat) rfl ((evt za 22).trans (optVal (zc.dep 10 22 (by kernel_rfl)) rfl zβ)) (ha12 f.toNat (by first | omega | (have zz := zβ; simp only [Bool.and_eq_true, Bool.or_eq_true, Bool.true_and, Bool.not_eq_true', Bool.or_eq_false_iff, Bool.and_eq_false_iff, beq_eq_false_iff_ne, ne_eq, beq_iff_eq, decide_eq_true_eq, decide_eq_false_iff_not, bne_iff_ne, bne_eq_false_iff_eq] at zz; omega))) ((evt za 26).trans (optVal (zc.dep 14 26 (by kernel_rfl)) rfl zβ)) (by first | omega | (have zz := zβ; simp only [Bool.and_eq_true, Bool.or_eq_true, Bool.true_and, Bool.not_eq_true', Bool.or_eq_false_iff, Bool.and_eq_false_iff, beq_eq_false_iff_ne, ne_eq, beq_iff_eq, decide_eq_true_eq, decide_eq_false_iff_not, bne_iff_ne, bne_eq_false_iff_eq] at zz; omega)) ⟨_, rfl, Below.refl _ _, optDef zβ rfl⟩
   refine ⟨⟨_, .yes (c := (decide ((((f.toNat : Nat) : Int) : Int) < (((sg.length : Nat) : Int) : Int)))) (d := true) rfl (fun v w h => h), fun h w => optUndef h, fun zβ za zw zc => ?_⟩, ?_⟩
   ·exact fld_66_1 rfl ((evt za 27).trans (optVal (zc.dep 15 27 (by kernel_rfl)) rfl zβ)) ⟨_, rfl, Below.refl _ _, optDef zβ rfl⟩
   refine ⟨⟨_, .yes (c := (decide ((((f.toNat : Nat) : Int) : Int) < (((sg.length : Nat) : Int) : Int)))) (d := true) rfl (fun v w h => h), fun h w => optUndef h, fun zβ za zw zc => ?_⟩, ?_⟩
   ·exact ld_3 rfl ((evt za 28).trans (optVal (zc.dep 16 28 (by kernel_rfl)) rfl zβ)) (bkeeps (bstep hb5 zc.below) _ _ (hc13 f.toNat (by first | omega | (have zz := zβ; simp only [Bool.and_eq_true, Bool.or_eq_true, Bool.true_and, Bool.not_eq_true', Bool.or_eq_false_iff, Bool.and_eq_false_iff, beq_eq_false_iff_ne, ne_eq, beq_iff_eq, decide_eq_true_eq, decide_eq_false_iff_not, bne_iff_ne, bne_eq_false_iff_eq] at zz; omega))).2.1) ⟨_, rfl, Below.refl _ _, optDef zβ rfl⟩
   refine ⟨⟨_, .yes (c := (decide ((((f.toNat : Nat) : Int) : Int) < (((sg.length : Nat) : Int) : Int)))) (d := true) rfl (fun v w h => h), fun h w => optUndef h, fun zβ za zw zc => ?_⟩, ?_⟩
   ·exact wp_move rfl (zc.kn.ev rfl) ⟨_, rfl, Below.refl _ _, optDef zβ rfl⟩
   refine ⟨⟨_, .yes (c := (decide ((((f.toNat : Nat) : Int) : Int) < (((sg.length : Nat) : Int) : Int)))) (d := true) rfl (fun v w h => h), fun h w => optUndef h, fun zβ za zw zc => ?_⟩, ?_⟩
   ·exact nilCheck_ rfl ((evt za 30).trans (optVal (zc.dep 18 30 (by kernel_rfl)) rfl zβ)) ⟨_, rfl, Below.refl _ _, optDef zβ rfl⟩
   refine ⟨⟨_, .yes (c := (decide ((((f.toNat : Nat) : Int) : Int) < (((sg.length : Nat) : Int) : Int)))) (d := true) rfl (fun v w h => h), fun h w => optUndef h, fun zβ za zw zc => ?_⟩, ?_⟩
   ·exact fld_35_1 rfl ((evt za 31).trans (optVal (zc.dep 19 31 (by kernel_rfl)) rfl zβ)) ⟨_, rfl, Below.refl _ _, optDef zβ rfl⟩
   refine ⟨⟨_, .yes (c := (decide ((((f.toNat : Nat) : Int) : Int) < (((sg.length : Nat) : Int) : Int)))) (d := true) rfl (fun v w h => h), fun h w => optUndef h, fun zβ za zw zc => ?_⟩, ?_⟩
   ·exact ld_25 rfl ((evt za 32).trans (optVal (zc.dep 20 32 (by kernel_rfl)) rfl zβ)) (bkeeps zc.below _ _ hc14) ⟨_, rfl, Below.refl _ _, optDef zβ rfl⟩
   refine ⟨⟨_, .yes (c := (decide ((((f.toNat : Nat) : Int) : Int) < (((sg.length : Nat) : Int) : Int)))) (d := true) rfl (fun v w h => h), fun h w => optUndef h, fun zβ za zw zc => ?_⟩, ?_⟩
   ·exact len_25 rfl ((evt za 33).trans (optVal (zc.dep 21 33 (by kernel_rfl)) rfl zβ)) ⟨_, rfl, Below.refl _ _, optDef zβ rfl⟩
   refine ⟨⟨_, .yes (c := (decide ((((f.toNat : Nat) : Int) : Int) < (((sg.length : Nat) : Int) : Int)))) (d := true) rfl (fun v w h => h), fun h w => optUndef h, fun zβ za zw zc => ?_⟩, ?_⟩
   ·exact eql_3 rfl ((evt za 29).trans (optVal (zc.dep 17 29 (by kernel_rfl)) rfl zβ)) ((evt za 34).trans (optVal (zc.dep 22 34 (by kernel_rfl)) rfl zβ)) ⟨_, rfl, Below.refl _ _, optDef zβ rfl⟩
   refine ⟨⟨true, .none rfl, fun h w => optUndef h, fun zβ za zw zc => ?_⟩, ?_⟩
   ·exact wp_and rfl ((evt za 20).trans (optVal (zc.dep 8 20 (by kernel_rfl)) rfl rfl)) (fun hp => ((evt za 35).trans (optVal (zc.dep 23 35 (by kernel_rfl)) rfl (bMk zβ hp)))) ⟨_, rfl, Below.refl _ _, optDef zβ rfl⟩
   refine ⟨⟨true, .none rfl, fun h w => optUndef h, fun zβ za zw zc => ?_⟩, ?_⟩
   ·exact wp_move rfl ((evt za 36).trans (optVal (zc.dep 24 36 (by kernel_rfl)) rfl rfl)) ⟨_, rfl, Below.refl _ _, optDef zβ rfl⟩
   refine ⟨⟨_, .yes (c := ((decide ((((f.toNat : Nat) : Int) : Int) < (((sg.length : Nat) : Int) : Int))) && (((sget sg f.toNat).ar : Int) == (((n : Nat) : Int) : Int)))) (d := true) rfl (fun v w h => h), fun h w => optUndef h, fun zβ za zw zc => ?_⟩, ?_⟩
   ·exact wp_move rfl (zc.kn.ev rfl) ⟨_, rfl, Below.refl _ _, optDef zβ rfl⟩
   refine ⟨⟨_, .yes (c := ((decide ((((f.toNat : Nat) : Int) : Int) < (((sg.length : Nat) : Int) : Int))) && (((sget sg f.toNat).ar : Int) == (((n : Nat) : Int) : Int)))) (d := true) rfl (fun v w h => h), fun h w => optUndef h, fun zβ za zw zc => ?_⟩, ?_⟩
   ·exact wp_move rfl ((evt za 38).trans (optVal (zc.dep 26 38 (by kernel_rfl)) rfl zβ)) ⟨_, rfl, Below.refl _ _, optDef zβ rfl⟩
   refine ⟨⟨_, .no (c := top) (d := (true && ((decide ((((f.toNat : Nat) : Int) : Int) < (((sg.length : Nat) : Int) : Int))) && (((sget sg f.toNat).ar : Int) == (((n : Nat) : Int) : Int))))) rfl (fun v w h => h), fun h w => optUndef h, fun zβ za zw zc => ?_⟩, ?_⟩
   ·exact fld_24_0 rfl (zc.kn.ev rfl) ⟨_, rfl, Below.refl _ _, optDef zβ rfl⟩
   refine ⟨⟨_, .no (c := top) (d := (true && ((decide ((((f.toNat : Nat) : Int) : Int) < (((sg.length : Nat) : Int) : Int))) && (((sget sg f.toNat).ar : Int) == (((n : Nat) : Int) : Int))))) rfl (fun v w h => h), fun h w => optUndef h, fun zβ za zw zc => ?_⟩, ?_⟩
   ·exact ld_22 rfl ((evt za 40).trans (optVal (zc.dep 28 40 (by kernel_rfl)) rfl zβ)) (bkeeps zc.below _ _ ((hB6.cell 0).trans rfl)) ⟨_, rfl, Below.refl _ _, optDef zβ rfl⟩
   refine ⟨⟨_, .no (c := top) (d := (true && ((decide ((((f.toNat : Nat) : Int) : Int) < (((sg.length : Nat) : Int) : Int))) && (((sget sg f.toNat).ar : Int) == (((n : Nat) : Int) : Int))))) rfl (fun v w h => h), fun h w => optUndef h, fun zβ za zw zc => ?_⟩, ?_⟩
   ·exact wp_move rfl (zc.kn.ev rfl) ⟨_, rfl, Below.refl _ _, optDef zβ rfl⟩
   refine ⟨⟨_, .no (c := top) (d := (true && ((decide ((((f.toNat : Nat) : Int) : Int) < (((sg.length : Nat) : Int) : Int))) && (((sget sg f.toNat).ar : Int) == (((n : Nat) : Int) : Int))))) rfl (fun v w h => h), fun h w => optUndef h, fun zβ za zw zc => ?_⟩, ?_⟩
   ·exact nilCheck_ rfl ((evt za 42).trans (optVal (zc.dep 30 42 (by kernel_rfl)) rfl zβ)) ⟨_, rfl, Below.refl _ _, optDef zβ rfl⟩
   refine ⟨⟨_, .no (c := top) (d := (true && ((decide ((((f.toNat : Nat) : Int) : Int) < (((sg.length : Nat) : Int) : Int))) && (((sget sg f.toNat).ar : Int) == (((n : Nat) : Int) : Int))))) rfl (fun v w h => h), fun h w => optUndef h, fun zβ za zw zc => ?_⟩, ?_⟩
   ·exact fld_35_0 rfl ((evt za 43).trans (optVal (zc.dep 31 43 (by kernel_rfl)) rfl zβ)) ⟨_, rfl, Below.refl _ _, optDef zβ rfl⟩
   refine ⟨⟨_, .no (c := top) (d := (true && ((decide ((((f.toNat : Nat) : Int) : Int) < (((sg.length : Nat) : Int) : Int))) && (((sget sg f.toNat).ar : Int) == (((n : Nat) : Int) : Int))))) rfl (fun v w h => h), fun h w => optUndef h, fun zβ za zw zc => ?_⟩, ?_⟩
   ·exact ld_3 rfl ((evt za 44).trans (optVal (zc.dep 32 44 (by kernel_rfl)) rfl zβ)) (bkeeps zc.below _ _ hc9) ⟨_, rfl, Below.refl _ _, optDef zβ rfl⟩
   refine ⟨⟨_, .no (c := top) (d := (true && ((decide ((((f.toNat : Nat) : Int) : Int) < (((sg.length : Nat) : Int) : Int))) && (((sget sg f.toNat).ar : Int) == (((n : Nat) : Int) : Int))))) rfl (fun v w h => h), fun h w => optUndef h, fun zβ za zw zc => ?_⟩, ?_⟩
   ·exact ix_22 (k := f.toNat) rfl ((evt za 41).trans (optVal (zc.dep 29 41 (by kernel_rfl)) rfl zβ)) (ha12 f.toNat (by first | omega | (have zz := zβ; simp only [Bool.and_eq_true, Bool.or_eq_true, Bool.true_and, Bool.not_eq_true', Bool.or_eq_false_iff, Bool.and_eq_false_iff, beq_eq_false_iff_ne, ne_eq, beq_iff_eq, decide_eq_true_eq, decide_eq_false_iff_not, bne_iff_ne, bne_eq_false_iff_eq] at zz; omega))) ((evt za 45).trans (optVal (zc.dep 33 45 (by kernel_rfl)) rfl zβ)) (by first | omega | (have zz := zβ; simp only [Bool.and_eq_true, Bool.or_eq_true, Bool.true_and, Bool.not_eq_true', Bool.or_eq_false_iff, Bool.and_eq_false_iff, beq_eq_false_iff_ne, ne_eq, beq_iff_eq, decide_eq_true_eq, decide_eq_false_iff_not, bne_iff_ne, bne_eq_false_iff_eq] at zz; omega)) ⟨_, rfl, Below.refl _ _, optDef zβ rfl⟩
   refine ⟨⟨_, .no (c := top) (d := (true && ((decide ((((f.toNat : Nat) : Int) : Int) < (((sg.length : Nat) : Int) : Int))) && (((sget sg f.toNat).ar : Int) == (((n : Nat) : Int) : Int))))) rfl (fun v w h => h), fun h w => optUndef h, fun zβ za zw zc => ?_⟩, ?_⟩
   ·exact fld_66_2 rfl ((evt za 46).trans (optVal (zc.dep 34 46 (by kernel_rfl)) rfl zβ)) ⟨_, rfl, Below.refl _ _, optDef zβ rfl⟩
   refine ⟨⟨_, .no (c := top) (d := (true && ((decide ((((f.toNat : Nat) : Int) : Int) < (((sg.length : Nat) : Int) : Int))) && (((sget sg f.toNat).ar : Int) == (((n : Nat) : Int) : Int))))) rfl (fun v w h => h), fun h w => optUndef h, fun zβ za zw zc => ?_⟩, ?_⟩
   ·exact ld_4 rfl ((evt za 47).trans (optVal (zc.dep 35 47 (by kernel_rfl)) rfl zβ)) (bkeeps (bstep hb5 zc.below) _ _ (hc13 f.toNat (by first | omega | (have zz := zβ; simp only [Bool.and_eq_true, Bool.or_eq_true, Bool.true_and, Bool.not_eq_true', Bool.or_eq_false_iff, Bool.and_eq_false_iff, beq_eq_false_iff_ne, ne_eq, beq_iff_eq, decide_eq_true_eq, decide_eq_false_iff_not, bne_iff_ne, bne_eq_false_iff_eq] at zz; omega))).2.2) ⟨_, rfl, Below.refl _ _, optDef zβ rfl⟩
   refine ⟨⟨_, .no (c := top) (d := (true && ((decide ((((f.toNat : Nat) : Int) : Int) < (((sg.length : Nat) : Int) : Int))) && (((sget sg f.toNat).ar : Int) == (((n : Nat) : Int) : Int))))) rfl (fun v w h => h), fun h w => optUndef h, fun zβ za zw zc => ?_⟩, ?_⟩
   ·exact wp_not rfl ((evt za 48).trans (optVal (zc.dep 36 48 (by kernel_rfl)) rfl zβ)) ⟨_, rfl, Below.refl _ _, optDef zβ rfl⟩
   refine ⟨⟨_, .yes (c := ((decide ((((f.toNat : Nat) : Int) : Int) < (((sg.length : Nat) : Int) : Int))) && (((sget sg f.toNat).ar : Int) == (((n : Nat) : Int) : Int)))) (d := true) rfl (fun v w h => h), fun h w => optUndef h, fun zβ za zw zc => ?_⟩, ?_⟩
   ·exact wp_or rfl ((evt za 39).trans (optVal (zc.dep 27 39 (by kernel_rfl)) rfl zβ)) (fun hp => ((evt za 49).trans (optVal (zc.dep 37 49 (by kernel_rfl)) rfl (bMkN zβ hp)))) ⟨_, rfl, Below.refl _ _, optDef zβ rfl⟩
   refine ⟨⟨true, .none rfl, fun h w => optUndef h, fun zβ za zw zc => ?_⟩, ?_⟩
   ·exact wp_and rfl ((evt za 37).trans (optVal (zc.dep 25 37 (by kernel_rfl)) rfl rfl)) (fun hp => ((evt za 50).trans (optVal (zc.dep 38 50 (by kernel_rfl)) rfl (bMk zβ hp)))) ⟨_, rfl, Below.refl _ _, optDef zβ rfl⟩
   refine ⟨⟨true, .none rfl, fun h w => optUndef h, fun zβ za zw zc => ?_⟩, ?_⟩
   ·exact wp_assign rfl ((evt za 51).trans (optVal (zc.dep 39 51 (by kernel_rfl)) rfl rfl)) ⟨_, rfl, Below.refl _ _, optDef zβ rfl⟩
   exact trivial
  ·intro za w15 zh hb16 zu
   have zh := zh.cons (d := 4) (v := .bool ((((decide ((((f.toNat : Nat) : Int) : Int) < (((sg.length : Nat) : Int) : Int))) && (((sget sg f.toNat).ar : Int) == (((n : Nat) : Int) : Int))) && (top || (!(sget sg f.toNat).pred))))) (optVal (zu 40 4 (by kernel_rfl)) rfl rfl)
   clear zu
   refine WE.go zh ?_
   refine WE.next (WC.ret (WE.ret1 rfl rfl ?_))
   have hB17 := hB3.below hb16
   exact ⟨_, rfl, congrArg Value.bool (Eq.symm (by unfold nodeB; rw [if_neg hf0])), hB17, (Chg.trans hC3 (.ofBelow hb16))⟩
include hsys hgt hne in
set_option maxRecDepth 100000 in
theorem teach_any : ∀ (t : T) (top : Bool) (b o : Nat) (a : Option Addr) (c : Nat) (w : World), t.size ≤ 4294967296 → w0.cell? ⟨b, o, none⟩ = some (.int .i64 t.f) → w0.cell? ⟨b, o + 1, none⟩ = some (.slice a t.args.length c) → IsT w0 t (.agg #[.int .i64 t.f, .slice a t.args.length c]) → Below w0.heap.size w0 w → Blk w gt 4 #[.bool top] → Blk w gs 24 #[.slice sa sg.length sc] →
  Calls Try.prog 53 #[.pointer (some ⟨b, o, none⟩), .func (.func 54) #[] #[.pointer (some ⟨gt, 0, none⟩), .pointer (some ⟨gs, 0, none⟩)]] w (Ret fun v' w' => v' = .bool (t.ovr sg top) ∧ Blk w' gt 4 #[.bool false] ∧ Chg (fun q => q = gt) w w') := by
 refine T.ind (fun f l ih => ?_)
 intro top b o a c w hsz hcf hca hv hb0 hBt hBs
 simp only [T.f_mk, T.args_mk] at hcf hca hv
 have hrow := isT_row hv
 have hl := hrow.2.2.2
 have hlen := len_le_sizeL l
 have hsz' := hsz
 rw [T.size] at hsz'
 have hgtl := hBt.lt
 have hC0 := Chg.refl (fun q => q = gt) w
 refine Calls.walk (l := [.pointer (some ⟨b, o, none⟩), .func (.func 54) #[] #[.pointer (some ⟨gt, 0, none⟩), .pointer (some ⟨gs, 0, none⟩)]]) Try.func53 rfl (by kernel_rfl) ?_
 refine WC.sub (K' := [(0, .pointer (some ⟨b, o, none⟩)), (1, .func (.func 54) #[] #[.pointer (some ⟨gt, 0, none⟩), .pointer (some ⟨gs, 0, none⟩)])]) ⟨rfl, rfl, trivial⟩ ?_
 refine WC.seq (WC.region (WL.asg rfl rfl rfl rfl rfl (WL.nil (WE.next (WC.seq (WC.seq (WC.region (WL.mv rfl rfl rfl rfl rfl (WL.mv rfl rfl rfl rfl rfl ?_)))))))))
 have hb3 : Below w0.heap.size w0 w := hb0
 refine WL.call rfl rfl rfl (fun za zh zC => wp_callv (by kernel_rfl) rfl (zh.ev rfl) (hv1 (zh.ev rfl))) (tchk1_any sg w0 gt gs sa sc hsys hgt hne f l.length top b o a c hcf hca _ hb3 hBt hBs) ?_
 rintro _ w4 ⟨rfl, hB1, hc2⟩
 have hC5 := Chg.trans hC0 hc2
 have hb6 := chg_below hb3 hc2 (fun q hq e => by have z : q = gt := e; omega)
 have hB7 := chg_blk hBs hc2 (fun e => hne (Eq.symm e))
 refine WL.val (.bool ((!(nodeB sg top f l.length)))) rfl rfl rfl (fun za zC zh zk => wp_not rfl (zh.ev rfl) zk) ?_
 refine WL.nil (WE.next ?_)
 refine WC.cond rfl (fun h8 => ?_) (fun h8 => ?_)
 ·have h8 : ¬ ((nodeB sg top f l.length) = true) := by simpa using h8
  have hnd : nodeB sg top f l.length = false := by simpa using h8
  refine WC.seq (WC.region (WL.asg rfl rfl rfl rfl rfl (WL.nil (WE.next (WC.ret (WE.thenRet (WE.ret1 rfl rfl ?_)))))))
  exact ⟨_, rfl, congrArg Value.bool (Eq.symm (ovr_no1 hnd)), hB1, hC5⟩
 ·have h8 : ¬ (¬ ((nodeB sg top f l.length) = true)) := by simpa using h8
  have hnd : nodeB sg top f l.length = true := by simpa using h8
  refine WC.skip (WE.next (WC.seq (WC.seq (WC.region (WL.mv rfl rfl rfl rfl rfl ?_)))))
  refine WL.val _ rfl rfl rfl (fun za zC zh zk => nilCheck_ rfl (zh.ev rfl) zk) ?_
  refine WL.val _ rfl rfl rfl (fun za zC zh zk => fld_35_1 rfl (zh.ev rfl) zk) ?_
  have hc9 := bkeeps hb6 _ _ hca
  refine WL.val _ rfl rfl rfl (fun za zC zh zk => ld_25 rfl (zh.ev rfl) hc9 zk) ?_
  refine WL.val (.int .i64 (((l.length : Nat) : Int))) rfl rfl rfl (fun za zC zh zk => len_25 rfl (zh.ev rfl) zk) ?_
  refine WL.mv rfl rfl rfl rfl rfl (WL.nil (WE.next (WC.block ?_)))
  refine WC.loop (X := Nat) (fun k => l.length - k) (fun k => [(0, .pointer (some ⟨b, o, none⟩)), (1, .func (.func 54) #[] #[.pointer (some ⟨gt, 0, none⟩), .pointer (some ⟨gs, 0, none⟩)]), (9, .bool ((!(nodeB sg top f l.length)))), (14, .int .i64 (((l.length : Nat) : Int))), (15, .int .i64 (((k : Nat) : Int)))]) (fun k w10 => k ≤ l.length ∧ (∀ i, i < k → (tget l i).ovr sg false = true) ∧ Chg (fun q => q = gt) w w10 ∧ Below w0.heap.size w0 w10 ∧ Blk w10 gt 4 #[.bool false] ∧ Blk w10 gs 24 #[.slice sa sg.length sc]) 0 ⟨rfl, rfl, rfl, rfl, rfl, trivial⟩ ?_ ?_
  ·exact ⟨Nat.zero_le _, fun i hi => absurd hi (Nat.not_lt_zero i), hC5, hb6, hB1, hB7⟩
  ·rintro k w10 ⟨hk, hall, hCx, hb11, hB12, hB13⟩
   refine WC.seq (WC.region ?_)
   refine WL.val (.bool ((decide ((((k : Nat) : Int) : Int) < (((l.length : Nat) : Int) : Int))))) rfl rfl rfl (fun za zC zh zk => lss_3 rfl (zh.ev rfl) (zh.ev rfl) zk) ?_
   refine WL.nil (WE.next (WC.seq ?_))
   refine WC.cond rfl (fun h14 => ?_) (fun h14 => ?_)
   ·have h14 : (((k : Nat) : Int) : Int) < (((l.length : Nat) : Int) : Int) := by simpa using h14
    refine WC.skip (WE.next (WC.seq (WC.block (WC.seq (WC.region (WL.mv rfl rfl rfl rfl rfl (WL.asg rfl rfl rfl rfl rfl (WL.nil (WE.next (WC.seq (WC.region (WL.mv rfl rfl rfl rfl rfl ?_))))))))))))
    refine WL.val _ rfl rfl rfl (fun za zC zh zk => nilCheck_ rfl (zh.ev rfl) zk) ?_
    refine WL.val _ rfl rfl rfl (fun za zC zh zk => fld_35_1 rfl (zh.ev rfl) zk) ?_
    have hc15 := bkeeps hb11 _ _ hca
    refine WL.val _ rfl rfl rfl (fun za zC zh zk => ld_25 rfl (zh.ev rfl) hc15 zk) ?_
    refine WL.mv rfl rfl rfl rfl rfl ?_
    obtain ⟨b16, o17, A18, C19, ha20, hc21⟩ := IsTs.open hl
    refine WL.val _ rfl rfl rfl (fun za zC zh zk => ix_25 (k := k) rfl (zh.ev rfl) (ha20 k (by first | omega | (simp; omega))) (zh.ev rfl) (by first | omega | (simp; omega)) zk) ?_
    refine WL.mv rfl rfl rfl rfl rfl ?_
    have hb24 : Below w0.heap.size w0 w10 := hb11
    refine WL.call rfl rfl rfl (fun za zh zC => wp_call (by kernel_rfl) rfl (hv2 (zh.ev rfl) (zh.ev rfl))) (ih (tget l k) (tget_mem (by omega)) false b16 (o17 + k * 2) _ _ _ (size_at (by omega) hsz) (hc21 k (by first | omega | (simp; omega))).1 (hc21 k (by first | omega | (simp; omega))).2.1 (hc21 k (by first | omega | (simp; omega))).2.2 hb24 hB12 hB13) ?_
    rintro _ w25 ⟨rfl, hB22, hc23⟩
    have hC26 := Chg.trans hCx hc23
    have hb27 := chg_below hb24 hc23 (fun q hq e => by have z : q = gt := e; omega)
    have hB28 := chg_blk hB13 hc23 (fun e => hne (Eq.symm e))
    refine WL.val (.bool ((!((tget l k).ovr sg false)))) rfl rfl rfl (fun za zC zh zk => wp_not rfl (zh.ev rfl) zk) ?_
    refine WL.nil (WE.next ?_)
    refine WC.cond rfl (fun h29 => ?_) (fun h29 => ?_)
    ·have h29 : ¬ (((tget l k).ovr sg false) = true) := by simpa using h29
     have hch : (tget l k).ovr sg false = false := by simpa using h29
     refine WC.seq (WC.region (WL.asg rfl rfl rfl rfl rfl (WL.nil (WE.next (WC.ret (WE.blockRet (WE.thenRet (WE.thenRet (WE.blockRet (WE.thenRet (WE.ret1 rfl rfl ?_)))))))))))
     exact ⟨_, rfl, congrArg Value.bool (Eq.symm (ovr_no2 (by omega) hch)), hB22, hC26⟩
    ·have h29 : ¬ (¬ (((tget l k).ovr sg false) = true)) := by simpa using h29
     have hch : (tget l k).ovr sg false = true := by simpa using h29
     refine WC.skip (WE.blockNormal (WE.next (WC.region ?_)))
     refine WL.val (.int .i64 ((((k + 1) : Nat) : Int))) rfl rfl rfl (fun za zC zh zk => addb_3 rfl (zh.ev rfl) (zh.ev rfl) (wrap_eq (by omega) (by omega) (by omega)) zk) ?_
     refine WL.mv rfl rfl rfl rfl rfl (WL.nil ?_)
     refine WE.round (k + 1) ⟨rfl, rfl, rfl, rfl, rfl, trivial⟩ ?_ ?_
     ·exact ⟨by omega, (fun i hi => by rcases Nat.lt_or_ge i k with z | z; exact hall i z; (obtain rfl : i = k := by omega); exact hch), hC26, hb27, hB22, hB28⟩
     ·omega
   ·have h14 : ¬ ((((k : Nat) : Int) : Int) < (((l.length : Nat) : Int) : Int)) := by simpa using h14
    refine WC.exit (WE.thenExit (WE.thenExit (WE.blockIs rfl (WE.next (WC.seq (WC.region (WL.asg rfl rfl rfl rfl rfl (WL.nil (WE.next (WC.ret (WE.ret1 rfl rfl ?_)))))))))))
    exact ⟨_, rfl, congrArg Value.bool (Eq.symm (ovr_yes hnd (fun i hi => hall i (by omega)))), hB12, hCx⟩
end
/-- Whether a term may be put: 0, or 2. -/
def chkB (sg : List Sy) (t : T) : Bool := decide (sigCheck sg = 0) && smallB 48 t && t.ovr sg true
def chkI (sg : List Sy) (t : T) : Int := if chkB sg t = true then 0 else 2
set_option maxRecDepth 100000 in
theorem tmchk_any (sg : List Sy) (t : T) (w : World) (vs v : Value) (hsz : t.size ≤ 4294967296) (hs : IsSig w sg vs) (hv : IsT w t v) :
  Calls Try.prog 30 #[vs, v] w (Ret fun v' w' => v' = .int .i64 (chkI sg t) ∧ Below w.heap.size w w') := by
 have hst := hs
 have hvt := hv
 obtain ⟨sa, sc, rfl, hsc, hsm, hsys⟩ := hs
 obtain ⟨_, a, c, rfl, _, _, _⟩ := hv.form
 refine Calls.walk (l := [.agg #[.slice sa sg.length sc], .agg #[.int .i64 t.f, .slice a t.args.length c]]) Try.func30 rfl (by kernel_rfl) ?_
 refine WC.sub (K' := [(0, .agg #[.slice sa sg.length sc]), (1, .agg #[.int .i64 t.f, .slice a t.args.length c])]) ⟨rfl, rfl, trivial⟩ ?_
 refine WC.seq (WC.region ?_)
 refine WL.step (post := NewBlk w 24 #[.slice sa sg.length sc]) rfl rfl rfl (fun za zC zh zk => box_24 rfl (zh.ev rfl) (zk _ _ (newBlk _ _ _))) ?_
 rintro _ w1 ⟨g2, rfl, hg3, hB4, hb5, hz6⟩
 have hl7 : w.heap.size ≤ g2 := by omega
 refine WL.step (post := NewBlk w1 35 #[.int .i64 t.f, .slice a t.args.length c]) rfl rfl rfl (fun za zC zh zk => box_35 rfl (zh.ev rfl) (zk _ _ (newBlk _ _ _))) ?_
 rintro _ w8 ⟨g9, rfl, hg10, hB11, hb12, hz13⟩
 have hl14 : g2 < g9 := by have z1 := hB4.lt; omega
 have hl15 : w.heap.size ≤ g9 := by have z2 := (hb5).size; omega
 refine WL.asg rfl rfl rfl rfl rfl (WL.nil (WE.next (WC.seq (WC.seq ?_))))
 have hB16 := hB4.below hb12
 have hb17 : Below w.heap.size w w8 := (bstep hb5 hb12)
 refine WC.opt [(true, .val (.agg #[.slice sa sg.length sc])), (true, .val (.int .i64 ((sigCheck sg)))), (true, .val (.bool ((((sigCheck sg) : Int) != (0 : Int))))), (true, .val (.bool ((((sigCheck sg) : Int) != (0 : Int))))), ((true && !(((sigCheck sg) : Int) != (0 : Int))), .val (.agg #[.int .i64 t.f, .slice a t.args.length c])), ((true && !(((sigCheck sg) : Int) != (0 : Int))), .val (.bool ((smallB 48 t)))), ((true && !(((sigCheck sg) : Int) != (0 : Int))), .val (.bool ((!(smallB 48 t))))), (true, .val (.bool (((((sigCheck sg) : Int) != (0 : Int)) || (!(smallB 48 t))))))] [(0, .agg #[.slice sa sg.length sc]), (1, .agg #[.int .i64 t.f, .slice a t.args.length c]), (2, .pointer (some ⟨g2, 0, none⟩)), (3, .pointer (some ⟨g9, 0, none⟩)), (4, .int .i64 0)] ⟨rfl, rfl, rfl, rfl, rfl, trivial⟩ (by kernel_rfl) (by kernel_rfl) (by kernel_rfl) ?_ ?_
 ·refine ⟨⟨true, .none rfl, fun h w => optUndef h, fun zβ za zw zc => ?_⟩, ?_⟩
  ·exact ld_24 rfl (zc.kn.ev rfl) (bkeeps zc.below _ _ ((hB16.cell 0).trans rfl)) ⟨_, rfl, Below.refl _ _, optDef zβ rfl⟩
  refine ⟨⟨true, .none rfl, fun h w => optUndef h, fun zβ za zw zc => ?_⟩, ?_⟩
  ·exact wp_call (by kernel_rfl) rfl (hv1 ((evt za 7).trans (optVal (zc.dep 0 7 (by kernel_rfl)) rfl rfl))) (pcheck_any sg _ _ (IsSig.below (bstep hb17 zc.below) hst)) (fun v w' h => ⟨v, rfl, h.2, optDef zβ h.1⟩)
  refine ⟨⟨true, .none rfl, fun h w => optUndef h, fun zβ za zw zc => ?_⟩, ?_⟩
  ·exact neq_27 rfl ((evt za 8).trans (optVal (zc.dep 1 8 (by kernel_rfl)) rfl rfl)) (zc.kn.ev rfl) ⟨_, rfl, Below.refl _ _, optDef zβ rfl⟩
  refine ⟨⟨true, .none rfl, fun h w => optUndef h, fun zβ za zw zc => ?_⟩, ?_⟩
  ·exact wp_move rfl ((evt za 9).trans (optVal (zc.dep 2 9 (by kernel_rfl)) rfl rfl)) ⟨_, rfl, Below.refl _ _, optDef zβ rfl⟩
  refine ⟨⟨_, .no (c := (((sigCheck sg) : Int) != (0 : Int))) (d := true) rfl (fun v w h => h), fun h w => optUndef h, fun zβ za zw zc => ?_⟩, ?_⟩
  ·exact ld_35 rfl (zc.kn.ev rfl) (bkeeps zc.below _ _ ((hB11.cell 0).trans rfl)) (bkeeps zc.below _ _ ((hB11.cell 1).trans rfl)) ⟨_, rfl, Below.refl _ _, optDef zβ rfl⟩
  refine ⟨⟨_, .no (c := (((sigCheck sg) : Int) != (0 : Int))) (d := true) rfl (fun v w h => h), fun h w => optUndef h, fun zβ za zw zc => ?_⟩, ?_⟩
  ·exact wp_call (by kernel_rfl) rfl (hv2 ((evt za 11).trans (optVal (zc.dep 4 11 (by kernel_rfl)) rfl zβ)) (zc.kn.ev rfl)) (tsmall_any t 48 (by omega) _ _ (IsT.below (bstep hb17 zc.below) hvt)) (fun v w' h => ⟨v, rfl, h.2, optDef zβ h.1⟩)
  refine ⟨⟨_, .no (c := (((sigCheck sg) : Int) != (0 : Int))) (d := true) rfl (fun v w h => h), fun h w => optUndef h, fun zβ za zw zc => ?_⟩, ?_⟩
  ·exact wp_not rfl ((evt za 12).trans (optVal (zc.dep 5 12 (by kernel_rfl)) rfl zβ)) ⟨_, rfl, Below.refl _ _, optDef zβ rfl⟩
  refine ⟨⟨true, .none rfl, fun h w => optUndef h, fun zβ za zw zc => ?_⟩, ?_⟩
  ·exact wp_or rfl ((evt za 10).trans (optVal (zc.dep 3 10 (by kernel_rfl)) rfl rfl)) (fun hp => ((evt za 13).trans (optVal (zc.dep 6 13 (by kernel_rfl)) rfl (bMkN zβ hp)))) ⟨_, rfl, Below.refl _ _, optDef zβ rfl⟩
  exact trivial
 ·intro za w18 zh hb19 zu
  have zh := zh.cons (d := 14) (v := .bool (((((sigCheck sg) : Int) != (0 : Int)) || (!(smallB 48 t))))) (optVal (zu 7 14 (by kernel_rfl)) rfl rfl)
  clear zu
  refine WE.go zh ?_
  refine WE.next ?_
  refine WC.cond rfl (fun h20 => ?_) (fun h20 => ?_)
  ·have h20 : (((sigCheck sg) : Int) ≠ (0 : Int)) ∨ (¬ ((smallB 48 t) = true)) := by simpa using h20
   refine WC.seq (WC.region (WL.asg rfl rfl rfl rfl rfl (WL.nil (WE.next (WC.ret (WE.thenRet (WE.ret1 rfl rfl ?_)))))))
   have hb21 : Below w.heap.size w w18 := (bstep hb17 hb19)
   exact ⟨_, rfl, by unfold chkI chkB; have z := h20; rw [if_neg (fun q => by simp at q z; rcases z with z | z; exact z q.1.1; rw [q.1.2] at z; cases z)], hb21⟩
  ·have h20 : ¬ ((((sigCheck sg) : Int) ≠ (0 : Int)) ∨ (¬ ((smallB 48 t) = true))) := by simpa using h20
   refine WC.skip (WE.next (WC.seq ?_))
   have hB22 := hB11.below hb19
   have hb23 : Below w.heap.size w w18 := (bstep hb17 hb19)
   have h3c0 := ((hB22.cell 0).trans rfl)
   have h3c1 := ((hB22.cell 1).trans rfl)
   have hb03 : Below w.heap.size w w18 := hb23
   refine WC.region ?_
   refine WL.step (post := NewBlk w18 4 #[.bool false]) rfl rfl rfl (fun za zC zh zk => alloc_4 rfl (zk _ _ (newBlk _ _ _))) ?_
   rintro _ w24 ⟨g25, rfl, hg26, hB27, hb28, hz29⟩
   have hl30 : g2 < g25 := by have z1 := hB16.lt; have z2 := (hb19).size; omega
   have hl31 : g9 < g25 := by have z1 := hB22.lt; omega
   have hl32 : w.heap.size ≤ g25 := by have z2 := (hb23).size; omega
   have hl33 : w18.heap.size ≤ g25 := by omega
   refine WL.step (post := fun _ w' => Upd g25 w24 w' ∧ Blk w' g25 4 #[.bool true]) rfl rfl rfl (fun za zC zh zk => st_4 rfl (zh.ev rfl) (zh.ev rfl) hB27 (by first | decide | simp) (fun v => zk v _ ⟨Upd.at_ _ _ _ _, hB27.set_ 0 _⟩)) ?_
   rintro v37 w34 ⟨hu35, hB36⟩
   have hb38 : Below w.heap.size w w24 := (bstep hb23 hb28)
   have hb39 := upd_below hb38 hu35 (by omega)
   have hb40 := upd_below hb28 hu35 (by omega)
   have hb42 : Below w8.heap.size w8 w24 := (bstep hb19 hb28)
   have hB41 := hB16.below hb42
   have hB43 := upd_blk hB41 hu35 (by omega)
   have hB44 := hB22.below hb28
   have hB45 := upd_blk hB44 hu35 (by omega)
   refine WL.nil (WE.next (WC.seq (WC.region ?_)))
   refine WL.val (.func (Fn.func 54) #[] #[.pointer (some ⟨g25, 0, none⟩), .pointer (some ⟨g2, 0, none⟩)]) rfl rfl rfl (fun za zC zh zk => mkfn rfl (hv0) (hv2 (zh.ev rfl) (zh.ev rfl)) zk) ?_
   have hb48 : Below w.heap.size w w34 := hb39
   have hb49 : Below w18.heap.size w18 w34 := hb40
   refine WL.call rfl rfl rfl (fun za zh zC => wp_call (by kernel_rfl) rfl (hv2 (zh.ev rfl) (zh.ev rfl))) (teach_any sg w18 g25 g2 sa sc (IsSys.below hb03 hsys) (by omega) (by omega) t true g9 0 a c _ hsz h3c0 h3c1 (IsT.below hb03 hvt) hb49 hB36 hB43) ?_
   rintro _ w50 ⟨rfl, hB46, hc47⟩
   have hb51 := chg_below hb48 hc47 (fun q hq e => by have z : q = g25 := e; omega)
   refine WL.asg rfl rfl rfl rfl rfl (WL.nil (WE.next (WC.seq (WC.seq (WC.region (WL.mv rfl rfl rfl rfl rfl ?_))))))
   refine WL.val (.bool ((!(t.ovr sg true)))) rfl rfl rfl (fun za zC zh zk => wp_not rfl (zh.ev rfl) zk) ?_
   refine WL.nil (WE.next ?_)
   refine WC.cond rfl (fun h52 => ?_) (fun h52 => ?_)
   ·have h52 : ¬ ((t.ovr sg true) = true) := by simpa using h52
    have ho9 : t.ovr sg true = false := by simpa using h52
    refine WC.seq (WC.region (WL.asg rfl rfl rfl rfl rfl (WL.nil (WE.next (WC.ret (WE.thenRet (WE.ret1 rfl rfl ?_)))))))
    exact ⟨_, rfl, by unfold chkI chkB; rw [ho9]; simp, hb51⟩
   ·have h52 : ¬ (¬ ((t.ovr sg true) = true)) := by simpa using h52
    have ho9 : t.ovr sg true = true := by simpa using h52
    refine WC.skip (WE.next (WC.seq (WC.region (WL.asg rfl rfl rfl rfl rfl (WL.nil (WE.next (WC.ret (WE.ret1 rfl rfl ?_))))))))
    exact ⟨_, rfl, by unfold chkI chkB; rw [ho9]; have z := h20; simp at z; simp [z], hb51⟩
end Go.Proofs.Ytbohlpfndiiimaa

/- Terms compared, as a plain function. -/
namespace Go.Proofs.Ytbohlpfndiiimaa
namespace T
mutual
def same : T → T → Bool
  | .mk f l, .mk g k => (f == g) && sameL l k
def sameL : List T → List T → Bool
  | [], [] => true
  | a :: r, b :: q => same a b && sameL r q
  | [], _ :: _ => false
  | _ :: _, [] => false
end
mutual
theorem same_iff : ∀ (s t : T), same s t = true ↔ s = t
  | .mk f l, .mk g k => by
    rw [same, Bool.and_eq_true, sameL_iff l k, beq_iff_eq]
    simp
theorem sameL_iff : ∀ (l k : List T), sameL l k = true ↔ l = k
  | [], [] => by simp [sameL]
  | a :: r, b :: q => by rw [sameL, Bool.and_eq_true, same_iff a b, sameL_iff r q]; simp
  | [], _ :: _ => by simp [sameL]
  | _ :: _, [] => by simp [sameL]
end
theorem same_refl (s : T) : same s s = true := (same_iff s s).2 rfl
end T
end Go.Proofs.Ytbohlpfndiiimaa

/- Banks of terms, plain: what lies in a bank does not hang on the order in which terms came. -/
namespace Go.Proofs.Ytbohlpfndiiimaa
set_option linter.unusedVariables false
set_option linter.unusedSimpArgs false
/-- Terms put in one behind the other. -/
def bputs : List T → List En → List En
  | [], N => N
  | t :: r, N => bputs r (t.bput N).1
theorem bputs_ok : ∀ (l : List T) (N : List En), BOk N → BPut N (bputs l N)
  | [], N, h => .refl h
  | t :: r, N, h => by
    have h1 := (bput_ok t N h).1
    exact h1.trans (bputs_ok r _ h1.ok)
def tms (N : List En) : List T := (List.range N.length).map (tmE N)
theorem mem_tms {N : List En} {t : T} : t ∈ tms N ↔ ∃ i, i < N.length ∧ tmE N i = t := by
  unfold tms
  rw [List.mem_map]
  constructor
  · rintro ⟨i, hi, e⟩; exact ⟨i, List.mem_range.1 hi, e⟩
  · rintro ⟨i, hi, e⟩; exact ⟨i, List.mem_range.2 hi, e⟩
theorem tms_nodup {N : List En} (h : BOk N) : (tms N).Nodup := by
  unfold tms
  rw [List.nodup_iff_pairwise_ne, List.pairwise_map]
  refine (List.nodup_range (n := N.length)).imp_of_mem (fun {a b} ha hb hne e => hne ?_)
  exact tmE_inj h _ a b (Nat.lt_succ_self _) (List.mem_range.1 ha) (List.mem_range.1 hb) e
mutual
/-- A term's parts, itself with them. -/
def T.sub : T → List T
  | .mk f l => .mk f l :: T.subL l
def T.subL : List T → List T
  | [] => []
  | t :: r => t.sub ++ T.subL r
end
theorem tms_put {N N' : List En} (h0 : BOk N) (h : BPut N N') {t : T} (ht : t ∈ tms N) : t ∈ tms N' := by
  obtain ⟨i, hi, e⟩ := mem_tms.1 ht
  exact mem_tms.2 ⟨i, Nat.lt_of_lt_of_le hi h.le, (h.tm h0 hi).trans e⟩
mutual
theorem mem_bput : ∀ (t : T) (N : List En), BOk N → ∀ s, s ∈ tms (t.bput N).1 ↔ s ∈ tms N ∨ s ∈ t.sub
  | .mk f l, N, h, s => by
    obtain ⟨h1, h2, h3, h4⟩ := bputL_ok l N h
    obtain ⟨k1, k2, k3, k4⟩ := bput_ok (.mk f l) N h
    have hm := mem_bputL l N h
    constructor
    · intro hs
      obtain ⟨i, hi, e⟩ := mem_tms.1 hs
      rw [T.bput] at hi e
      unfold addE at hi e
      cases hq : idxE (T.bputL l N).1 ⟨f, (T.bputL l N).2⟩ with
      | some n =>
        rw [hq] at hi e
        rcases (hm s).1 (mem_tms.2 ⟨i, hi, e⟩) with q | q
        · exact .inl q
        · exact .inr (by rw [T.sub]; exact List.mem_cons_of_mem _ q)
      | none =>
        rw [hq] at hi e
        (try dsimp only at hi e)
        by_cases c : i < (T.bputL l N).1.length
        · rw [tmE_app h1.ok c] at e
          rcases (hm s).1 (mem_tms.2 ⟨i, c, e⟩) with q | q
          · exact .inl q
          · exact .inr (by rw [T.sub]; exact List.mem_cons_of_mem _ q)
        · have hi2 : i = (T.bputL l N).1.length := by rw [List.length_append] at hi; have : i < (T.bputL l N).1.length + 1 := hi; omega
          have z := k3
          rw [T.bput] at z
          unfold addE at z
          rw [hq] at z
          (try dsimp only at z)
          rw [hi2, z] at e
          exact .inr (by rw [T.sub, ← e]; exact List.mem_cons_self)
    · intro hs
      rcases hs with hs | hs
      · exact tms_put h k1 hs
      · rw [T.sub] at hs
        rcases List.mem_cons.1 hs with rfl | hs
        · exact mem_tms.2 ⟨_, k2, k3⟩
        · have z := (hm s).2 (.inr hs)
          have kk := (addE_ok (x := ⟨f, (T.bputL l N).2⟩) h1.ok h2).1
          rw [T.bput]
          exact tms_put h1.ok kk z
theorem mem_bputL : ∀ (l : List T) (N : List En), BOk N → ∀ s, s ∈ tms (T.bputL l N).1 ↔ s ∈ tms N ∨ s ∈ T.subL l
  | [], N, h, s => by rw [T.bputL, T.subL]; simp
  | t :: r, N, h, s => by
    have h1 := (bput_ok t N h).1
    rw [T.bputL]
    show s ∈ tms (T.bputL r (t.bput N).1).1 ↔ _
    rw [mem_bputL r _ h1.ok s, mem_bput t N h s, T.subL, List.mem_append, or_assoc]
end
theorem mem_bputs : ∀ (l : List T) (N : List En), BOk N → ∀ s, s ∈ tms (bputs l N) ↔ s ∈ tms N ∨ ∃ t ∈ l, s ∈ t.sub
  | [], N, h, s => by rw [bputs]; simp
  | t :: r, N, h, s => by
    have h1 := (bput_ok t N h).1
    rw [bputs, mem_bputs r _ h1.ok s, mem_bput t N h s, or_assoc]
    simp
/-- Is a term one of another one's arguments? -/
def hasArg (u s : T) : Bool := s.args.any (fun x => T.same u x)
theorem users_count {N : List En} (h : BOk N) {i : Nat} (hi : i < N.length) : (usersE N i).length = (tms N).countP (fun s => hasArg (tmE N i) s) := by
  unfold usersE tms
  rw [List.countP_map, List.countP_eq_length_filter]
  congr 1
  refine List.filter_congr (fun j hj => ?_)
  have hj := List.mem_range.1 hj
  show decide (i ∈ (eget N j).args) = hasArg (tmE N i) (tmE N j)
  unfold hasArg
  rw [tmE_eq h hj, Bool.eq_iff_iff, decide_eq_true_eq, List.any_eq_true]
  show _ ↔ ∃ x, x ∈ (eget N j).args.map (tmE N) ∧ T.same (tmE N i) x = true
  constructor
  · intro hm
    exact ⟨_, List.mem_map.2 ⟨i, hm, rfl⟩, T.same_refl _⟩
  · rintro ⟨x, hx, e⟩
    obtain ⟨a, ha, rfl⟩ := List.mem_map.1 hx
    have e2 := (T.same_iff _ _).1 e
    have := h.args j hj _ ha
    rw [tmE_inj h _ _ _ (Nat.lt_succ_self _) hi (by omega) e2]
    exact ha
/-- Two banks of the same terms. -/
structure Alk (N M : List En) : Prop where
  n : BOk N
  m : BOk M
  mem : ∀ t, t ∈ tms N ↔ t ∈ tms M
theorem Alk.perm {N M : List En} (h : Alk N M) : List.Perm (tms N) (tms M) := (List.perm_ext_iff_of_nodup (tms_nodup h.n) (tms_nodup h.m)).2 h.mem
theorem Alk.len {N M : List En} (h : Alk N M) : N.length = M.length := by
  have := h.perm.length_eq
  unfold tms at this
  simpa using this
theorem Alk.at_ {N M : List En} (h : Alk N M) {i : Nat} (hi : i < N.length) : ∃ j, (tmE N i).bfind M = some j ∧ j < M.length ∧ tmE M j = tmE N i ∧ (eget N i).args.length = (eget M j).args.length ∧ (usersE N i).length = (usersE M j).length := by
  obtain ⟨j, hj, e⟩ := mem_tms.1 ((h.mem _).1 (mem_tms.2 ⟨i, hi, rfl⟩))
  refine ⟨j, bfind_tm h.m hj e, hj, e, ?_, ?_⟩
  · have z := congrArg (fun t => t.args.length) e
    rw [tmE_eq h.n hi, tmE_eq h.m hj] at z
    simpa [T.args] using z.symm
  · rw [users_count h.n hi, users_count h.m hj, e]
    exact h.perm.countP_eq _
theorem Alk.of {l m : List T} (h : ∀ t, t ∈ l ↔ t ∈ m) : Alk (bputs l []) (bputs m []) := by
  refine ⟨(bputs_ok l [] .nil).ok, (bputs_ok m [] .nil).ok, fun s => ?_⟩
  rw [mem_bputs l [] .nil, mem_bputs m [] .nil]
  constructor
  · rintro (q | ⟨t, ht, hs⟩)
    · exact .inl q
    · exact .inr ⟨t, (h t).1 ht, hs⟩
  · rintro (q | ⟨t, ht, hs⟩)
    · exact .inl q
    · exact .inr ⟨t, (h t).2 ht, hs⟩
end Go.Proofs.Ytbohlpfndiiimaa

/- Scopes (functions with labels) through which the run goes without a goto. -/
namespace Go.Proofs.Ytbohlpfndiiimaa
open Go.RowKit Go
set_option linter.unusedVariables false
set_option linter.unusedSimpArgs false
section
variable {P : Program} {n : Fr} {K : Known} {w : World} {Q : Exit → Act → World → Prop} {c : Code}
end
end Go.Proofs.Ytbohlpfndiiimaa

/- Put, as a bank tells it: the program. -/
namespace Go.Proofs.Ytbohlpfndiiimaa
open Go.RowKit Go
set_option linter.unusedVariables false
set_option linter.unusedSimpArgs false
mutual
/-- The symbols are ints. -/
def T.sy : T → Prop
 | .mk f l => I64 f ∧ T.syL l
def T.syL : List T → Prop
 | [] => True
 | t :: r => t.sy ∧ T.syL r
end
mutual
theorem IsT.sy {w : World} : ∀ {t : T} {v : Value}, IsT w t v → t.sy
 | .mk f l, v, ⟨h1, _, _, _, _, _, h2⟩ => ⟨h1, IsTs.syL h2⟩
theorem IsTs.syL {w : World} : ∀ {l : List T} {a : Option Addr} {i : Nat}, IsTs w l a i → T.syL l
 | [], _, _, _ => trivial
 | t :: r, a, i, ⟨⟨_, _, _, _, _, _, _, h3⟩, h4⟩ => ⟨IsT.sy h3, IsTs.syL h4⟩
end
mutual
theorem sub_size : ∀ (t s : T), s ∈ t.sub → s.size ≤ t.size
 | .mk f l, s, h => by
  rw [T.sub] at h
  rcases List.mem_cons.1 h with rfl | h
  ·exact Nat.le_refl _
  ·have := subL_size l s h
   rw [T.size]; omega
theorem subL_size : ∀ (l : List T) (s : T), s ∈ T.subL l → s.size ≤ T.sizeL l
 | [], s, h => by rw [T.subL] at h; cases h
 | t :: r, s, h => by
  rw [T.subL] at h
  rw [T.sizeL]
  rcases List.mem_append.1 h with h | h
  ·have := sub_size t s h; omega
  ·have := subL_size r s h; omega
end
mutual
theorem sub_sy : ∀ (t s : T), s ∈ t.sub → t.sy → s.sy
 | .mk f l, s, h, k => by
  rw [T.sub] at h
  rcases List.mem_cons.1 h with rfl | h
  ·exact k
  ·exact subL_sy l s h k.2
theorem subL_sy : ∀ (l : List T) (s : T), s ∈ T.subL l → T.syL l → s.sy
 | [], s, h, _ => by rw [T.subL] at h; cases h
 | t :: r, s, h, k => by
  rw [T.subL] at h
  rcases List.mem_append.1 h with h | h
  ·exact sub_sy t s h k.1
  ·exact subL_sy r s h k.2
end
/-- A bank of terms that may be. -/
structure NEk (N : List En) : Prop where
 ok : BOk N
 tm : ∀ s ∈ tms N, s.size ≤ 300 ∧ s.sy
theorem NEk.nil : NEk [] := ⟨.nil, fun s h => by simp [tms] at h⟩
theorem NEk.put {N : List En} {t : T} (h : NEk N) (hz : t.size ≤ 300) (hs : t.sy) : NEk (t.bput N).1 := ⟨(bput_ok t N h.ok).1.ok, fun s hm => by
 rcases (mem_bput t N h.ok s).1 hm with q | q
 ·exact h.tm s q
 ·exact ⟨Nat.le_trans (sub_size t s q) hz, sub_sy t s q hs⟩⟩
theorem NEk.at_ {N : List En} (h : NEk N) {i : Nat} (hi : i < N.length) : (tmE N i).size ≤ 300 ∧ (tmE N i).sy := h.tm _ (mem_tms.2 ⟨i, hi, rfl⟩)
theorem NEk.fn {N : List En} (h : NEk N) : FnI N := fun i hi => by
 have z := (h.at_ hi).2
 rw [tmE_eq h.ok hi] at z
 exact z.1
theorem smallB_le {t : T} (h : smallB 48 t = true) : t.size ≤ 300 := by
 rw [smallB_small] at h
 unfold T.small at h
 simp only [Bool.and_eq_true, decide_eq_true_eq] at h
 exact h.1.1
theorem chkI_iff (sg : List Sy) (t : T) : chkI sg t = 0 ↔ chkB sg t = true := by unfold chkI; split <;> simp [*]
theorem chkB_le {sg : List Sy} {t : T} (h : chkB sg t = true) : t.size ≤ 300 := by
 unfold chkB at h
 simp only [Bool.and_eq_true] at h
 exact smallB_le h.1.2
/-- What Put leaves, and tells. -/
def bputI (sg : List Sy) (N : List En) (t : T) : List En := if chkI sg t = 0 then (t.bput N).1 else N
def bputV (sg : List Sy) (N : List En) (t : T) : Int := if chkI sg t = 0 then (((t.bput N).2 : Nat) : Int) else 0
/-- A bank and its signature, whose blocks are of 'Y'. -/
def BkS (w : World) (g : Nat) (sg : List Sy) (Y : Nat → Prop) (N : List En) : Prop := ∃ Z sa sc, BkIs w g (.slice sa sg.length sc) Z N ∧ Own w (fun b => ¬ Z b ∧ Y b) 66 3 sa sc sg.length (syCells sg) ∧ (∀ x ∈ sg, I64 x.ar ∧ x.name.size ≤ maxLen) ∧ (∀ b, Z b → Y b) ∧ (∀ b, Y b → b < w.heap.size) ∧ NEk N
section
variable {w w' : World} {g B : Nat} {sg : List Sy} {Y X X2 : Nat → Prop} {N : List En}
theorem BkS.chg (h : BkS w g sg Y N) (hc : Chg X w w') (hX : ∀ b, Y b → ¬ X b) : BkS w' g sg Y N := by
 obtain ⟨Z, sa, sc, h1, h2, h3, h4, h5, h6⟩ := h
 exact ⟨Z, sa, sc, h1.chg hc (fun b q => hX b (h4 b q)), h2.chg hc (fun b q => hX b q.2), h3, h4, fun b q => Nat.lt_of_lt_of_le (h5 b q) hc.size, h6⟩
theorem BkS.below (h : BkS w g sg Y N) (hb : Below w.heap.size w w') : BkS w' g sg Y N := h.chg (X := fun _ => False) (.ofBelow hb) (fun _ _ => id)
theorem BkS.lt (h : BkS w g sg Y N) : ∀ b, Y b → b < w.heap.size := by obtain ⟨Z, sa, sc, h1, h2, h3, h4, h5, h6⟩ := h; exact h5
theorem BkS.ok (h : BkS w g sg Y N) : NEk N := by obtain ⟨Z, sa, sc, h1, h2, h3, h4, h5, h6⟩ := h; exact h6
theorem BkS.hg (h : BkS w g sg Y N) : Y g := by obtain ⟨Z, sa, sc, h1, h2, h3, h4, h5, h6⟩ := h; exact h4 _ h1.hg
theorem BkS.is (h : BkS w g sg Y N) : ∃ Z sa sc, BkIs w g (.slice sa sg.length sc) Z N := by obtain ⟨Z, sa, sc, h1, h2, h3, h4, h5, h6⟩ := h; exact ⟨Z, sa, sc, h1⟩
/-- A bank whose blocks came from 'B' on, and none of them of 'X'. -/
def BkSJ (w : World) (B g : Nat) (sg : List Sy) (N : List En) (X : Nat → Prop) : Prop := ∃ Y, BkS w g sg Y N ∧ (∀ b, Y b → B ≤ b) ∧ ∀ b, X b → ¬ Y b
theorem BkSJ.below (h : BkSJ w B g sg N X) (hb : Below w.heap.size w w') : BkSJ w' B g sg N X := by
 obtain ⟨Y, h1, h2, h3⟩ := h
 exact ⟨Y, h1.below hb, h2, h3⟩
theorem BkSJ.chg {Z : Nat → Prop} (h : BkSJ w B g sg N X) (hc : Chg Z w w') (hT : ∀ b, Z b → X b) : BkSJ w' B g sg N X := by
 obtain ⟨Y, h1, h2, h3⟩ := h
 exact ⟨Y, h1.chg hc (fun b q k => h3 b (hT b k) q), h2, h3⟩
theorem BkSJ.avoid (h : BkSJ w B g sg N X) (hX : ∀ b, X2 b → X b ∨ w.heap.size ≤ b ∨ b < B) : BkSJ w B g sg N X2 := by
 obtain ⟨Y, h1, h2, h3⟩ := h
 refine ⟨Y, h1, h2, fun b q k => ?_⟩
 rcases hX b q with z | z | z
 ·exact h3 b z k
 ·have := h1.lt b k; omega
 ·have := h2 b k; omega
theorem BkSJ.ok (h : BkSJ w B g sg N X) : NEk N := by obtain ⟨Y, h1, _⟩ := h; exact h1.ok
end
set_option maxRecDepth 100000 in
theorem bputw_any (g : Nat) (sg : Value) (t : T) (N : List En) (Z A : Nat → Prop) (w : World) (v : Value) (hsz : t.size ≤ 4294967296) (hNl : N.length + t.size ≤ 1048576) (hK : BkIs w g sg Z N) (ht : InT A w t v) (hA : ∀ b, A b → ¬ Z b ∧ b < w.heap.size) :
  Calls Try.prog 31 #[.pointer (some ⟨g, 0, none⟩), v] w (Ret fun v' w' => v' = .int .i64 (((t.bput N).2 : Nat) : Int) ∧ (∃ Z', BkIs w' g sg Z' (t.bput N).1 ∧ ∀ b, Z' b → Z b ∨ w.heap.size ≤ b) ∧ Chg Z w w') := by
 obtain ⟨hf, a, c, rfl, hlc, hcm, hts⟩ := ht.form
 have hZl := hK.lt
 refine Calls.walk (l := [.pointer (some ⟨g, 0, none⟩), .agg #[.int .i64 t.f, .slice a t.args.length c]]) Try.func31 rfl (by kernel_rfl) ?_
 refine WC.sub (K' := [(0, .pointer (some ⟨g, 0, none⟩)), (1, .agg #[.int .i64 t.f, .slice a t.args.length c])]) ⟨rfl, rfl, trivial⟩ ?_
 refine WC.seq (WC.region ?_)
 refine WL.step (post := NewBlk w 26 #[.pointer (some ⟨g, 0, none⟩)]) rfl rfl rfl (fun za zC zh zk => box_26 rfl (zh.ev rfl) (zk _ _ (newBlk _ _ _))) ?_
 rintro _ w1 ⟨g2, rfl, hg3, hB4, hb5, hz6⟩
 have hl7 : w.heap.size ≤ g2 := by omega
 refine WL.step (post := NewBlk w1 35 #[.int .i64 t.f, .slice a t.args.length c]) rfl rfl rfl (fun za zC zh zk => box_35 rfl (zh.ev rfl) (zk _ _ (newBlk _ _ _))) ?_
 rintro _ w8 ⟨g9, rfl, hg10, hB11, hb12, hz13⟩
 have hl14 : g2 < g9 := by have z1 := hB4.lt; omega
 have hl15 : w.heap.size ≤ g9 := by have z2 := (hb5).size; omega
 refine WL.asg rfl rfl rfl rfl rfl (WL.nil (WE.next (WC.seq (WC.region ?_))))
 refine WL.step (post := NewBlk w8 73 #[.nilFunc]) rfl rfl rfl (fun za zC zh zk => alloc_73 rfl (zk _ _ (newBlk _ _ _))) ?_
 rintro _ w16 ⟨g17, rfl, hg18, hB19, hb20, hz21⟩
 have hl22 : g2 < g17 := by have z1 := hB4.lt; have z2 := (hb12).size; omega
 have hl23 : g9 < g17 := by have z1 := hB11.lt; omega
 have hb24 : Below w.heap.size w w8 := (bstep hb5 hb12)
 have hl25 : w.heap.size ≤ g17 := by have z2 := (hb24).size; omega
 refine WL.nil (WE.next (WC.seq (WC.region ?_)))
 refine WL.val (.func (Fn.func 55) #[] #[.pointer (some ⟨g17, 0, none⟩), .pointer (some ⟨g2, 0, none⟩)]) rfl rfl rfl (fun za zC zh zk => mkfn rfl (hv0) (hv2 (zh.ev rfl) (zh.ev rfl)) zk) ?_
 refine WL.step (post := fun _ w' => Upd g17 w16 w' ∧ Blk w' g17 73 #[.func (Fn.func 55) #[] #[.pointer (some ⟨g17, 0, none⟩), .pointer (some ⟨g2, 0, none⟩)]]) rfl rfl rfl (fun za zC zh zk => st_73 rfl (zh.ev rfl) (zh.ev rfl) hB19 (by first | decide | simp) (fun v => zk v _ ⟨Upd.at_ _ _ _ _, hB19.set_ 0 _⟩)) ?_
 rintro v29 w26 ⟨hu27, hB28⟩
 have hb30 : Below w.heap.size w w16 := (bstep hb24 hb20)
 have hb31 := upd_below hb30 hu27 (by omega)
 have hb33 : Below w1.heap.size w1 w16 := (bstep hb12 hb20)
 have hB32 := hB4.below hb33
 have hB34 := upd_blk hB32 hu27 (by omega)
 have hB35 := hB11.below hb20
 have hB36 := upd_blk hB35 hu27 (by omega)
 refine WL.nil (WE.next (WC.seq (WC.region ?_)))
 refine WL.val _ rfl rfl rfl (fun za zC zh zk => ld_73 rfl (zh.ev rfl) ((hB28.cell 0).trans rfl) zk) ?_
 refine WL.val _ rfl rfl rfl (fun za zC zh zk => ld_35 rfl (zh.ev rfl) ((hB36.cell 0).trans rfl) ((hB36.cell 1).trans rfl) zk) ?_
 have hbW := (hb31).size
 refine WL.call rfl rfl rfl (fun za zh zC => wp_callv (by kernel_rfl) rfl (zh.ev rfl) (hv1 (zh.ev rfl))) (bwalk_any g sg g17 g2 t N Z A _ _ hsz hNl (BkIs.below hK hb31) hB28 hB34 (fun q => by have z := hZl _ q; omega) (fun q => by have z := hZl _ q; omega) (InT.below hb31 ht) (fun b q => ⟨(hA b q).1, by have z := (hA b q).2; omega⟩)) ?_
 rintro _ w41 ⟨rfl, ⟨Z37, hK38, hZ39⟩, hc40⟩
 have hC42 := Chg.trans (.ofBelow hb31) hc40
 have hbj := hK38
 refine WL.asg rfl rfl rfl rfl rfl (WL.nil (WE.next (WC.ret (WE.ret1 rfl rfl ?_))))
 exact ⟨_, rfl, rfl, ⟨Z37, BkIs.below hK38 (Below.refl _ _), fun b q => by rcases hZ39 b q with z | z; exact .inl z; (right; omega)⟩, hC42⟩
end Go.Proofs.Ytbohlpfndiiimaa

/- Copies of rows: the program. -/
namespace Go.Proofs.Ytbohlpfndiiimaa
open Go.RowKit Go
set_option linter.unusedVariables false
set_option linter.unusedSimpArgs false
theorem isSys_none {w : World} {l : List Sy} (h : IsSys w l none) : l = [] := by
 cases l with
 | nil => rfl
 | cons x r => obtain ⟨b, o, ha, _⟩ := h.open; have := ha 0 (by simp); cases this
set_option maxRecDepth 100000 in
theorem clone_any (l : List Sy) (w : World) (a : Option Addr) (c : Nat) (hc : l.length ≤ c) (hm : c ≤ maxLen) (hz : l.length ≤ 4294967296) (hl : IsSys w l a) : Calls Try.prog 27 #[.slice a l.length c] w (Ret fun v' w' => ∃ ra rc, v' = .slice ra l.length rc ∧ World.ownsRow w' w.heap.size 66 3 (.slice ra l.length rc) l.length (syCells l) ∧ Below w.heap.size w w') := by
 unfold maxLen at hm
 refine Calls.walk (l := [.slice a l.length c]) Try.func27 rfl (by kernel_rfl) ?_
 refine WC.sub (K' := [(0, .slice a l.length c)]) ⟨rfl, trivial⟩ ?_
 refine WC.seq (WC.region (WL.asg rfl rfl rfl rfl rfl (WL.nil (WE.next (WC.seq (WC.seq (WC.region (WL.mv rfl rfl rfl rfl rfl ?_))))))))
 refine WL.val (.bool a.isNone) rfl rfl rfl (fun za zC zh zk => eqlnil_22 rfl (zh.ev rfl) (zh.ev rfl) zk) ?_
 refine WL.nil (WE.next ?_)
 refine WC.cond rfl (fun h1 => ?_) (fun h1 => ?_)
 ·skip
  refine WC.seq (WC.region (WL.asg rfl rfl rfl rfl rfl (WL.nil (WE.next (WC.ret (WE.thenRet (WE.ret1 rfl rfl ?_)))))))
  have e : l = [] := isSys_none (by have z := ‹a.isNone = true›; cases a with | none => exact hl | some x => cases z)
  subst e
  exact ⟨_, rfl, none, 0, rfl, World.ownsRow_nil _ _ _ _, (Below.refl _ _)⟩
 ·skip
  refine WC.skip (WE.next (WC.seq (WC.region ?_)))
  refine WL.step (post := NewRow w 66 #[] 0) rfl rfl rfl (fun za zC zh zk => row_22_0 rfl  (zk _ _ (newRow _ _ _ _))) ?_
  rintro _ w2 ⟨g3, rfl, hg4, hB5, hb6, hz7⟩
  have hl8 : w.heap.size ≤ g3 := by omega
  have hr9 : Own w2 (fun b => w.heap.size ≤ b) 66 3 (some ⟨g3, 0, none⟩) 0 0 [] := own_empty hB5 (by (try dsimp only at *); omega)
  refine WL.mv rfl rfl rfl rfl rfl ?_
  refine WL.step (post := fun v w' => ∃ ra rc, v = .slice ra (0 + l.length) rc ∧ Own w' (fun b => w.heap.size ≤ b) 66 3 ra rc (0 + l.length) ([] ++ (syCells l)) ∧ Chg (fun b => w.heap.size ≤ b) w2 w') rfl rfl rfl (fun za zC zh zk => app_22 (S := (fun b => w.heap.size ≤ b)) (xs := []) (news := (syCells l)) rfl (zh.ev rfl) (zh.ev rfl) hr9 (SrcIs.ofSys (IsSys.below hb6 hl)) (syCells_len _) (syCells_oneCell _) (by omega) (by omega) (by have z1 := hb6.size; (try dsimp only at *); omega) (fun ra rc w' h1 h2 => zk _ _ ⟨ra, rc, rfl, h1, h2⟩)) ?_
  rintro _ w10 ⟨ra11, rc12, rfl, hr13, hc14⟩
  have hb15 := chg_below hb6 hc14 (fun b hb => (by (try dsimp only at *); omega))
  refine WL.asg rfl rfl rfl rfl rfl (WL.nil (WE.next (WC.ret (WE.ret1 rfl rfl ?_))))
  refine ⟨_, rfl, ra11, rc12, by rw [Nat.zero_add], ?_, hb15⟩
  have z := hr13
  rw [Nat.zero_add, List.nil_append] at z
  exact z.to (fun b hb => hb)
/-- A row of numbers in blocks from 'B' on. -/
structure NsAt (w : World) (B : Nat) (l : List Nat) (a : Option Addr) : Prop where
 row : InRow eltN (fun b => B ≤ b) w l a
theorem NsAt.below {w w' : World} {B : Nat} {l : List Nat} {a : Option Addr} (h : NsAt w B l a) (hb : Below w.heap.size w w') : NsAt w' B l a := ⟨h.row.below hb⟩
theorem NsAt.chg {w w' : World} {B : Nat} {l : List Nat} {a : Option Addr} {X : Nat → Prop} (h : NsAt w B l a) (hc : Chg X w w') (hX : ∀ b, B ≤ b → ¬ X b) : NsAt w' B l a := ⟨h.row.keep fun p v hp hv => by
 have hb := World.block_lt_of_cell? _ _ hv
 unfold World.cell? at hv ⊢
 rw [hc.block p.block hb (hX _ hp)]; exact hv⟩
theorem NsAt.upd {w w' : World} {B g : Nat} {l : List Nat} {a : Option Addr} (h : NsAt w B l a) (hu : Upd g w w') (hg : g < B) : NsAt w' B l a := h.chg (X := fun b => b = g) (.ofUpd hu rfl) (fun b q e => by have z : b = g := e; omega)
theorem NsAt.mono {w : World} {B B' : Nat} {l : List Nat} {a : Option Addr} (h : NsAt w B l a) (hb : B' ≤ B) : NsAt w B' l a := ⟨h.row.mono (by decide) (fun b q _ => Nat.le_trans hb q)⟩
end Go.Proofs.Ytbohlpfndiiimaa

/- Put, Get: the program. -/
namespace Go.Proofs.Ytbohlpfndiiimaa
open Go.RowKit Go
set_option linter.unusedVariables false
set_option linter.unusedSimpArgs false
set_option maxRecDepth 100000 in
theorem bPut_any (g : Nat) (sg : List Sy) (t : T) (N : List En) (Y A : Nat → Prop) (w : World) (v : Value) (hsz : t.size ≤ 4294967296) (hNl : N.length ≤ 1000000) (hK : BkS w g sg Y N) (ht : InT A w t v) (hA : ∀ b, A b → ¬ Y b ∧ b < w.heap.size) :
  Calls Try.prog 9 #[.pointer (some ⟨g, 0, none⟩), v] w (Ret fun v' w' => v' = .tuple #[.int .i64 (bputV sg N t), .int .i64 (chkI sg t)] ∧ (∃ Y', BkS w' g sg Y' (bputI sg N t) ∧ ∀ b, Y' b → Y b ∨ w.heap.size ≤ b) ∧ Chg Y w w') := by
 obtain ⟨hf, a, c, rfl, hlc, hcm, hts⟩ := ht.form
 obtain ⟨Z, sa, sc, hBk, hO, hwf, hZY, hYl, hNE⟩ := hK
 obtain ⟨_, hs1, hs2, hs3⟩ := sys_of_own hO.1 hwf
 have hsig : IsSig w sg (.agg #[.slice sa sg.length sc]) := ⟨sa, sc, rfl, hs1, hs2, hs3⟩
 have hB0 := hBk
 obtain ⟨S9, m, la, lc, L, R, hb, hw, hz, hl⟩ := hB0
 have hn := hw.len
 refine Calls.walk (l := [.pointer (some ⟨g, 0, none⟩), .agg #[.int .i64 t.f, .slice a t.args.length c]]) Try.func9 rfl (by kernel_rfl) ?_
 refine WC.sub (K' := [(0, .pointer (some ⟨g, 0, none⟩)), (1, .agg #[.int .i64 t.f, .slice a t.args.length c])]) ⟨rfl, rfl, trivial⟩ ?_
 refine WC.seq (WC.region ?_)
 refine WL.step (post := NewBlk w 35 #[.int .i64 t.f, .slice a t.args.length c]) rfl rfl rfl (fun za zC zh zk => box_35 rfl (zh.ev rfl) (zk _ _ (newBlk _ _ _))) ?_
 rintro _ w1 ⟨g2, rfl, hg3, hB4, hb5, hz6⟩
 have hl7 : w.heap.size ≤ g2 := by omega
 refine WL.asg rfl rfl rfl rfl rfl (WL.asg rfl rfl rfl rfl rfl (WL.nil (WE.next (WC.seq (WC.block (WC.seq (WC.region (WL.mv rfl rfl rfl rfl rfl ?_))))))))
 refine WL.call rfl rfl rfl (fun za zh zC => wp_call (by kernel_rfl) rfl (hv1 (zh.ev rfl))) (bok_any g _ Z N _ (BkIs.below hBk hb5)) ?_
 rintro _ w9 ⟨rfl, hq8⟩
 refine WL.val (.bool false) rfl rfl rfl (fun za zC zh zk => wp_not rfl (zh.ev rfl) zk) ?_
 refine WL.asg rfl rfl rfl rfl rfl (WL.nil (WE.next ?_))
 refine WC.condF rfl rfl ?_
 refine WC.seq ?_
 have hb11 : Below w.heap.size w w9 := (bstep hb5 hq8)
 have hc10 := bkeeps hb11 _ _ hb.c0
 have hB12 := hB4.below hq8
 refine WC.opt [(true, .val (.pointer (some ⟨g, 0, none⟩))), (true, .val (.pointer (some ⟨g, 0, none⟩))), (true, .val (.pointer (some ⟨g, 0, none⟩))), (true, .val (.agg #[.slice sa sg.length sc])), (true, .val (.agg #[.int .i64 t.f, .slice a t.args.length c])), (true, .val (.int .i64 ((chkI sg t)))), (true, .val (.bool ((((chkI sg t) : Int) != (0 : Int))))), (true, .val (.bool ((((chkI sg t) : Int) != (0 : Int)))))] [(0, .pointer (some ⟨g, 0, none⟩)), (1, .agg #[.int .i64 t.f, .slice a t.args.length c]), (3, .pointer (some ⟨g2, 0, none⟩)), (4, .int .i64 0), (5, .int .i64 0), (6, .bool false)] ⟨rfl, rfl, rfl, rfl, rfl, rfl, trivial⟩ (by kernel_rfl) (by kernel_rfl) (by kernel_rfl) ?_ ?_
 ·refine ⟨⟨true, .none rfl, fun h w => optUndef h, fun zβ za zw zc => ?_⟩, ?_⟩
  ·exact wp_move rfl (zc.kn.ev rfl) ⟨_, rfl, Below.refl _ _, optDef zβ rfl⟩
  refine ⟨⟨true, .none rfl, fun h w => optUndef h, fun zβ za zw zc => ?_⟩, ?_⟩
  ·exact nilCheck_ rfl ((evt za 11).trans (optVal (zc.dep 0 11 (by kernel_rfl)) rfl rfl)) ⟨_, rfl, Below.refl _ _, optDef zβ rfl⟩
  refine ⟨⟨true, .none rfl, fun h w => optUndef h, fun zβ za zw zc => ?_⟩, ?_⟩
  ·exact fld_70_0 rfl ((evt za 12).trans (optVal (zc.dep 1 12 (by kernel_rfl)) rfl rfl)) ⟨_, rfl, Below.refl _ _, optDef zβ rfl⟩
  refine ⟨⟨true, .none rfl, fun h w => optUndef h, fun zβ za zw zc => ?_⟩, ?_⟩
  ·exact ld_24 rfl ((evt za 13).trans (optVal (zc.dep 2 13 (by kernel_rfl)) rfl rfl)) (bkeeps zc.below _ _ hc10) ⟨_, rfl, Below.refl _ _, optDef zβ rfl⟩
  refine ⟨⟨true, .none rfl, fun h w => optUndef h, fun zβ za zw zc => ?_⟩, ?_⟩
  ·exact ld_35 rfl (zc.kn.ev rfl) (bkeeps zc.below _ _ ((hB12.cell 0).trans rfl)) (bkeeps zc.below _ _ ((hB12.cell 1).trans rfl)) ⟨_, rfl, Below.refl _ _, optDef zβ rfl⟩
  refine ⟨⟨true, .none rfl, fun h w => optUndef h, fun zβ za zw zc => ?_⟩, ?_⟩
  ·exact wp_call (by kernel_rfl) rfl (hv2 ((evt za 14).trans (optVal (zc.dep 3 14 (by kernel_rfl)) rfl rfl)) ((evt za 15).trans (optVal (zc.dep 4 15 (by kernel_rfl)) rfl rfl))) (tmchk_any sg t _ _ _ hsz (IsSig.below (bstep hb11 zc.below) hsig) (IsT.below (bstep hb11 zc.below) (InT.isT ht))) (fun v w' h => ⟨v, rfl, h.2, optDef zβ h.1⟩)
  refine ⟨⟨true, .none rfl, fun h w => optUndef h, fun zβ za zw zc => ?_⟩, ?_⟩
  ·exact neq_27 rfl ((evt za 16).trans (optVal (zc.dep 5 16 (by kernel_rfl)) rfl rfl)) (zc.kn.ev rfl) ⟨_, rfl, Below.refl _ _, optDef zβ rfl⟩
  refine ⟨⟨true, .none rfl, fun h w => optUndef h, fun zβ za zw zc => ?_⟩, ?_⟩
  ·exact wp_assign rfl ((evt za 17).trans (optVal (zc.dep 6 17 (by kernel_rfl)) rfl rfl)) ⟨_, rfl, Below.refl _ _, optDef zβ rfl⟩
  exact trivial
 ·intro za w13 zh hb14 zu
  have zh := zh.cons (d := 10) (v := .bool ((((chkI sg t) : Int) != (0 : Int)))) (optVal (zu 7 10 (by kernel_rfl)) rfl rfl)
  clear zu
  refine WE.go zh ?_
  refine WE.next ?_
  refine WC.cond rfl (fun h15 => ?_) (fun h15 => ?_)
  ·have h15 : ((chkI sg t) : Int) ≠ (0 : Int) := by simpa using h15
   have hck : ¬ chkI sg t = 0 := by simpa using h15
   refine WC.seq (WC.region (WL.asg rfl rfl rfl rfl rfl (WL.asg rfl rfl rfl rfl rfl (WL.nil (WE.next (WC.ret (WE.blockRet (WE.thenRet (WE.ret2 rfl rfl rfl ?_)))))))))
   have hb16 : Below w.heap.size w w13 := (bstep hb11 hb14)
   refine ⟨_, rfl, by unfold bputV chkI at *; rw [if_neg hck]; (split at hck; exact absurd rfl hck; rename_i q; rw [if_neg q]), ⟨Y, by unfold bputI; rw [if_neg hck]; exact BkS.below ⟨Z, sa, sc, hBk, hO, hwf, hZY, hYl, hNE⟩ hb16, fun b q => .inl q⟩, .ofBelow hb16⟩
  ·have h15 : ¬ (((chkI sg t) : Int) ≠ (0 : Int)) := by simpa using h15
   have hck : chkI sg t = 0 := by simpa using h15
   have hck2 := (chkI_iff sg t).1 hck
   have hle := chkB_le hck2
   refine WC.skip (WE.blockNormal (WE.next (WC.seq (WC.region (WL.mv rfl rfl rfl rfl rfl ?_)))))
   have hB17 := hB12.below hb14
   refine WL.val _ rfl rfl rfl (fun za zC zh zk => ld_35 rfl (zh.ev rfl) ((hB17.cell 0).trans rfl) ((hB17.cell 1).trans rfl) zk) ?_
   have hb18 : Below w.heap.size w w13 := (bstep hb11 hb14)
   have hbW := (hb18).size
   refine WL.call rfl rfl rfl (fun za zh zC => wp_call (by kernel_rfl) rfl (hv2 (zh.ev rfl) (zh.ev rfl))) (bputw_any g _ t N Z A _ _ hsz (by omega) (BkIs.below hBk hb18) (InT.below hb18 ht) (fun b q => ⟨fun k => (hA b q).1 (hZY b k), by have z := (hA b q).2; omega⟩)) ?_
   rintro _ w23 ⟨rfl, ⟨Z19, hK20, hZ21⟩, hc22⟩
   have hC24 := Chg.trans (.ofBelow hb18) hc22
   have hO25 := (Own.below hO hb18).chg hc22 (fun b q => q.1)
   refine WL.asg rfl rfl rfl rfl rfl (WL.asg rfl rfl rfl rfl rfl (WL.nil (WE.next (WC.ret (WE.ret2 rfl rfl rfl ?_)))))
   refine ⟨_, rfl, by unfold bputV; rw [if_pos hck, hck], ⟨fun b => (Z19 b ∨ Y b) ∧ b < w23.heap.size, ?_, fun b q => ?_⟩, hC24.mono hZY⟩
   ·unfold bputI; rw [if_pos hck]
    have hK9 := BkIs.below hK20 (Below.refl _ _)
    refine ⟨Z19, sa, sc, hK9, (Own.below hO25 (Below.refl _ _)).mono (fun b q hlt => ⟨fun k => ?_, .inr q.2, hlt⟩), hwf, fun b q => ⟨.inl q, hK9.lt b q⟩, fun b q => q.2, hNE.put hle (IsT.sy (InT.isT ht))⟩
    rcases hZ21 b k with z | z
    ·exact q.1 z
    ·have z3 := hYl b q.2; omega
   ·rcases q.1 with k | k
    ·rcases hZ21 b k with z | z
     ·exact .inl (hZY b z)
     ·right; omega
    ·exact .inl k
end Go.Proofs.Ytbohlpfndiiimaa

/- A bank is made: the program. -/
namespace Go.Proofs.Ytbohlpfndiiimaa
open Go.RowKit Go
set_option linter.unusedVariables false
set_option linter.unusedSimpArgs false
/-- A new bank. -/
theorem BkS.new {w : World} {g m B : Nat} {sg : List Sy} {sa : Option Addr} {sc : Nat} (hB : Blk w g 70 #[.slice sa sg.length sc, .slice none 0 0, .map (some m)]) (hM : MapK w m []) (hO : Own w (fun b => B ≤ b ∧ b ≠ g ∧ b ≠ m) 66 3 sa sc sg.length (syCells sg)) (hwf : ∀ x ∈ sg, I64 x.ar ∧ x.name.size ≤ maxLen) (hg : B ≤ g) (hm : B ≤ m) (hgm : g ≠ m) :
  BkS w g sg (fun b => B ≤ b ∧ b < w.heap.size) [] := by
 have hK : BK w g (.slice sa sg.length sc) (fun _ => False) m (none, 0, 0) none 0 [] [] (fun _ => (none, 0, 0)) (usersE []) :=
  ⟨hB, hM, RowD.nil, fun i hi => absurd hi (Nat.not_lt_zero _), (fun b q => nomatch q), fun b q => q.elim, fun i hi => absurd hi (Nat.not_lt_zero _), fun i j hi => absurd hi (Nat.not_lt_zero _)⟩
 have hW : BW [] [] (fun _ => (none, 0, 0)) := ⟨rfl, .nil, fun i hi => absurd hi (Nat.not_lt_zero _), fun i hi => absurd hi (Nat.not_lt_zero _), fun i _ => rfl⟩
 refine ⟨fun b => b = g ∨ b = m, sa, sc, ⟨_, m, none, 0, [], _, hK, hW, fun b q => ?_, fun b q => ?_⟩, hO.mono (fun b q hlt => ⟨fun k => by rcases k with k | k; exact q.2.1 k; exact q.2.2 k, q.1, hlt⟩), hwf, fun b q => ?_, fun b q => q.2, .nil⟩
 ·rcases q with q | q | q | q | ⟨i, hi, q⟩
  ·exact .inl q
  ·exact .inr q
  ·exact q.elim
  ·cases q
  ·exact absurd hi (Nat.not_lt_zero _)
 ·rcases q with rfl | rfl
  ·exact hB.lt
  ·exact hM.lt
 ·rcases q with rfl | rfl
  ·exact ⟨hg, hB.lt⟩
  ·exact ⟨hm, hM.lt⟩
set_option maxRecDepth 100000 in
theorem bNew_any (sg : List Sy) (w : World) (v : Value) (hz : sg.length ≤ 4294967296) (hs : IsSig w sg v) : Calls Try.prog 7 #[v] w (Ret fun v' w' => ((sigCheck sg ≠ 0 ∧ v' = .tuple #[.pointer none, .int .i64 2]) ∨ (sigCheck sg = 0 ∧ ∃ g : Nat, v' = .tuple #[.pointer (some ⟨g, 0, none⟩), .int .i64 0] ∧ w.heap.size ≤ g ∧ BkS w' g sg (fun b => w.heap.size ≤ b ∧ b < w'.heap.size) [])) ∧ Below w.heap.size w w') := by
 have hst := hs
 obtain ⟨a, c, rfl, hc, hm, hl⟩ := hs
 unfold maxLen at hm
 refine Calls.walk (l := [.agg #[.slice a sg.length c]]) Try.func7 rfl (by kernel_rfl) ?_
 refine WC.sub (K' := [(0, .agg #[.slice a sg.length c])]) ⟨rfl, trivial⟩ ?_
 refine WC.seq (WC.region ?_)
 refine WL.step (post := NewBlk w 24 #[.slice a sg.length c]) rfl rfl rfl (fun za zC zh zk => box_24 rfl (zh.ev rfl) (zk _ _ (newBlk _ _ _))) ?_
 rintro _ w1 ⟨g2, rfl, hg3, hB4, hb5, hz6⟩
 have hl7 : w.heap.size ≤ g2 := by omega
 refine WL.asg rfl rfl rfl rfl rfl (WL.asg rfl rfl rfl rfl rfl (WL.nil (WE.next (WC.seq (WC.seq (WC.region ?_))))))
 refine WL.val _ rfl rfl rfl (fun za zC zh zk => ld_24 rfl (zh.ev rfl) ((hB4.cell 0).trans rfl) zk) ?_
 refine WL.call rfl rfl rfl (fun za zh zC => wp_call (by kernel_rfl) rfl (hv1 (zh.ev rfl))) (pcheck_any sg _ _ (IsSig.below hb5 hst)) ?_
 rintro _ w9 ⟨rfl, hq8⟩
 refine WL.val (.bool ((((sigCheck sg) : Int) != (0 : Int)))) rfl rfl rfl (fun za zC zh zk => neq_27 rfl (zh.ev rfl) (zh.ev rfl) zk) ?_
 refine WL.nil (WE.next ?_)
 refine WC.cond rfl (fun h10 => ?_) (fun h10 => ?_)
 ·have h10 : ((sigCheck sg) : Int) ≠ (0 : Int) := by simpa using h10
  refine WC.seq (WC.region (WL.asg rfl rfl rfl rfl rfl (WL.asg rfl rfl rfl rfl rfl (WL.nil (WE.next (WC.ret (WE.thenRet (WE.ret2 rfl rfl rfl ?_))))))))
  have hb11 : Below w.heap.size w w9 := (bstep hb5 hq8)
  exact ⟨_, rfl, .inl ⟨by assumption, rfl⟩, hb11⟩
 ·have h10 : ¬ (((sigCheck sg) : Int) ≠ (0 : Int)) := by simpa using h10
  refine WC.skip (WE.next (WC.seq (WC.region ?_)))
  refine WL.val _ rfl rfl rfl (fun za zC zh zk => fld_24_0 rfl (zh.ev rfl) zk) ?_
  have hB12 := hB4.below hq8
  refine WL.val _ rfl rfl rfl (fun za zC zh zk => ld_22 rfl (zh.ev rfl) ((hB12.cell 0).trans rfl) zk) ?_
  have hb17 : Below w.heap.size w w9 := (bstep hb5 hq8)
  refine WL.call rfl rfl rfl (fun za zh zC => wp_call (by kernel_rfl) rfl (hv1 (zh.ev rfl))) (clone_any sg _ _ _ hc hm hz (IsSys.below hb17 hl)) ?_
  rintro _ w18 ⟨ra15, rc16, rfl, hcl13, hb14⟩
  refine WL.val (.agg #[.slice ra15 sg.length rc16]) rfl rfl rfl (fun za zC zh zk => build_24_0 rfl (zh.ev rfl) zk) ?_
  refine WL.step (post := fun v w' => ∃ m, v = .map (some m) ∧ MapK w' m [] ∧ w18.heap.size = m ∧ Below w18.heap.size w18 w' ∧ w'.heap.size = m + 1) rfl rfl rfl (fun za zC zh zk => wp_makeMap_key rfl (fun m w' h1 h2 h3 h4 => zk _ _ ⟨m, rfl, h1, h2, h3, h4⟩)) ?_
  rintro _ w19 ⟨m20, rfl, hM21, hg22, hb23, hz24⟩
  have hl25 : g2 < m20 := by have z1 := hB12.lt; have z2 := (hb14).size; omega
  have hb26 : Below w.heap.size w w18 := (bstep hb17 hb14)
  have hl27 : w.heap.size ≤ m20 := by have z2 := (hb26).size; omega
  refine WL.val (.agg #[.slice ra15 sg.length rc16, .slice none 0 0, .map ((some m20))]) rfl rfl rfl (fun za zC zh zk => build_70_0_2 rfl (zh.ev rfl) (zh.ev rfl) zk) ?_
  refine WL.step (post := NewBlk w19 70 #[.slice ra15 sg.length rc16, .slice none 0 0, .map ((some m20))]) rfl rfl rfl (fun za zC zh zk => box_70 rfl (zh.ev rfl) (zk _ _ (newBlk _ _ _))) ?_
  rintro _ w28 ⟨g29, rfl, hg30, hB31, hb32, hz33⟩
  have hb34 : Below w9.heap.size w9 w19 := (bstep hb14 hb23)
  have hl35 : g2 < g29 := by have z1 := hB12.lt; have z2 := (hb34).size; omega
  have hl36 : m20 < g29 := by have z1 := hM21.lt; omega
  have hb37 : Below w.heap.size w w19 := (bstep hb17 hb34)
  have hl38 : w.heap.size ≤ g29 := by have z2 := (hb37).size; omega
  refine WL.asg rfl rfl rfl rfl rfl (WL.asg rfl rfl rfl rfl rfl (WL.nil (WE.next (WC.ret (WE.ret2 rfl rfl rfl ?_)))))
  have hb39 : Below w.heap.size w w28 := (bstep hb37 hb32)
  have ho40 := hM21.below hb32
  have hb41 : Below w18.heap.size w18 w28 := (bstep hb23 hb32)
  have hO9 := (Own.of hcl13).below hb41
  have hwc9 : w.heap.size ≤ w9.heap.size := hb17.size
  have hO8 := (Own.of hcl13).lt
  have hjs9 : w18.heap.size ≤ m20 := by have z : w18.heap.size ≤ w18.heap.size := (Nat.le_refl _); omega
  have hck9 : sigCheck sg = 0 := by first | assumption | (apply Classical.byContradiction; assumption)
  have hmg9 : m20 < g29 := by first | assumption | omega
  refine ⟨_, rfl, .inr ⟨hck9, g29, rfl, by omega, BkS.new hB31 ho40 ⟨hO9.1, fun b q => ?_⟩ hl.wfs (by omega) (by omega) (by omega)⟩, hb39⟩
  have z := hO8 b q
  (try dsimp only at z)
  exact ⟨by omega, by omega, by omega⟩
end Go.Proofs.Ytbohlpfndiiimaa

/- Of which terms a term is an argument, handed out and gathered: the program. -/
namespace Go.Proofs.Ytbohlpfndiiimaa
open Go.RowKit Go
set_option linter.unusedVariables false
set_option linter.unusedSimpArgs false
/-- What the function that hands out has captured. -/
structure UIt (w : World) (n1 n2 gl : Nat) (l : List Nat) (ra : Option Addr) (rc : Nat) : Prop where
 h5 : n1 ≤ gl ∧ gl < n2
 size : n2 ≤ w.heap.size
 row : Blk w gl 31 #[.slice ra l.length rc]
 ns : InRow eltN (fun b => n1 ≤ b ∧ b < n2) w l ra
theorem UIt.chg {w w' : World} {n1 n2 gl : Nat} {l : List Nat} {ra : Option Addr} {rc : Nat} {S : Nat → Prop} (h : UIt w n1 n2 gl l ra rc) (hc : Chg S w w') (hS : ∀ b, n1 ≤ b → b < n2 → ¬ S b) : UIt w' n1 n2 gl l ra rc :=
 ⟨h.h5, Nat.le_trans h.size hc.size, chg_blk h.row hc (hS _ h.h5.1 h.h5.2), h.ns.keep fun p v hp hv => by
  have hb := World.block_lt_of_cell? _ _ hv
  unfold World.cell? at hv ⊢
  rw [hc.block p.block hb (hS _ hp.1 hp.2)]; exact hv⟩
theorem UIt.below {w w' : World} {n1 n2 gl : Nat} {l : List Nat} {ra : Option Addr} {rc : Nat} (h : UIt w n1 n2 gl l ra rc) (hb : Below w.heap.size w w') : UIt w' n1 n2 gl l ra rc := h.chg (S := fun _ => False) (.ofBelow hb) (fun _ _ _ h => h)
theorem ntake_succ {l : List Nat} {k : Nat} (h : k < l.length) : l.take k ++ [aget l k] = l.take (k + 1) := by rw [List.take_succ_eq_append_getElem h, aget_lt h]
set_option maxRecDepth 100000 in
theorem users_seq {w0 : World} {n1 n2 gl : Nat} {l : List Nat} {ra : Option Addr} {rc : Nat} (S : Nat → Prop) (hS : ∀ b, n1 ≤ b → b < n2 → ¬ S b) (hM : l.length ≤ 4294967296) (h0 : UIt w0 n1 n2 gl l ra rc) :
  SeqStopsK Fence.wide 0 Try.prog 57 #[.pointer (some ⟨gl, 0, none⟩)] (fun x : Nat => (#[.int .i64 (x : Int)] : Array Value)) (Chg S) (fun xs => xs = l) (fun pre => pre <+: l) l.length w0 := by
 refine seq_walk (encs := fun x : Nat => [.int .i64 (x : Int)]) (lb := [.pointer (some ⟨gl, 0, none⟩)]) Try.func57 rfl (by kernel_rfl) ?_
 intro ly J Jx w hw0 hY hJ hJx
 have hI := h0.below hw0
 refine WC.sub (K' := [(0, .func (.yield ly) #[] #[]), (1, .pointer (some ⟨gl, 0, none⟩))]) ⟨rfl, rfl, trivial⟩ ?_
 have hsz := hI.size
 refine WC.seq (WC.region ?_)
 refine WL.val _ rfl rfl rfl (fun za zC zh zk => ld_31 rfl (zh.ev rfl) ((hI).row.cell 0) zk) ?_
 refine WL.val (.int .i64 (((l.length : Nat) : Int))) rfl rfl rfl (fun za zC zh zk => len_31 rfl (zh.ev rfl) zk) ?_
 refine WL.mv rfl rfl rfl rfl rfl (WL.nil (WE.next (WC.block ?_)))
 refine WC.loop (X := Nat) (fun k => l.length - k) (fun k => [(0, .func (.yield ly) #[] #[]), (1, .pointer (some ⟨gl, 0, none⟩)), (5, .slice ra l.length rc), (6, .int .i64 (((l.length : Nat) : Int))), (7, .int .i64 (((k : Nat) : Int)))]) (fun k w1 => k ≤ l.length ∧ UIt w1 n1 n2 gl l ra rc ∧ Had w.heap.size J (l.take k) (w1)) 0 ⟨rfl, rfl, rfl, rfl, rfl, trivial⟩ ?_ ?_
 ·exact ⟨Nat.zero_le _, hI, hJ⟩
 ·rintro k w1 ⟨hk, hIT, hJJ⟩
  refine WC.seq (WC.region ?_)
  refine WL.val (.bool ((decide ((((k : Nat) : Int) : Int) < (((l.length : Nat) : Int) : Int))))) rfl rfl rfl (fun za zC zh zk => lss_3 rfl (zh.ev rfl) (zh.ev rfl) zk) ?_
  refine WL.nil (WE.next (WC.seq ?_))
  refine WC.cond rfl (fun h2 => ?_) (fun h2 => ?_)
  ·have h2 : (((k : Nat) : Int) : Int) < (((l.length : Nat) : Int) : Int) := by simpa using h2
   refine WC.skip (WE.next (WC.seq (WC.block (WC.seq (WC.region ?_)))))
   obtain ⟨b3, o4, ha5, hS6, hc7⟩ := InRow.openNS (hIT).ns
   refine WL.val _ rfl rfl rfl (fun za zC zh zk => ix_31 (k := k) rfl (zh.ev rfl) (ha5 k (by first | omega | (simp; omega))) (zh.ev rfl) (by first | omega | (simp; omega)) zk) ?_
   refine WL.val _ rfl rfl rfl (fun za zC zh zk => ld_3 rfl (zh.ev rfl) (hc7 k (by first | omega | (simp; omega))) zk) ?_
   refine WL.asg rfl rfl rfl rfl rfl (WL.nil (WE.next (WC.seq (WC.region (WL.mv rfl rfl rfl rfl rfl (WL.mv rfl rfl rfl rfl rfl ?_))))))
   refine WL.stepIn (post := fun v w' => (v = .bool true ∧ J (l.take k ++ [aget l k]) w' ∧ Chg S w1 w') ∨ (v = .bool false ∧ Jx (l.take k ++ [aget l k]) w')) rfl rfl rfl (fun za zh => wp_yield rfl (zh.ev rfl) (hv1 (zh.ev rfl)) (hY _ (aget l k) _ hJJ.now (by simp; omega)) (by rintro e w' (⟨rfl, h1, h2⟩ | ⟨rfl, h1⟩) <;> first | exact ⟨_, rfl, _, rfl, .inl ⟨rfl, h1, h2⟩⟩ | exact ⟨_, rfl, _, rfl, .inr ⟨rfl, h1⟩⟩)) ?_
   rintro _ w8 (⟨rfl, hj, hc⟩ | ⟨rfl, hj⟩)
   ·have ho9 := hIT.chg hc hS
    have hJ2 : Had w.heap.size J (l.take k ++ [aget l k]) w8 := ⟨hJ.abide, hj⟩
    refine WL.val (.bool false) rfl rfl rfl (fun za zC zh zk => wp_not rfl (zh.ev rfl) zk) ?_
    refine WL.nil (WE.next ?_)
    refine WC.condF rfl rfl ?_
    refine WC.skip (WE.blockNormal (WE.next (WC.region ?_)))
    refine WL.val (.int .i64 ((((k + 1) : Nat) : Int))) rfl rfl rfl (fun za zC zh zk => addb_3 rfl (zh.ev rfl) (zh.ev rfl) (wrap_eq (by omega) (by omega) (by omega)) zk) ?_
    refine WL.mv rfl rfl rfl rfl rfl (WL.nil ?_)
    refine WE.round (k + 1) ⟨rfl, rfl, rfl, rfl, rfl, trivial⟩ ?_ ?_
    ·exact ⟨by omega, ho9, (by rw [← ntake_succ (by omega)]; exact hJ2)⟩
    ·omega
   ·refine WL.val (.bool true) rfl rfl rfl (fun za zC zh zk => wp_not rfl (zh.ev rfl) zk) ?_
    refine WL.nil (WE.next ?_)
    refine WC.condT rfl rfl ?_
    refine WC.ret (WE.blockRet (WE.thenRet (WE.thenRet (WE.blockRet (WE.ret0 rfl ?_)))))
    refine ⟨⟨_, rfl⟩, .inr ⟨_, ?_, hj⟩⟩
    rw [ntake_succ (by omega)]
    exact List.take_prefix _ _
  ·have h2 : ¬ ((((k : Nat) : Int) : Int) < (((l.length : Nat) : Int) : Int)) := by simpa using h2
   refine WC.exit (WE.thenExit (WE.thenExit (WE.blockIs rfl (WE.end0 rfl ?_))))
   refine ⟨⟨_, rfl⟩, .inl ⟨_, rfl, ?_⟩⟩
   have z := hJJ.now
   rwa [List.take_of_length_le (by omega)] at z
end Go.Proofs.Ytbohlpfndiiimaa

/- What Users hands out, gathered by the law: the program. -/
namespace Go.Proofs.Ytbohlpfndiiimaa
open Go.RowKit Go
set_option linter.unusedVariables false
set_option linter.unusedSimpArgs false
section
variable {w w' : World} {e c n : Nat} {a : Option Addr} {l : List Nat}
theorem RowD.upd {g : Nat} (h : RowD eltN (fun _ => False) w e a c n l) (hu : Upd g w w') (hg : obk a n c ≠ some g) : RowD eltN (fun _ => False) w' e a c n l := h.chg (Z := fun b => b = g) (.ofUpd hu rfl) (fun b q e => hg ((show b = g from e) ▸ q)) (fun b q => q.elim)
end
end Go.Proofs.Ytbohlpfndiiimaa

namespace Go.Proofs.Ytbohlpfndiiimaa
open Go.RowKit Go
set_option linter.unusedVariables false
set_option linter.unusedSimpArgs false
section
variable {w : World} {B g : Nat} {sg : List Sy} {N : List En} {X : Nat → Prop}
theorem BkSJ.is (h : BkSJ w B g sg N X) : ∃ Y, BkS w g sg Y N ∧ ∃ Z sa sc, BkIs w g (.slice sa sg.length sc) Z N := by
  obtain ⟨Y, h1, _⟩ := h
  exact ⟨Y, h1, h1.is⟩
theorem BkSJ.hg (h : BkSJ w B g sg N X) : B ≤ g ∧ g < w.heap.size := by
  obtain ⟨Y, h1, h2, _⟩ := h
  exact ⟨h2 _ h1.hg, h1.lt _ h1.hg⟩
theorem jLen (h : BkSJ w B g sg N X) : Calls Try.prog 14 #[.pointer (some ⟨g, 0, none⟩)] w (Ret fun v' w' => v' = .int .i64 ((N.length : Nat) : Int) ∧ Below w.heap.size w w') := by
  obtain ⟨Y, h1, Z, sa, sc, h2⟩ := h.is
  exact blen_any g _ Z N w h2
theorem jSize (k : Nat) (hk : k < N.length) (h : BkSJ w B g sg N X) : Calls Try.prog 15 #[.pointer (some ⟨g, 0, none⟩), .int .i64 (k : Int)] w (Ret fun v' w' => v' = .int .i64 (((tmE N k).size : Nat) : Int) ∧ Below w.heap.size w w') := by
  obtain ⟨Y, h1, Z, sa, sc, h2⟩ := h.is
  exact bsize_any g _ Z N w k h2 hk
theorem jGround (k : Nat) (hk : k < N.length) (h : BkSJ w B g sg N X) : Calls Try.prog 16 #[.pointer (some ⟨g, 0, none⟩), .int .i64 (k : Int)] w (Ret fun v' w' => v' = .bool (tmE N k).gnd ∧ Below w.heap.size w w') := by
  obtain ⟨Y, h1, Z, sa, sc, h2⟩ := h.is
  exact bground_any g _ Z N w k h2 hk
/-- What Put changes: nothing that is to stay. -/
def PutTo (w w' : World) (B g : Nat) (sg : List Sy) (N' : List En) (X : Nat → Prop) : Prop := ∃ Y, (∀ b, (X b ∨ b < B) → b < w.heap.size → ¬ Y b) ∧ Chg Y w w' ∧ BkSJ w' B g sg N' (fun b => (X b ∨ b < B) ∧ b < w.heap.size)
theorem jPut (t : T) (v : Value) (A : Nat → Prop) (hNl : N.length ≤ 1000000) (hsz : t.size ≤ 4294967296) (hA : ∀ b, A b → (X b ∨ b < B) ∧ b < w.heap.size) (hin : InT A w t v) (h : BkSJ w B g sg N X) : Calls Try.prog 9 #[.pointer (some ⟨g, 0, none⟩), v] w (Ret fun v' w' => v' = .tuple #[.int .i64 (bputV sg N t), .int .i64 (chkI sg t)] ∧ PutTo w w' B g sg (bputI sg N t) X) := by
  obtain ⟨Y, h1, h2, h3⟩ := h
  have hno : ∀ b, (X b ∨ b < B) → ¬ Y b := fun b q k => by
    rcases q with q | q
    · exact h3 b q k
    · have := h2 b k; omega
  refine Calls.mono (bPut_any g sg t N Y A w v hsz hNl h1 hin (fun b q => ⟨hno b (hA b q).1, (hA b q).2⟩)) (fun e w' hr => ?_)
  obtain ⟨v', rfl, hv, ⟨Y', k1, k2⟩, hc⟩ := hr
  obtain ⟨Z, sa, sc, hBk⟩ := h1.is
  have hsize : B ≤ w.heap.size := Nat.le_trans (h2 _ h1.hg) (Nat.le_of_lt (h1.lt _ h1.hg))
  refine ⟨v', rfl, hv, Y, fun b q _ => hno b q, hc, Y', k1, fun b q => ?_, fun b q k => ?_⟩
  · rcases k2 b q with z | z
    · exact h2 b z
    · omega
  · rcases k2 b k with z | z
    · exact hno b q.1 z
    · omega
end
end Go.Proofs.Ytbohlpfndiiimaa
