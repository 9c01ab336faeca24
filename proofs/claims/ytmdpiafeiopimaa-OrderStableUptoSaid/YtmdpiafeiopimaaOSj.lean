/- What becomes of terms, by a substitution. -/
import Derived.Test.YtmdpiafeiopimaaOSi
import Derived.Test.YtmdpiafeiopimaaOSg
import Derived.Test.YtmdpiafeiopimaaOSf
import Derived.Test.YtmdpiafeiopimaaOSh
import Derived.Test.YtmdpiafeiopimaaOSb

/- Sizes of clauses; clauses over a signature; the order that wakes asks. -/
namespace Go.Proofs.Ytmdpiafeiopimaa
open Go.RowKit Go
set_option linter.unusedVariables false
set_option linter.unusedSimpArgs false
theorem rsize_of (t : T) (w : World) (v : Value) (hz : t.size ≤ 4294967296) (h : IsT w t v) : Calls Try.prog 10 #[v] w (Ret fun v' w' => v' = .int .i64 (t.size : Nat) ∧ Below w.heap.size w w') := by
 have z := size_any t w v h
 rw [wrap64_id (by omega)] at z
 exact ret_of z
def clSize (c : List Li) : Nat := (c.map Li.size).sum
theorem clSize_step {c : List Li} {k : Nat} (h : k < c.length) : clSize (c.take (k + 1)) = clSize (c.take k) + (lget c k).size := by
 unfold clSize; rw [List.take_succ_eq_append_getElem h, List.map_append, List.sum_append, lget_lt h]; simp
theorem clSize_le {c : List Li} (hz : ∀ x ∈ c, SmallLi x) : clSize c ≤ c.length * 8589934592 := by
 induction c with
 | nil => simp [clSize]
 | cons x r ih =>
  have h1 := ih (fun y hy => hz y (List.mem_cons_of_mem _ hy))
  have h2 := hz x List.mem_cons_self
  unfold SmallLi at h2
  simp only [clSize, List.map_cons, List.sum_cons, List.length_cons, Li.size] at h1 ⊢
  omega
theorem clSize_take {c : List Li} {k : Nat} : clSize (c.take k) ≤ clSize c := by
 have e := congrArg clSize (List.take_append_drop k c)
 unfold clSize at *
 rw [List.map_append, List.sum_append] at e
 omega
set_option maxRecDepth 100000 in
theorem csize_any (c : List Li) (w : World) (a : Option Addr) (cc : Nat) (hl : IsLs w c a) (hz : ∀ x ∈ c, SmallLi x) (hlen : c.length ≤ 1048576) :
  Calls Try.prog 18 #[.slice a c.length cc] w (Ret fun v' w' => v' = .int .i64 (clSize c : Nat) ∧ Below w.heap.size w w') := by
 have hmx := clSize_le hz
 have hmx2 : c.length * 8589934592 ≤ 9007199254740992 := by omega
 refine Calls.walk (l := [.slice a c.length cc]) Try.func18 rfl (by kernel_rfl) ?_
 refine WC.sub (K' := [(0, .slice a c.length cc)]) ⟨rfl, trivial⟩ ?_
 refine WC.seq (WC.region (WL.asg rfl rfl rfl rfl rfl (WL.nil (WE.next (WC.seq (WC.region (WL.asg rfl rfl rfl rfl rfl (WL.nil (WE.next (WC.seq (WC.seq (WC.region (WL.mv rfl rfl rfl rfl rfl ?_)))))))))))))
 refine WL.val (.int .i64 (((c.length : Nat) : Int))) rfl rfl rfl (fun za zC zh zk => len_37 rfl (zh.ev rfl) zk) ?_
 refine WL.mv rfl rfl rfl rfl rfl (WL.nil (WE.next (WC.block ?_)))
 refine WC.loop (X := Nat) (fun k => c.length - k) (fun k => [(0, .slice a c.length cc), (2, .int .i64 0), (3, .int .i64 ((((clSize (c.take k)) : Nat) : Int))), (6, .int .i64 (((c.length : Nat) : Int))), (7, .int .i64 (((k : Nat) : Int)))]) (fun k w1 => k ≤ c.length ∧ Below w.heap.size w w1) 0 ⟨rfl, rfl, rfl, rfl, rfl, trivial⟩ ?_ ?_
 ·exact ⟨Nat.zero_le _, (Below.refl _ _)⟩
 ·rintro k w1 ⟨hk, hb2⟩
  refine WC.seq (WC.region ?_)
  refine WL.val (.bool ((decide ((((k : Nat) : Int) : Int) < (((c.length : Nat) : Int) : Int))))) rfl rfl rfl (fun za zC zh zk => lss_3 rfl (zh.ev rfl) (zh.ev rfl) zk) ?_
  refine WL.nil (WE.next (WC.seq ?_))
  refine WC.cond rfl (fun h3 => ?_) (fun h3 => ?_)
  ·have h3 : (((k : Nat) : Int) : Int) < (((c.length : Nat) : Int) : Int) := by simpa using h3
   refine WC.skip (WE.next (WC.seq (WC.block (WC.seq (WC.region (WL.mv rfl rfl rfl rfl rfl (WL.asg rfl rfl rfl rfl rfl (WL.nil (WE.next ?_)))))))))
   obtain ⟨b4, o5, A6, C7, A8, C9, ha10, hc11⟩ := InRow.openL hl
   refine WC.seqV (S := ((fun b => b < 0))) [(true, .val (.int .i64 ((((clSize (c.take k)) : Nat) : Int)))), (true, .val (.slice a c.length cc)), (true, .val (.int .i64 (((k : Nat) : Int)))), (true, .val (.pointer (some ⟨b4, o5 + k * 5, none⟩))), (true, .val (.pointer (some ⟨b4, o5 + k * 5 + 1, none⟩))), (true, .val (.agg #[.int .i64 ((lget c k).l.f), .slice ((A6 k)) ((lget c k).l.args.length) ((C7 k))])), (true, .val (.int .i64 (((((lget c k).l).size : Nat) : Int)))), (true, .val (.slice a c.length cc)), (true, .val (.int .i64 (((k : Nat) : Int)))), (true, .val (.pointer (some ⟨b4, o5 + k * 5, none⟩))), (true, .val (.pointer (some ⟨b4, o5 + k * 5 + 3, none⟩))), (true, .val (.agg #[.int .i64 ((lget c k).r.f), .slice ((A8 k)) ((lget c k).r.args.length) ((C9 k))])), (true, .val (.int .i64 (((((lget c k).r).size : Nat) : Int)))), (true, .val (.int .i64 (((((lget c k).l.size + (lget c k).r.size) : Nat) : Int)))), (true, .val (.int .i64 ((((clSize (c.take k) + ((lget c k).l.size + (lget c k).r.size)) : Nat) : Int)))), (true, .val undef)] [(0, .slice a c.length cc), (2, .int .i64 0), (4, .int .i64 (((k : Nat) : Int))), (6, .int .i64 (((c.length : Nat) : Int))), (7, .int .i64 (((k : Nat) : Int))), (8, .bool ((decide ((((k : Nat) : Int) : Int) < (((c.length : Nat) : Int) : Int)))))] [15] [some (true, .int .i64 ((((clSize (c.take k) + ((lget c k).l.size + (lget c k).r.size)) : Nat) : Int)))] (fun _ _ => True) ((fun _ _ _ _ _ => trivial)) (by decide) ⟨rfl, rfl, rfl, rfl, rfl, rfl, trivial⟩ (by kernel_rfl) (by kernel_rfl) (by kernel_rfl) (by kernel_rfl) trivial ?_ ?_
   ·refine ⟨.inl ⟨rfl, true, .none rfl, (fun gg b h => by cases h), fun h w => optUndef h, fun zβ za zw zc => ?_⟩, ?_⟩
    ·exact wp_move rfl ((evt za 3).trans (zc.old 3 _ rfl (by kernel_rfl))) ⟨_, rfl, Below.refl _ _, optDef zβ rfl⟩
    refine ⟨.inl ⟨rfl, true, .none rfl, (fun gg b h => by cases h), fun h w => optUndef h, fun zβ za zw zc => ?_⟩, ?_⟩
    ·exact wp_move rfl (zc.kn.ev rfl) ⟨_, rfl, Below.refl _ _, optDef zβ rfl⟩
    refine ⟨.inl ⟨rfl, true, .none rfl, (fun gg b h => by cases h), fun h w => optUndef h, fun zβ za zw zc => ?_⟩, ?_⟩
    ·exact wp_move rfl (zc.kn.ev rfl) ⟨_, rfl, Below.refl _ _, optDef zβ rfl⟩
    refine ⟨.inl ⟨rfl, true, .none rfl, (fun gg b h => by cases h), fun h w => optUndef h, fun zβ za zw zc => ?_⟩, ?_⟩
    ·exact ix_37 (k := k) rfl ((evt za 11).trans (optSVal (zc.dep 1 11 (by kernel_rfl) (by decide)) rfl rfl)) (ha10 k (by first | omega | (simp; omega))) ((evt za 12).trans (optSVal (zc.dep 2 12 (by kernel_rfl) (by decide)) rfl rfl)) (by first | omega | (simp; omega)) ⟨_, rfl, Below.refl _ _, optDef zβ rfl⟩
    refine ⟨.inl ⟨rfl, true, .none rfl, (fun gg b h => by cases h), fun h w => optUndef h, fun zβ za zw zc => ?_⟩, ?_⟩
    ·exact fld_32_1 rfl ((evt za 13).trans (optSVal (zc.dep 3 13 (by kernel_rfl) (by decide)) rfl rfl)) ⟨_, rfl, Below.refl _ _, optDef zβ rfl⟩
    refine ⟨.inl ⟨rfl, true, .none rfl, (fun gg b h => by cases h), fun h w => optUndef h, fun zβ za zw zc => ?_⟩, ?_⟩
    ·exact ld_30 rfl ((evt za 14).trans (optSVal (zc.dep 4 14 (by kernel_rfl) (by decide)) rfl rfl)) (bkeeps (bstep hb2 (Chg.toBelow zc.chg)) _ _ (hc11 k (by first | omega | (simp; omega))).2.1) (bkeeps (bstep hb2 (Chg.toBelow zc.chg)) _ _ (hc11 k (by first | omega | (simp; omega))).2.2.1) ⟨_, rfl, Below.refl _ _, optDef zβ rfl⟩
    refine ⟨.inl ⟨rfl, true, .none rfl, (fun gg b h => by cases h), fun h w => optUndef h, fun zβ za zw zc => ?_⟩, ?_⟩
    ·exact wp_call (by kernel_rfl) rfl (hv1 ((evt za 15).trans (optSVal (zc.dep 5 15 (by kernel_rfl) (by decide)) rfl rfl))) (rsize_of ((lget c k).l) _ _ (And.left (hz _ (lget_mem (by omega)))) (IsT.below (bstep hb2 (Chg.toBelow zc.chg)) (InT.isT (hc11 k (by first | omega | (simp; omega))).2.2.2.2.2.1))) (fun v w' h => ⟨v, rfl, h.2, optDef zβ h.1⟩)
    refine ⟨.inl ⟨rfl, true, .none rfl, (fun gg b h => by cases h), fun h w => optUndef h, fun zβ za zw zc => ?_⟩, ?_⟩
    ·exact wp_move rfl (zc.kn.ev rfl) ⟨_, rfl, Below.refl _ _, optDef zβ rfl⟩
    refine ⟨.inl ⟨rfl, true, .none rfl, (fun gg b h => by cases h), fun h w => optUndef h, fun zβ za zw zc => ?_⟩, ?_⟩
    ·exact wp_move rfl (zc.kn.ev rfl) ⟨_, rfl, Below.refl _ _, optDef zβ rfl⟩
    refine ⟨.inl ⟨rfl, true, .none rfl, (fun gg b h => by cases h), fun h w => optUndef h, fun zβ za zw zc => ?_⟩, ?_⟩
    ·exact ix_37 (k := k) rfl ((evt za 17).trans (optSVal (zc.dep 7 17 (by kernel_rfl) (by decide)) rfl rfl)) (ha10 k (by first | omega | (simp; omega))) ((evt za 18).trans (optSVal (zc.dep 8 18 (by kernel_rfl) (by decide)) rfl rfl)) (by first | omega | (simp; omega)) ⟨_, rfl, Below.refl _ _, optDef zβ rfl⟩
    refine ⟨.inl ⟨rfl, true, .none rfl, (fun gg b h => by cases h), fun h w => optUndef h, fun zβ za zw zc => ?_⟩, ?_⟩
    ·exact fld_32_2 rfl ((evt za 19).trans (optSVal (zc.dep 9 19 (by kernel_rfl) (by decide)) rfl rfl)) ⟨_, rfl, Below.refl _ _, optDef zβ rfl⟩
    refine ⟨.inl ⟨rfl, true, .none rfl, (fun gg b h => by cases h), fun h w => optUndef h, fun zβ za zw zc => ?_⟩, ?_⟩
    ·exact ld_30 rfl ((evt za 20).trans (optSVal (zc.dep 10 20 (by kernel_rfl) (by decide)) rfl rfl)) (bkeeps (bstep hb2 (Chg.toBelow zc.chg)) _ _ (hc11 k (by first | omega | (simp; omega))).2.2.2.1) (bkeeps (bstep hb2 (Chg.toBelow zc.chg)) _ _ (hc11 k (by first | omega | (simp; omega))).2.2.2.2.1) ⟨_, rfl, Below.refl _ _, optDef zβ rfl⟩
    refine ⟨.inl ⟨rfl, true, .none rfl, (fun gg b h => by cases h), fun h w => optUndef h, fun zβ za zw zc => ?_⟩, ?_⟩
    ·exact wp_call (by kernel_rfl) rfl (hv1 ((evt za 21).trans (optSVal (zc.dep 11 21 (by kernel_rfl) (by decide)) rfl rfl))) (rsize_of ((lget c k).r) _ _ (And.right (hz _ (lget_mem (by omega)))) (IsT.below (bstep hb2 (Chg.toBelow zc.chg)) (InT.isT (hc11 k (by first | omega | (simp; omega))).2.2.2.2.2.2))) (fun v w' h => ⟨v, rfl, h.2, optDef zβ h.1⟩)
    refine ⟨.inl ⟨rfl, true, .none rfl, (fun gg b h => by cases h), fun h w => optUndef h, fun zβ za zw zc => ?_⟩, ?_⟩
    ·exact addb_3 rfl ((evt za 16).trans (optSVal (zc.dep 6 16 (by kernel_rfl) (by decide)) rfl rfl)) ((evt za 22).trans (optSVal (zc.dep 12 22 (by kernel_rfl) (by decide)) rfl rfl)) (wrap_eq (by omega) (by omega) (by have z := hz (lget c k) (lget_mem (by omega)); unfold SmallLi at z; omega)) ⟨_, rfl, Below.refl _ _, optDef zβ rfl⟩
    refine ⟨.inl ⟨rfl, true, .none rfl, (fun gg b h => by cases h), fun h w => optUndef h, fun zβ za zw zc => ?_⟩, ?_⟩
    ·exact addb_3 rfl ((evt za 10).trans (optSVal (zc.dep 0 10 (by kernel_rfl) (by decide)) rfl rfl)) ((evt za 23).trans (optSVal (zc.dep 13 23 (by kernel_rfl) (by decide)) rfl rfl)) (wrap_eq (by omega) (by omega) (by have z := clSize_step (c := c) (show k < c.length by omega); have z2 := clSize_take (c := c) (k := k + 1); simp only [Li.size] at z; omega)) ⟨_, rfl, Below.refl _ _, optDef zβ rfl⟩
    refine ⟨.inr ⟨0, rfl, by kernel_rfl, true, .none rfl, (fun gg b h => by cases h), (fun h => (nomatch h)), fun zβ za zw zvals zc => ?_⟩, ?_⟩
    ·obtain rfl := vlen0 zc.len
     have zn := zc.now
     exact wp_assign rfl (((evt za 24).trans (optSVal (zc.dep 14 24 (by kernel_rfl) (by decide)) rfl rfl))) ⟨_, rfl, .ofBelow (Below.refl _ _), trivial, cvIs rfl⟩
    exact trivial
   ·intro za w14 zvals zh zl hG15 hc16 zu zw zk
    obtain ⟨z0, rfl⟩ := vlen1 zl
    have zh := zh.cons (d := 3) (v := .int .i64 ((((clSize (c.take k) + ((lget c k).l.size + (lget c k).r.size)) : Nat) : Int))) (zk 0 15 3 _ _ rfl (by kernel_rfl) rfl rfl)
    have hb17 := Chg.toBelow hc16
    clear zu zw zk
    refine WE.go zh ?_
    refine WE.blockNormal (WE.next (WC.region ?_))
    refine WL.val (.int .i64 ((((k + 1) : Nat) : Int))) rfl rfl rfl (fun za zC zh zk => addb_3 rfl (zh.ev rfl) (zh.ev rfl) (wrap_eq (by omega) (by omega) (by omega)) zk) ?_
    refine WL.mv rfl rfl rfl rfl rfl (WL.nil ?_)
    rw [show clSize (c.take k) + ((lget c k).l.size + (lget c k).r.size) = clSize (c.take (k + 1)) from (clSize_step (by omega)).symm]
    refine WE.round (k + 1) ⟨rfl, rfl, rfl, rfl, rfl, trivial⟩ ?_ ?_
    ·have hb18 : Below w.heap.size w w14 := (bstep hb2 hb17)
     exact ⟨by omega, hb18⟩
    ·omega
  ·have h3 : ¬ ((((k : Nat) : Int) : Int) < (((c.length : Nat) : Int) : Int)) := by simpa using h3
   refine WC.exit (WE.thenExit (WE.thenExit (WE.blockIs rfl (WE.next (WC.seq (WC.region (WL.mv rfl rfl rfl rfl rfl (WL.asg rfl rfl rfl rfl rfl (WL.nil (WE.next (WC.ret (WE.ret1 rfl rfl ?_))))))))))))
   exact ⟨_, rfl, by rw [List.take_of_length_le (by omega)], hb2⟩
/-- Is a term an atom over a signature? -/
def predB (sg : List Sy) (t : T) : Bool := decide ((0 : Int) ≤ (t.f : Int)) && (sget sg t.f.toNat).pred
/-- May a literal be over a signature, as the law asks? -/
def mayLB (sg : List Sy) (x : Li) : Bool := !(((x.l.check sg : Int) != (0 : Int)) || ((x.r.check sg : Int) != (0 : Int))) && !((predB sg x.l != predB sg x.r) || (predB sg x.l && (((x.l.f : Int) == (0 : Int)) || ((x.r.f : Int) != (0 : Int)))))
def mayB (sg : List Sy) (c : List Li) : Bool := c.all (mayLB sg) && decide (c.length ≤ 16)
theorem mayB_all {sg : List Sy} {c : List Li} (h : mayB sg c = true) : ∀ x ∈ c, x.l.check sg = 0 ∧ x.r.check sg = 0 := fun x hx => by
 simp only [mayB, Bool.and_eq_true, List.all_eq_true] at h
 have z := h.1 x hx
 simp only [mayLB, Bool.and_eq_true, Bool.not_eq_true', Bool.or_eq_false_iff, bne_eq_false_iff_eq] at z
 exact z.1
theorem mayB_not {sg : List Sy} {c : List Li} {k : Nat} (hk : k < c.length) (h : mayLB sg (lget c k) = false) : mayB sg c = false := by
 rw [Bool.eq_false_iff]
 intro e
 simp only [mayB, Bool.and_eq_true, List.all_eq_true] at e
 rw [e.1 _ (lget_mem hk)] at h; cases h
theorem ok_bound {sg : List Sy} {t : T} (h : t.check sg = 0) : t.f < sg.length := by
 have z := (T.check_ok h).1
 obtain ⟨f, l⟩ := t
 rcases T.ok_cases z with ⟨h1, _⟩ | ⟨_, h2, _⟩
 ·show f < _; omega
 ·simpa using h2
set_option maxRecDepth 100000 in
theorem may_any (sg : List Sy) (c : List Li) (w : World) (vs : Value) (a : Option Addr) (cc : Nat) (hs : IsSig w sg vs) (hl : IsLs w c a) (hz : ∀ x ∈ c, SmallLi x) (hlen : c.length ≤ 1048576) :
  Calls Try.prog 17 #[vs, .slice a c.length cc] w (Ret fun v' w' => v' = .bool (mayB sg c) ∧ Below w.heap.size w w') := by
 have hst := hs
 obtain ⟨sa, sc, rfl, hs1, hs2, hs3⟩ := hs
 refine Calls.walk (l := [.agg #[.slice sa sg.length sc], .slice a c.length cc]) Try.func17 rfl (by kernel_rfl) ?_
 refine WC.sub (K' := [(0, .agg #[.slice sa sg.length sc]), (1, .slice a c.length cc)]) ⟨rfl, rfl, trivial⟩ ?_
 refine WC.seq (WC.region ?_)
 refine WL.step (post := NewBlk w 24 #[.slice sa sg.length sc]) rfl rfl rfl (fun za zC zh zk => box_24 rfl (zh.ev rfl) (zk _ _ (newBlk _ _ _))) ?_
 rintro _ w1 ⟨g2, rfl, hg3, hB4, hb5, hz6⟩
 have hl7 : w.heap.size ≤ g2 := by omega
 refine WL.asg rfl rfl rfl rfl rfl (WL.nil (WE.next (WC.seq (WC.seq (WC.region (WL.mv rfl rfl rfl rfl rfl ?_))))))
 refine WL.val (.int .i64 (((c.length : Nat) : Int))) rfl rfl rfl (fun za zC zh zk => len_37 rfl (zh.ev rfl) zk) ?_
 refine WL.mv rfl rfl rfl rfl rfl (WL.nil (WE.next (WC.block ?_)))
 refine WC.loop (X := Nat) (fun k => c.length - k) (fun k => [(0, .agg #[.slice sa sg.length sc]), (1, .slice a c.length cc), (2, .pointer (some ⟨g2, 0, none⟩)), (9, .slice a c.length cc), (10, .int .i64 (((c.length : Nat) : Int))), (11, .int .i64 (((k : Nat) : Int)))]) (fun k w8 => k ≤ c.length ∧ (∀ q, q < k → mayLB sg (lget c q) = true) ∧ Below w.heap.size w w8 ∧ Blk w8 g2 24 #[.slice sa sg.length sc]) 0 ⟨rfl, rfl, rfl, rfl, rfl, rfl, trivial⟩ ?_ ?_
 ·exact ⟨Nat.zero_le _, fun q h => absurd h (Nat.not_lt_zero q), hb5, hB4⟩
 ·rintro k w8 ⟨hk, hall, hb9, hB10⟩
  refine WC.seq (WC.region ?_)
  refine WL.val (.bool ((decide ((((k : Nat) : Int) : Int) < (((c.length : Nat) : Int) : Int))))) rfl rfl rfl (fun za zC zh zk => lss_3 rfl (zh.ev rfl) (zh.ev rfl) zk) ?_
  refine WL.nil (WE.next (WC.seq ?_))
  refine WC.cond rfl (fun h11 => ?_) (fun h11 => ?_)
  ·have h11 : (((k : Nat) : Int) : Int) < (((c.length : Nat) : Int) : Int) := by simpa using h11
   refine WC.skip (WE.next (WC.seq (WC.block (WC.seq (WC.region ?_)))))
   obtain ⟨b12, o13, A14, C15, A16, C17, ha18, hc19⟩ := InRow.openL hl
   refine WL.val _ rfl rfl rfl (fun za zC zh zk => ix_37 (k := k) rfl (zh.ev rfl) (ha18 k (by first | omega | (simp; omega))) (zh.ev rfl) (by first | omega | (simp; omega)) zk) ?_
   refine WL.val _ rfl rfl rfl (fun za zC zh zk => ld_32 rfl (zh.ev rfl) (bkeeps hb9 _ _ (hc19 k (by first | omega | (simp; omega))).1) (bkeeps hb9 _ _ (hc19 k (by first | omega | (simp; omega))).2.1) (bkeeps hb9 _ _ (hc19 k (by first | omega | (simp; omega))).2.2.1) (bkeeps hb9 _ _ (hc19 k (by first | omega | (simp; omega))).2.2.2.1) (bkeeps hb9 _ _ (hc19 k (by first | omega | (simp; omega))).2.2.2.2.1) zk) ?_
   refine WL.step (post := NewBlk w8 32 #[.bool false, .int .i64 0, .slice none 0 0, .int .i64 0, .slice none 0 0]) rfl rfl rfl (fun za zC zh zk => alloc_32 rfl (zk _ _ (newBlk _ _ _))) ?_
   rintro _ w20 ⟨g21, rfl, hg22, hB23, hb24, hz25⟩
   have hl26 : g2 < g21 := by have z1 := hB10.lt; omega
   have hl27 : w.heap.size ≤ g21 := by have z2 := (hb9).size; omega
   refine WL.step (post := fun _ w' => Upd g21 w20 w' ∧ Blk w' g21 32 #[.bool ((lget c k).neg), .int .i64 ((lget c k).l.f), .slice ((A14 k)) ((lget c k).l.args.length) ((C15 k)), .int .i64 ((lget c k).r.f), .slice ((A16 k)) ((lget c k).r.args.length) ((C17 k))]) rfl rfl rfl (fun za zC zh zk => st_32 rfl (zh.ev rfl) (zh.ev rfl) rfl rfl rfl rfl rfl hB23 (by first | decide | simp) (fun v => zk v _ ⟨((((Upd.at_ _ _ _ _).trans (Upd.at_ _ _ _ _)).trans (Upd.at_ _ _ _ _)).trans (Upd.at_ _ _ _ _)).trans (Upd.at_ _ _ _ _), ((((hB23.set_ 0 _).set_ 1 _).set_ 2 _).set_ 3 _).set_ 4 _⟩)) ?_
   rintro v31 w28 ⟨hu29, hB30⟩
   have hb32 : Below w.heap.size w w20 := (bstep hb9 hb24)
   have hb33 := upd_below hb32 hu29 (by omega)
   have hB34 := hB10.below hb24
   have hB35 := upd_blk hB34 hu29 (by omega)
   refine WL.nil (WE.next (WC.seq (WC.seq ?_)))
   refine WC.opt [(true, .val (.agg #[.slice sa sg.length sc])), (true, .val (.pointer (some ⟨g21, 1, none⟩))), (true, .val (.agg #[.int .i64 ((lget c k).l.f), .slice ((A14 k)) ((lget c k).l.args.length) ((C15 k))])), (true, .val (.int .i64 ((((lget c k).l).check sg)))), (true, .val (.bool ((((((lget c k).l).check sg) : Int) != (0 : Int))))), (true, .val (.bool ((((((lget c k).l).check sg) : Int) != (0 : Int))))), ((true && !(((((lget c k).l).check sg) : Int) != (0 : Int))), .val (.agg #[.slice sa sg.length sc])), ((true && !(((((lget c k).l).check sg) : Int) != (0 : Int))), .val (.pointer (some ⟨g21, 3, none⟩))), ((true && !(((((lget c k).l).check sg) : Int) != (0 : Int))), .val (.agg #[.int .i64 ((lget c k).r.f), .slice ((A16 k)) ((lget c k).r.args.length) ((C17 k))])), ((true && !(((((lget c k).l).check sg) : Int) != (0 : Int))), .val (.int .i64 ((((lget c k).r).check sg)))), ((true && !(((((lget c k).l).check sg) : Int) != (0 : Int))), .val (.bool ((((((lget c k).r).check sg) : Int) != (0 : Int))))), (true, .val (.bool (((((((lget c k).l).check sg) : Int) != (0 : Int)) || (((((lget c k).r).check sg) : Int) != (0 : Int))))))] [(0, .agg #[.slice sa sg.length sc]), (1, .slice a c.length cc), (2, .pointer (some ⟨g2, 0, none⟩)), (6, .pointer (some ⟨g21, 0, none⟩)), (9, .slice a c.length cc), (10, .int .i64 (((c.length : Nat) : Int))), (11, .int .i64 (((k : Nat) : Int))), (12, .bool ((decide ((((k : Nat) : Int) : Int) < (((c.length : Nat) : Int) : Int)))))] ⟨rfl, rfl, rfl, rfl, rfl, rfl, rfl, rfl, trivial⟩ (by kernel_rfl) (by kernel_rfl) (by kernel_rfl) ?_ ?_
   ·refine ⟨⟨true, .none rfl, fun h w => optUndef h, fun zβ za zw zc => ?_⟩, ?_⟩
    ·exact ld_24 rfl (zc.kn.ev rfl) (bkeeps zc.below _ _ ((hB35.cell 0).trans rfl)) ⟨_, rfl, Below.refl _ _, optDef zβ rfl⟩
    refine ⟨⟨true, .none rfl, fun h w => optUndef h, fun zβ za zw zc => ?_⟩, ?_⟩
    ·exact fld_32_1 rfl (zc.kn.ev rfl) ⟨_, rfl, Below.refl _ _, optDef zβ rfl⟩
    refine ⟨⟨true, .none rfl, fun h w => optUndef h, fun zβ za zw zc => ?_⟩, ?_⟩
    ·exact ld_30 rfl ((evt za 16).trans (optVal (zc.dep 1 16 (by kernel_rfl)) rfl rfl)) (bkeeps zc.below _ _ ((hB30.cell 1).trans rfl)) (bkeeps zc.below _ _ ((hB30.cell 2).trans rfl)) ⟨_, rfl, Below.refl _ _, optDef zβ rfl⟩
    refine ⟨⟨true, .none rfl, fun h w => optUndef h, fun zβ za zw zc => ?_⟩, ?_⟩
    ·exact wp_call (by kernel_rfl) rfl (hv2 ((evt za 15).trans (optVal (zc.dep 0 15 (by kernel_rfl)) rfl rfl)) ((evt za 17).trans (optVal (zc.dep 2 17 (by kernel_rfl)) rfl rfl))) (ret_of (tcheck_any sg ((lget c k).l) _ _ _ (And.left (hz _ (lget_mem (by omega)))) (IsSig.below (bstep hb33 zc.below) hst) (IsT.below (bstep hb33 zc.below) (InT.isT (hc19 k (by first | omega | (simp; omega))).2.2.2.2.2.1)))) (fun v w' h => ⟨v, rfl, h.2, optDef zβ h.1⟩)
    refine ⟨⟨true, .none rfl, fun h w => optUndef h, fun zβ za zw zc => ?_⟩, ?_⟩
    ·exact neq_39 rfl ((evt za 18).trans (optVal (zc.dep 3 18 (by kernel_rfl)) rfl rfl)) (zc.kn.ev rfl) ⟨_, rfl, Below.refl _ _, optDef zβ rfl⟩
    refine ⟨⟨true, .none rfl, fun h w => optUndef h, fun zβ za zw zc => ?_⟩, ?_⟩
    ·exact wp_move rfl ((evt za 19).trans (optVal (zc.dep 4 19 (by kernel_rfl)) rfl rfl)) ⟨_, rfl, Below.refl _ _, optDef zβ rfl⟩
    refine ⟨⟨_, .no (c := (((((lget c k).l).check sg) : Int) != (0 : Int))) (d := true) rfl (fun v w h => h), fun h w => optUndef h, fun zβ za zw zc => ?_⟩, ?_⟩
    ·exact ld_24 rfl (zc.kn.ev rfl) (bkeeps zc.below _ _ ((hB35.cell 0).trans rfl)) ⟨_, rfl, Below.refl _ _, optDef zβ rfl⟩
    refine ⟨⟨_, .no (c := (((((lget c k).l).check sg) : Int) != (0 : Int))) (d := true) rfl (fun v w h => h), fun h w => optUndef h, fun zβ za zw zc => ?_⟩, ?_⟩
    ·exact fld_32_2 rfl (zc.kn.ev rfl) ⟨_, rfl, Below.refl _ _, optDef zβ rfl⟩
    refine ⟨⟨_, .no (c := (((((lget c k).l).check sg) : Int) != (0 : Int))) (d := true) rfl (fun v w h => h), fun h w => optUndef h, fun zβ za zw zc => ?_⟩, ?_⟩
    ·exact ld_30 rfl ((evt za 22).trans (optVal (zc.dep 7 22 (by kernel_rfl)) rfl zβ)) (bkeeps zc.below _ _ ((hB30.cell 3).trans rfl)) (bkeeps zc.below _ _ ((hB30.cell 4).trans rfl)) ⟨_, rfl, Below.refl _ _, optDef zβ rfl⟩
    refine ⟨⟨_, .no (c := (((((lget c k).l).check sg) : Int) != (0 : Int))) (d := true) rfl (fun v w h => h), fun h w => optUndef h, fun zβ za zw zc => ?_⟩, ?_⟩
    ·exact wp_call (by kernel_rfl) rfl (hv2 ((evt za 21).trans (optVal (zc.dep 6 21 (by kernel_rfl)) rfl zβ)) ((evt za 23).trans (optVal (zc.dep 8 23 (by kernel_rfl)) rfl zβ))) (ret_of (tcheck_any sg ((lget c k).r) _ _ _ (And.right (hz _ (lget_mem (by omega)))) (IsSig.below (bstep hb33 zc.below) hst) (IsT.below (bstep hb33 zc.below) (InT.isT (hc19 k (by first | omega | (have zz := zβ; simp only [Bool.and_eq_true, Bool.or_eq_true, Bool.true_and, Bool.not_eq_true', Bool.or_eq_false_iff, Bool.and_eq_false_iff, beq_eq_false_iff_ne, ne_eq, beq_iff_eq, decide_eq_true_eq, decide_eq_false_iff_not, bne_iff_ne, bne_eq_false_iff_eq] at zz; omega))).2.2.2.2.2.2)))) (fun v w' h => ⟨v, rfl, h.2, optDef zβ h.1⟩)
    refine ⟨⟨_, .no (c := (((((lget c k).l).check sg) : Int) != (0 : Int))) (d := true) rfl (fun v w h => h), fun h w => optUndef h, fun zβ za zw zc => ?_⟩, ?_⟩
    ·exact neq_39 rfl ((evt za 24).trans (optVal (zc.dep 9 24 (by kernel_rfl)) rfl zβ)) (zc.kn.ev rfl) ⟨_, rfl, Below.refl _ _, optDef zβ rfl⟩
    refine ⟨⟨true, .none rfl, fun h w => optUndef h, fun zβ za zw zc => ?_⟩, ?_⟩
    ·exact wp_or rfl ((evt za 20).trans (optVal (zc.dep 5 20 (by kernel_rfl)) rfl rfl)) (fun hp => ((evt za 25).trans (optVal (zc.dep 10 25 (by kernel_rfl)) rfl (bMkN zβ hp)))) ⟨_, rfl, Below.refl _ _, optDef zβ rfl⟩
    exact trivial
   ·intro za w38 zh hb39 zu
    have zh := zh.cons (d := 26) (v := .bool (((((((lget c k).l).check sg) : Int) != (0 : Int)) || (((((lget c k).r).check sg) : Int) != (0 : Int))))) (optVal (zu 11 26 (by kernel_rfl)) rfl rfl)
    clear zu
    refine WE.go zh ?_
    refine WE.next ?_
    refine WC.cond rfl (fun h40 => ?_) (fun h40 => ?_)
    ·have h40 : (((((lget c k).l).check sg) : Int) ≠ (0 : Int)) ∨ (((((lget c k).r).check sg) : Int) ≠ (0 : Int)) := by simpa using h40
     refine WC.seq (WC.region (WL.asg rfl rfl rfl rfl rfl (WL.nil (WE.next (WC.ret (WE.thenRet (WE.blockRet (WE.thenRet (WE.thenRet (WE.blockRet (WE.thenRet (WE.ret1 rfl rfl ?_))))))))))))
     have hb41 : Below w.heap.size w w38 := (bstep hb33 hb39)
     exact ⟨_, rfl, congrArg Value.bool (mayB_not (k := k) (by omega) (by show (!((((((lget c k).l).check sg) : Int) != (0 : Int)) || (((((lget c k).r).check sg) : Int) != (0 : Int))) && _) = false; rw [show ((((((lget c k).l).check sg) : Int) != (0 : Int)) || (((((lget c k).r).check sg) : Int) != (0 : Int))) = true from by simpa using h40]; rfl)).symm, hb41⟩
    ·have h40 : ¬ ((((((lget c k).l).check sg) : Int) ≠ (0 : Int)) ∨ (((((lget c k).r).check sg) : Int) ≠ (0 : Int))) := by simpa using h40
     have hcl : (lget c k).l.check sg = 0 := by omega
     have hcr : (lget c k).r.check sg = 0 := by omega
     have hbl := ok_bound hcl
     have hbr := ok_bound hcr
     refine WC.skip (WE.next (WC.seq ?_))
     have hB42 := hB30.below hb39
     have hB43 := hB35.below hb39
     obtain ⟨b44, o45, ha46, hc47⟩ := IsSys.open hs3
     have hb48 : Below w.heap.size w w38 := (bstep hb33 hb39)
     refine WC.opt [(true, .val (.pointer (some ⟨g21, 1, none⟩))), (true, .val (.pointer (some ⟨g21, 1, none⟩))), (true, .val (.int .i64 ((lget c k).l.f))), (true, .val (.bool ((decide ((0 : Int) ≤ ((lget c k).l.f : Int)))))), (true, .val (.bool ((decide ((0 : Int) ≤ ((lget c k).l.f : Int)))))), ((true && (decide ((0 : Int) ≤ ((lget c k).l.f : Int)))), .val (.pointer (some ⟨g2, 0, none⟩))), ((true && (decide ((0 : Int) ≤ ((lget c k).l.f : Int)))), .val (.slice sa sg.length sc)), ((true && (decide ((0 : Int) ≤ ((lget c k).l.f : Int)))), .val (.pointer (some ⟨g21, 1, none⟩))), ((true && (decide ((0 : Int) ≤ ((lget c k).l.f : Int)))), .val (.pointer (some ⟨g21, 1, none⟩))), ((true && (decide ((0 : Int) ≤ ((lget c k).l.f : Int)))), .val (.int .i64 ((lget c k).l.f))), ((true && (decide ((0 : Int) ≤ ((lget c k).l.f : Int)))), .val (.pointer (some ⟨b44, o45 + (((lget c k).l.f).toNat) * 3, none⟩))), ((true && (decide ((0 : Int) ≤ ((lget c k).l.f : Int)))), .val (.pointer (some ⟨b44, o45 + (((lget c k).l.f).toNat) * 3 + 2, none⟩))), ((true && (decide ((0 : Int) ≤ ((lget c k).l.f : Int)))), .val (.bool ((sget sg (((lget c k).l.f).toNat)).pred))), (true, .val (.bool (((decide ((0 : Int) ≤ ((lget c k).l.f : Int))) && (sget sg (((lget c k).l.f).toNat)).pred)))), (true, .val (.pointer (some ⟨g21, 3, none⟩))), (true, .val (.pointer (some ⟨g21, 3, none⟩))), (true, .val (.int .i64 ((lget c k).r.f))), (true, .val (.bool ((decide ((0 : Int) ≤ ((lget c k).r.f : Int)))))), (true, .val (.bool ((decide ((0 : Int) ≤ ((lget c k).r.f : Int)))))), ((true && (decide ((0 : Int) ≤ ((lget c k).r.f : Int)))), .val (.pointer (some ⟨g2, 0, none⟩))), ((true && (decide ((0 : Int) ≤ ((lget c k).r.f : Int)))), .val (.slice sa sg.length sc)), ((true && (decide ((0 : Int) ≤ ((lget c k).r.f : Int)))), .val (.pointer (some ⟨g21, 3, none⟩))), ((true && (decide ((0 : Int) ≤ ((lget c k).r.f : Int)))), .val (.pointer (some ⟨g21, 3, none⟩))), ((true && (decide ((0 : Int) ≤ ((lget c k).r.f : Int)))), .val (.int .i64 ((lget c k).r.f))), ((true && (decide ((0 : Int) ≤ ((lget c k).r.f : Int)))), .val (.pointer (some ⟨b44, o45 + (((lget c k).r.f).toNat) * 3, none⟩))), ((true && (decide ((0 : Int) ≤ ((lget c k).r.f : Int)))), .val (.pointer (some ⟨b44, o45 + (((lget c k).r.f).toNat) * 3 + 2, none⟩))), ((true && (decide ((0 : Int) ≤ ((lget c k).r.f : Int)))), .val (.bool ((sget sg (((lget c k).r.f).toNat)).pred))), (true, .val (.bool (((decide ((0 : Int) ≤ ((lget c k).r.f : Int))) && (sget sg (((lget c k).r.f).toNat)).pred)))), (true, .val (.bool (((decide ((0 : Int) ≤ ((lget c k).l.f : Int))) && (sget sg (((lget c k).l.f).toNat)).pred)))), (true, .val (.bool (((decide ((0 : Int) ≤ ((lget c k).r.f : Int))) && (sget sg (((lget c k).r.f).toNat)).pred))))] [(0, .agg #[.slice sa sg.length sc]), (1, .slice a c.length cc), (2, .pointer (some ⟨g2, 0, none⟩)), (6, .pointer (some ⟨g21, 0, none⟩)), (9, .slice a c.length cc), (10, .int .i64 (((c.length : Nat) : Int))), (11, .int .i64 (((k : Nat) : Int))), (12, .bool ((decide ((((k : Nat) : Int) : Int) < (((c.length : Nat) : Int) : Int))))), (26, .bool (((((((lget c k).l).check sg) : Int) != (0 : Int)) || (((((lget c k).r).check sg) : Int) != (0 : Int)))))] ⟨rfl, rfl, rfl, rfl, rfl, rfl, rfl, rfl, rfl, trivial⟩ (by kernel_rfl) (by kernel_rfl) (by kernel_rfl) ?_ ?_
     ·refine ⟨⟨true, .none rfl, fun h w => optUndef h, fun zβ za zw zc => ?_⟩, ?_⟩
      ·exact fld_32_1 rfl (zc.kn.ev rfl) ⟨_, rfl, Below.refl _ _, optDef zβ rfl⟩
      refine ⟨⟨true, .none rfl, fun h w => optUndef h, fun zβ za zw zc => ?_⟩, ?_⟩
      ·exact fld_30_0 rfl ((evt za 27).trans (optVal (zc.dep 0 27 (by kernel_rfl)) rfl rfl)) ⟨_, rfl, Below.refl _ _, optDef zβ rfl⟩
      refine ⟨⟨true, .none rfl, fun h w => optUndef h, fun zβ za zw zc => ?_⟩, ?_⟩
      ·exact ld_3 rfl ((evt za 28).trans (optVal (zc.dep 1 28 (by kernel_rfl)) rfl rfl)) (bkeeps zc.below _ _ ((hB42.cell 1).trans rfl)) ⟨_, rfl, Below.refl _ _, optDef zβ rfl⟩
      refine ⟨⟨true, .none rfl, fun h w => optUndef h, fun zβ za zw zc => ?_⟩, ?_⟩
      ·exact geq_3 rfl ((evt za 29).trans (optVal (zc.dep 2 29 (by kernel_rfl)) rfl rfl)) (zc.kn.ev rfl) ⟨_, rfl, Below.refl _ _, optDef zβ rfl⟩
      refine ⟨⟨true, .none rfl, fun h w => optUndef h, fun zβ za zw zc => ?_⟩, ?_⟩
      ·exact wp_move rfl ((evt za 30).trans (optVal (zc.dep 3 30 (by kernel_rfl)) rfl rfl)) ⟨_, rfl, Below.refl _ _, optDef zβ rfl⟩
      refine ⟨⟨_, .yes (c := (decide ((0 : Int) ≤ ((lget c k).l.f : Int)))) (d := true) rfl (fun v w h => h), fun h w => optUndef h, fun zβ za zw zc => ?_⟩, ?_⟩
      ·exact fld_24_0 rfl (zc.kn.ev rfl) ⟨_, rfl, Below.refl _ _, optDef zβ rfl⟩
      refine ⟨⟨_, .yes (c := (decide ((0 : Int) ≤ ((lget c k).l.f : Int)))) (d := true) rfl (fun v w h => h), fun h w => optUndef h, fun zβ za zw zc => ?_⟩, ?_⟩
      ·exact ld_22 rfl ((evt za 32).trans (optVal (zc.dep 5 32 (by kernel_rfl)) rfl zβ)) (bkeeps zc.below _ _ ((hB43.cell 0).trans rfl)) ⟨_, rfl, Below.refl _ _, optDef zβ rfl⟩
      refine ⟨⟨_, .yes (c := (decide ((0 : Int) ≤ ((lget c k).l.f : Int)))) (d := true) rfl (fun v w h => h), fun h w => optUndef h, fun zβ za zw zc => ?_⟩, ?_⟩
      ·exact fld_32_1 rfl (zc.kn.ev rfl) ⟨_, rfl, Below.refl _ _, optDef zβ rfl⟩
      refine ⟨⟨_, .yes (c := (decide ((0 : Int) ≤ ((lget c k).l.f : Int)))) (d := true) rfl (fun v w h => h), fun h w => optUndef h, fun zβ za zw zc => ?_⟩, ?_⟩
      ·exact fld_30_0 rfl ((evt za 34).trans (optVal (zc.dep 7 34 (by kernel_rfl)) rfl zβ)) ⟨_, rfl, Below.refl _ _, optDef zβ rfl⟩
      refine ⟨⟨_, .yes (c := (decide ((0 : Int) ≤ ((lget c k).l.f : Int)))) (d := true) rfl (fun v w h => h), fun h w => optUndef h, fun zβ za zw zc => ?_⟩, ?_⟩
      ·exact ld_3 rfl ((evt za 35).trans (optVal (zc.dep 8 35 (by kernel_rfl)) rfl zβ)) (bkeeps zc.below _ _ ((hB42.cell 1).trans rfl)) ⟨_, rfl, Below.refl _ _, optDef zβ rfl⟩
      refine ⟨⟨_, .yes (c := (decide ((0 : Int) ≤ ((lget c k).l.f : Int)))) (d := true) rfl (fun v w h => h), fun h w => optUndef h, fun zβ za zw zc => ?_⟩, ?_⟩
      ·exact ix_22 (k := ((lget c k).l.f).toNat) rfl ((evt za 33).trans (optVal (zc.dep 6 33 (by kernel_rfl)) rfl zβ)) (ha46 (((lget c k).l.f).toNat) (by first | omega | (have zz := zβ; simp only [Bool.and_eq_true, Bool.or_eq_true, Bool.true_and, Bool.not_eq_true', Bool.or_eq_false_iff, Bool.and_eq_false_iff, beq_eq_false_iff_ne, ne_eq, beq_iff_eq, decide_eq_true_eq, decide_eq_false_iff_not, bne_iff_ne, bne_eq_false_iff_eq] at zz; omega))) (((evt za 36).trans (optVal (zc.dep 9 36 (by kernel_rfl)) rfl zβ)).trans (congrArg (Value.int .i64) (by have zz := zβ; simp only [Bool.true_and, decide_eq_true_eq] at zz; omega))) (by first | omega | (have zz := zβ; simp only [Bool.and_eq_true, Bool.or_eq_true, Bool.true_and, Bool.not_eq_true', Bool.or_eq_false_iff, Bool.and_eq_false_iff, beq_eq_false_iff_ne, ne_eq, beq_iff_eq, decide_eq_true_eq, decide_eq_false_iff_not, bne_iff_ne, bne_eq_false_iff_eq] at zz; omega)) ⟨_, rfl, Below.refl _ _, optDef zβ rfl⟩
      refine ⟨⟨_, .yes (c := (decide ((0 : Int) ≤ ((lget c k).l.f : Int)))) (d := true) rfl (fun v w h => h), fun h w => optUndef h, fun zβ za zw zc => ?_⟩, ?_⟩
      ·exact fld_47_2 rfl ((evt za 37).trans (optVal (zc.dep 10 37 (by kernel_rfl)) rfl zβ)) ⟨_, rfl, Below.refl _ _, optDef zβ rfl⟩
      refine ⟨⟨_, .yes (c := (decide ((0 : Int) ≤ ((lget c k).l.f : Int)))) (d := true) rfl (fun v w h => h), fun h w => optUndef h, fun zβ za zw zc => ?_⟩, ?_⟩
      ·exact ld_4 rfl ((evt za 38).trans (optVal (zc.dep 11 38 (by kernel_rfl)) rfl zβ)) (bkeeps (bstep hb48 zc.below) _ _ (hc47 (((lget c k).l.f).toNat) (by first | omega | (have zz := zβ; simp only [Bool.and_eq_true, Bool.or_eq_true, Bool.true_and, Bool.not_eq_true', Bool.or_eq_false_iff, Bool.and_eq_false_iff, beq_eq_false_iff_ne, ne_eq, beq_iff_eq, decide_eq_true_eq, decide_eq_false_iff_not, bne_iff_ne, bne_eq_false_iff_eq] at zz; omega))).2.2) ⟨_, rfl, Below.refl _ _, optDef zβ rfl⟩
      refine ⟨⟨true, .none rfl, fun h w => optUndef h, fun zβ za zw zc => ?_⟩, ?_⟩
      ·exact wp_and rfl ((evt za 31).trans (optVal (zc.dep 4 31 (by kernel_rfl)) rfl rfl)) (fun hp => ((evt za 39).trans (optVal (zc.dep 12 39 (by kernel_rfl)) rfl (bMk zβ hp)))) ⟨_, rfl, Below.refl _ _, optDef zβ rfl⟩
      refine ⟨⟨true, .none rfl, fun h w => optUndef h, fun zβ za zw zc => ?_⟩, ?_⟩
      ·exact fld_32_2 rfl (zc.kn.ev rfl) ⟨_, rfl, Below.refl _ _, optDef zβ rfl⟩
      refine ⟨⟨true, .none rfl, fun h w => optUndef h, fun zβ za zw zc => ?_⟩, ?_⟩
      ·exact fld_30_0 rfl ((evt za 41).trans (optVal (zc.dep 14 41 (by kernel_rfl)) rfl rfl)) ⟨_, rfl, Below.refl _ _, optDef zβ rfl⟩
      refine ⟨⟨true, .none rfl, fun h w => optUndef h, fun zβ za zw zc => ?_⟩, ?_⟩
      ·exact ld_3 rfl ((evt za 42).trans (optVal (zc.dep 15 42 (by kernel_rfl)) rfl rfl)) (bkeeps zc.below _ _ ((hB42.cell 3).trans rfl)) ⟨_, rfl, Below.refl _ _, optDef zβ rfl⟩
      refine ⟨⟨true, .none rfl, fun h w => optUndef h, fun zβ za zw zc => ?_⟩, ?_⟩
      ·exact geq_3 rfl ((evt za 43).trans (optVal (zc.dep 16 43 (by kernel_rfl)) rfl rfl)) (zc.kn.ev rfl) ⟨_, rfl, Below.refl _ _, optDef zβ rfl⟩
      refine ⟨⟨true, .none rfl, fun h w => optUndef h, fun zβ za zw zc => ?_⟩, ?_⟩
      ·exact wp_move rfl ((evt za 44).trans (optVal (zc.dep 17 44 (by kernel_rfl)) rfl rfl)) ⟨_, rfl, Below.refl _ _, optDef zβ rfl⟩
      refine ⟨⟨_, .yes (c := (decide ((0 : Int) ≤ ((lget c k).r.f : Int)))) (d := true) rfl (fun v w h => h), fun h w => optUndef h, fun zβ za zw zc => ?_⟩, ?_⟩
      ·exact fld_24_0 rfl (zc.kn.ev rfl) ⟨_, rfl, Below.refl _ _, optDef zβ rfl⟩
      refine ⟨⟨_, .yes (c := (decide ((0 : Int) ≤ ((lget c k).r.f : Int)))) (d := true) rfl (fun v w h => h), fun h w => optUndef h, fun zβ za zw zc => ?_⟩, ?_⟩
      ·exact ld_22 rfl ((evt za 46).trans (optVal (zc.dep 19 46 (by kernel_rfl)) rfl zβ)) (bkeeps zc.below _ _ ((hB43.cell 0).trans rfl)) ⟨_, rfl, Below.refl _ _, optDef zβ rfl⟩
      refine ⟨⟨_, .yes (c := (decide ((0 : Int) ≤ ((lget c k).r.f : Int)))) (d := true) rfl (fun v w h => h), fun h w => optUndef h, fun zβ za zw zc => ?_⟩, ?_⟩
      ·exact fld_32_2 rfl (zc.kn.ev rfl) ⟨_, rfl, Below.refl _ _, optDef zβ rfl⟩
      refine ⟨⟨_, .yes (c := (decide ((0 : Int) ≤ ((lget c k).r.f : Int)))) (d := true) rfl (fun v w h => h), fun h w => optUndef h, fun zβ za zw zc => ?_⟩, ?_⟩
      ·exact fld_30_0 rfl ((evt za 48).trans (optVal (zc.dep 21 48 (by kernel_rfl)) rfl zβ)) ⟨_, rfl, Below.refl _ _, optDef zβ rfl⟩
      refine ⟨⟨_, .yes (c := (decide ((0 : Int) ≤ ((lget c k).r.f : Int)))) (d := true) rfl (fun v w h => h), fun h w => optUndef h, fun zβ za zw zc => ?_⟩, ?_⟩
      ·exact ld_3 rfl ((evt za 49).trans (optVal (zc.dep 22 49 (by kernel_rfl)) rfl zβ)) (bkeeps zc.below _ _ ((hB42.cell 3).trans rfl)) ⟨_, rfl, Below.refl _ _, optDef zβ rfl⟩
      refine ⟨⟨_, .yes (c := (decide ((0 : Int) ≤ ((lget c k).r.f : Int)))) (d := true) rfl (fun v w h => h), fun h w => optUndef h, fun zβ za zw zc => ?_⟩, ?_⟩
      ·exact ix_22 (k := ((lget c k).r.f).toNat) rfl ((evt za 47).trans (optVal (zc.dep 20 47 (by kernel_rfl)) rfl zβ)) (ha46 (((lget c k).r.f).toNat) (by first | omega | (have zz := zβ; simp only [Bool.and_eq_true, Bool.or_eq_true, Bool.true_and, Bool.not_eq_true', Bool.or_eq_false_iff, Bool.and_eq_false_iff, beq_eq_false_iff_ne, ne_eq, beq_iff_eq, decide_eq_true_eq, decide_eq_false_iff_not, bne_iff_ne, bne_eq_false_iff_eq] at zz; omega))) (((evt za 50).trans (optVal (zc.dep 23 50 (by kernel_rfl)) rfl zβ)).trans (congrArg (Value.int .i64) (by have zz := zβ; simp only [Bool.true_and, decide_eq_true_eq] at zz; omega))) (by first | omega | (have zz := zβ; simp only [Bool.and_eq_true, Bool.or_eq_true, Bool.true_and, Bool.not_eq_true', Bool.or_eq_false_iff, Bool.and_eq_false_iff, beq_eq_false_iff_ne, ne_eq, beq_iff_eq, decide_eq_true_eq, decide_eq_false_iff_not, bne_iff_ne, bne_eq_false_iff_eq] at zz; omega)) ⟨_, rfl, Below.refl _ _, optDef zβ rfl⟩
      refine ⟨⟨_, .yes (c := (decide ((0 : Int) ≤ ((lget c k).r.f : Int)))) (d := true) rfl (fun v w h => h), fun h w => optUndef h, fun zβ za zw zc => ?_⟩, ?_⟩
      ·exact fld_47_2 rfl ((evt za 51).trans (optVal (zc.dep 24 51 (by kernel_rfl)) rfl zβ)) ⟨_, rfl, Below.refl _ _, optDef zβ rfl⟩
      refine ⟨⟨_, .yes (c := (decide ((0 : Int) ≤ ((lget c k).r.f : Int)))) (d := true) rfl (fun v w h => h), fun h w => optUndef h, fun zβ za zw zc => ?_⟩, ?_⟩
      ·exact ld_4 rfl ((evt za 52).trans (optVal (zc.dep 25 52 (by kernel_rfl)) rfl zβ)) (bkeeps (bstep hb48 zc.below) _ _ (hc47 (((lget c k).r.f).toNat) (by first | omega | (have zz := zβ; simp only [Bool.and_eq_true, Bool.or_eq_true, Bool.true_and, Bool.not_eq_true', Bool.or_eq_false_iff, Bool.and_eq_false_iff, beq_eq_false_iff_ne, ne_eq, beq_iff_eq, decide_eq_true_eq, decide_eq_false_iff_not, bne_iff_ne, bne_eq_false_iff_eq] at zz; omega))).2.2) ⟨_, rfl, Below.refl _ _, optDef zβ rfl⟩
      refine ⟨⟨true, .none rfl, fun h w => optUndef h, fun zβ za zw zc => ?_⟩, ?_⟩
      ·exact wp_and rfl ((evt za 45).trans (optVal (zc.dep 18 45 (by kernel_rfl)) rfl rfl)) (fun hp => ((evt za 53).trans (optVal (zc.dep 26 53 (by kernel_rfl)) rfl (bMk zβ hp)))) ⟨_, rfl, Below.refl _ _, optDef zβ rfl⟩
      refine ⟨⟨true, .none rfl, fun h w => optUndef h, fun zβ za zw zc => ?_⟩, ?_⟩
      ·exact wp_assign rfl ((evt za 40).trans (optVal (zc.dep 13 40 (by kernel_rfl)) rfl rfl)) ⟨_, rfl, Below.refl _ _, optDef zβ rfl⟩
      refine ⟨⟨true, .none rfl, fun h w => optUndef h, fun zβ za zw zc => ?_⟩, ?_⟩
      ·exact wp_assign rfl ((evt za 54).trans (optVal (zc.dep 27 54 (by kernel_rfl)) rfl rfl)) ⟨_, rfl, Below.refl _ _, optDef zβ rfl⟩
      exact trivial
     ·intro za w49 zh hb50 zu
      have zh := zh.cons (d := 7) (v := .bool (((decide ((0 : Int) ≤ ((lget c k).l.f : Int))) && (sget sg (((lget c k).l.f).toNat)).pred))) (optVal (zu 28 7 (by kernel_rfl)) rfl rfl)
      have zh := zh.cons (d := 8) (v := .bool (((decide ((0 : Int) ≤ ((lget c k).r.f : Int))) && (sget sg (((lget c k).r.f).toNat)).pred))) (optVal (zu 29 8 (by kernel_rfl)) rfl rfl)
      clear zu
      refine WE.go zh ?_
      refine WE.next (WC.seq ?_)
      have hB51 := hB42.below hb50
      refine WC.opt [(true, .val (.bool (((decide ((0 : Int) ≤ ((lget c k).l.f : Int))) && (sget sg (((lget c k).l.f).toNat)).pred)))), (true, .val (.bool (((decide ((0 : Int) ≤ ((lget c k).r.f : Int))) && (sget sg (((lget c k).r.f).toNat)).pred)))), (true, .val (.bool ((((decide ((0 : Int) ≤ ((lget c k).l.f : Int))) && (sget sg (((lget c k).l.f).toNat)).pred) != ((decide ((0 : Int) ≤ ((lget c k).r.f : Int))) && (sget sg (((lget c k).r.f).toNat)).pred))))), (true, .val (.bool ((((decide ((0 : Int) ≤ ((lget c k).l.f : Int))) && (sget sg (((lget c k).l.f).toNat)).pred) != ((decide ((0 : Int) ≤ ((lget c k).r.f : Int))) && (sget sg (((lget c k).r.f).toNat)).pred))))), ((true && !(((decide ((0 : Int) ≤ ((lget c k).l.f : Int))) && (sget sg (((lget c k).l.f).toNat)).pred) != ((decide ((0 : Int) ≤ ((lget c k).r.f : Int))) && (sget sg (((lget c k).r.f).toNat)).pred))), .val (.bool (((decide ((0 : Int) ≤ ((lget c k).l.f : Int))) && (sget sg (((lget c k).l.f).toNat)).pred)))), ((true && !(((decide ((0 : Int) ≤ ((lget c k).l.f : Int))) && (sget sg (((lget c k).l.f).toNat)).pred) != ((decide ((0 : Int) ≤ ((lget c k).r.f : Int))) && (sget sg (((lget c k).r.f).toNat)).pred))), .val (.bool (((decide ((0 : Int) ≤ ((lget c k).l.f : Int))) && (sget sg (((lget c k).l.f).toNat)).pred)))), (((true && !(((decide ((0 : Int) ≤ ((lget c k).l.f : Int))) && (sget sg (((lget c k).l.f).toNat)).pred) != ((decide ((0 : Int) ≤ ((lget c k).r.f : Int))) && (sget sg (((lget c k).r.f).toNat)).pred))) && ((decide ((0 : Int) ≤ ((lget c k).l.f : Int))) && (sget sg (((lget c k).l.f).toNat)).pred)), .val (.pointer (some ⟨g21, 1, none⟩))), (((true && !(((decide ((0 : Int) ≤ ((lget c k).l.f : Int))) && (sget sg (((lget c k).l.f).toNat)).pred) != ((decide ((0 : Int) ≤ ((lget c k).r.f : Int))) && (sget sg (((lget c k).r.f).toNat)).pred))) && ((decide ((0 : Int) ≤ ((lget c k).l.f : Int))) && (sget sg (((lget c k).l.f).toNat)).pred)), .val (.pointer (some ⟨g21, 1, none⟩))), (((true && !(((decide ((0 : Int) ≤ ((lget c k).l.f : Int))) && (sget sg (((lget c k).l.f).toNat)).pred) != ((decide ((0 : Int) ≤ ((lget c k).r.f : Int))) && (sget sg (((lget c k).r.f).toNat)).pred))) && ((decide ((0 : Int) ≤ ((lget c k).l.f : Int))) && (sget sg (((lget c k).l.f).toNat)).pred)), .val (.int .i64 ((lget c k).l.f))), (((true && !(((decide ((0 : Int) ≤ ((lget c k).l.f : Int))) && (sget sg (((lget c k).l.f).toNat)).pred) != ((decide ((0 : Int) ≤ ((lget c k).r.f : Int))) && (sget sg (((lget c k).r.f).toNat)).pred))) && ((decide ((0 : Int) ≤ ((lget c k).l.f : Int))) && (sget sg (((lget c k).l.f).toNat)).pred)), .val (.bool ((((lget c k).l.f : Int) == (0 : Int))))), (((true && !(((decide ((0 : Int) ≤ ((lget c k).l.f : Int))) && (sget sg (((lget c k).l.f).toNat)).pred) != ((decide ((0 : Int) ≤ ((lget c k).r.f : Int))) && (sget sg (((lget c k).r.f).toNat)).pred))) && ((decide ((0 : Int) ≤ ((lget c k).l.f : Int))) && (sget sg (((lget c k).l.f).toNat)).pred)), .val (.bool ((((lget c k).l.f : Int) == (0 : Int))))), ((((true && !(((decide ((0 : Int) ≤ ((lget c k).l.f : Int))) && (sget sg (((lget c k).l.f).toNat)).pred) != ((decide ((0 : Int) ≤ ((lget c k).r.f : Int))) && (sget sg (((lget c k).r.f).toNat)).pred))) && ((decide ((0 : Int) ≤ ((lget c k).l.f : Int))) && (sget sg (((lget c k).l.f).toNat)).pred)) && !(((lget c k).l.f : Int) == (0 : Int))), .val (.pointer (some ⟨g21, 3, none⟩))), ((((true && !(((decide ((0 : Int) ≤ ((lget c k).l.f : Int))) && (sget sg (((lget c k).l.f).toNat)).pred) != ((decide ((0 : Int) ≤ ((lget c k).r.f : Int))) && (sget sg (((lget c k).r.f).toNat)).pred))) && ((decide ((0 : Int) ≤ ((lget c k).l.f : Int))) && (sget sg (((lget c k).l.f).toNat)).pred)) && !(((lget c k).l.f : Int) == (0 : Int))), .val (.pointer (some ⟨g21, 3, none⟩))), ((((true && !(((decide ((0 : Int) ≤ ((lget c k).l.f : Int))) && (sget sg (((lget c k).l.f).toNat)).pred) != ((decide ((0 : Int) ≤ ((lget c k).r.f : Int))) && (sget sg (((lget c k).r.f).toNat)).pred))) && ((decide ((0 : Int) ≤ ((lget c k).l.f : Int))) && (sget sg (((lget c k).l.f).toNat)).pred)) && !(((lget c k).l.f : Int) == (0 : Int))), .val (.int .i64 ((lget c k).r.f))), ((((true && !(((decide ((0 : Int) ≤ ((lget c k).l.f : Int))) && (sget sg (((lget c k).l.f).toNat)).pred) != ((decide ((0 : Int) ≤ ((lget c k).r.f : Int))) && (sget sg (((lget c k).r.f).toNat)).pred))) && ((decide ((0 : Int) ≤ ((lget c k).l.f : Int))) && (sget sg (((lget c k).l.f).toNat)).pred)) && !(((lget c k).l.f : Int) == (0 : Int))), .val (.bool ((((lget c k).r.f : Int) != (0 : Int))))), (((true && !(((decide ((0 : Int) ≤ ((lget c k).l.f : Int))) && (sget sg (((lget c k).l.f).toNat)).pred) != ((decide ((0 : Int) ≤ ((lget c k).r.f : Int))) && (sget sg (((lget c k).r.f).toNat)).pred))) && ((decide ((0 : Int) ≤ ((lget c k).l.f : Int))) && (sget sg (((lget c k).l.f).toNat)).pred)), .val (.bool (((((lget c k).l.f : Int) == (0 : Int)) || (((lget c k).r.f : Int) != (0 : Int)))))), ((true && !(((decide ((0 : Int) ≤ ((lget c k).l.f : Int))) && (sget sg (((lget c k).l.f).toNat)).pred) != ((decide ((0 : Int) ≤ ((lget c k).r.f : Int))) && (sget sg (((lget c k).r.f).toNat)).pred))), .val (.bool ((((decide ((0 : Int) ≤ ((lget c k).l.f : Int))) && (sget sg (((lget c k).l.f).toNat)).pred) && ((((lget c k).l.f : Int) == (0 : Int)) || (((lget c k).r.f : Int) != (0 : Int))))))), (true, .val (.bool (((((decide ((0 : Int) ≤ ((lget c k).l.f : Int))) && (sget sg (((lget c k).l.f).toNat)).pred) != ((decide ((0 : Int) ≤ ((lget c k).r.f : Int))) && (sget sg (((lget c k).r.f).toNat)).pred)) || (((decide ((0 : Int) ≤ ((lget c k).l.f : Int))) && (sget sg (((lget c k).l.f).toNat)).pred) && ((((lget c k).l.f : Int) == (0 : Int)) || (((lget c k).r.f : Int) != (0 : Int))))))))] [(0, .agg #[.slice sa sg.length sc]), (1, .slice a c.length cc), (2, .pointer (some ⟨g2, 0, none⟩)), (6, .pointer (some ⟨g21, 0, none⟩)), (7, .bool (((decide ((0 : Int) ≤ ((lget c k).l.f : Int))) && (sget sg (((lget c k).l.f).toNat)).pred))), (8, .bool (((decide ((0 : Int) ≤ ((lget c k).r.f : Int))) && (sget sg (((lget c k).r.f).toNat)).pred))), (9, .slice a c.length cc), (10, .int .i64 (((c.length : Nat) : Int))), (11, .int .i64 (((k : Nat) : Int))), (12, .bool ((decide ((((k : Nat) : Int) : Int) < (((c.length : Nat) : Int) : Int))))), (26, .bool (((((((lget c k).l).check sg) : Int) != (0 : Int)) || (((((lget c k).r).check sg) : Int) != (0 : Int)))))] ⟨rfl, rfl, rfl, rfl, rfl, rfl, rfl, rfl, rfl, rfl, rfl, trivial⟩ (by kernel_rfl) (by kernel_rfl) (by kernel_rfl) ?_ ?_
      ·refine ⟨⟨true, .none rfl, fun h w => optUndef h, fun zβ za zw zc => ?_⟩, ?_⟩
       ·exact wp_move rfl (zc.kn.ev rfl) ⟨_, rfl, Below.refl _ _, optDef zβ rfl⟩
       refine ⟨⟨true, .none rfl, fun h w => optUndef h, fun zβ za zw zc => ?_⟩, ?_⟩
       ·exact wp_move rfl (zc.kn.ev rfl) ⟨_, rfl, Below.refl _ _, optDef zβ rfl⟩
       refine ⟨⟨true, .none rfl, fun h w => optUndef h, fun zβ za zw zc => ?_⟩, ?_⟩
       ·exact neq_4 rfl ((evt za 55).trans (optVal (zc.dep 0 55 (by kernel_rfl)) rfl rfl)) ((evt za 56).trans (optVal (zc.dep 1 56 (by kernel_rfl)) rfl rfl)) ⟨_, rfl, Below.refl _ _, optDef zβ rfl⟩
       refine ⟨⟨true, .none rfl, fun h w => optUndef h, fun zβ za zw zc => ?_⟩, ?_⟩
       ·exact wp_move rfl ((evt za 57).trans (optVal (zc.dep 2 57 (by kernel_rfl)) rfl rfl)) ⟨_, rfl, Below.refl _ _, optDef zβ rfl⟩
       refine ⟨⟨_, .no (c := (((decide ((0 : Int) ≤ ((lget c k).l.f : Int))) && (sget sg (((lget c k).l.f).toNat)).pred) != ((decide ((0 : Int) ≤ ((lget c k).r.f : Int))) && (sget sg (((lget c k).r.f).toNat)).pred))) (d := true) rfl (fun v w h => h), fun h w => optUndef h, fun zβ za zw zc => ?_⟩, ?_⟩
       ·exact wp_move rfl (zc.kn.ev rfl) ⟨_, rfl, Below.refl _ _, optDef zβ rfl⟩
       refine ⟨⟨_, .no (c := (((decide ((0 : Int) ≤ ((lget c k).l.f : Int))) && (sget sg (((lget c k).l.f).toNat)).pred) != ((decide ((0 : Int) ≤ ((lget c k).r.f : Int))) && (sget sg (((lget c k).r.f).toNat)).pred))) (d := true) rfl (fun v w h => h), fun h w => optUndef h, fun zβ za zw zc => ?_⟩, ?_⟩
       ·exact wp_move rfl ((evt za 59).trans (optVal (zc.dep 4 59 (by kernel_rfl)) rfl zβ)) ⟨_, rfl, Below.refl _ _, optDef zβ rfl⟩
       refine ⟨⟨_, .yes (c := ((decide ((0 : Int) ≤ ((lget c k).l.f : Int))) && (sget sg (((lget c k).l.f).toNat)).pred)) (d := (true && !(((decide ((0 : Int) ≤ ((lget c k).l.f : Int))) && (sget sg (((lget c k).l.f).toNat)).pred) != ((decide ((0 : Int) ≤ ((lget c k).r.f : Int))) && (sget sg (((lget c k).r.f).toNat)).pred)))) rfl (fun v w h => h), fun h w => optUndef h, fun zβ za zw zc => ?_⟩, ?_⟩
       ·exact fld_32_1 rfl (zc.kn.ev rfl) ⟨_, rfl, Below.refl _ _, optDef zβ rfl⟩
       refine ⟨⟨_, .yes (c := ((decide ((0 : Int) ≤ ((lget c k).l.f : Int))) && (sget sg (((lget c k).l.f).toNat)).pred)) (d := (true && !(((decide ((0 : Int) ≤ ((lget c k).l.f : Int))) && (sget sg (((lget c k).l.f).toNat)).pred) != ((decide ((0 : Int) ≤ ((lget c k).r.f : Int))) && (sget sg (((lget c k).r.f).toNat)).pred)))) rfl (fun v w h => h), fun h w => optUndef h, fun zβ za zw zc => ?_⟩, ?_⟩
       ·exact fld_30_0 rfl ((evt za 61).trans (optVal (zc.dep 6 61 (by kernel_rfl)) rfl zβ)) ⟨_, rfl, Below.refl _ _, optDef zβ rfl⟩
       refine ⟨⟨_, .yes (c := ((decide ((0 : Int) ≤ ((lget c k).l.f : Int))) && (sget sg (((lget c k).l.f).toNat)).pred)) (d := (true && !(((decide ((0 : Int) ≤ ((lget c k).l.f : Int))) && (sget sg (((lget c k).l.f).toNat)).pred) != ((decide ((0 : Int) ≤ ((lget c k).r.f : Int))) && (sget sg (((lget c k).r.f).toNat)).pred)))) rfl (fun v w h => h), fun h w => optUndef h, fun zβ za zw zc => ?_⟩, ?_⟩
       ·exact ld_3 rfl ((evt za 62).trans (optVal (zc.dep 7 62 (by kernel_rfl)) rfl zβ)) (bkeeps zc.below _ _ ((hB51.cell 1).trans rfl)) ⟨_, rfl, Below.refl _ _, optDef zβ rfl⟩
       refine ⟨⟨_, .yes (c := ((decide ((0 : Int) ≤ ((lget c k).l.f : Int))) && (sget sg (((lget c k).l.f).toNat)).pred)) (d := (true && !(((decide ((0 : Int) ≤ ((lget c k).l.f : Int))) && (sget sg (((lget c k).l.f).toNat)).pred) != ((decide ((0 : Int) ≤ ((lget c k).r.f : Int))) && (sget sg (((lget c k).r.f).toNat)).pred)))) rfl (fun v w h => h), fun h w => optUndef h, fun zβ za zw zc => ?_⟩, ?_⟩
       ·exact eql_3 rfl ((evt za 63).trans (optVal (zc.dep 8 63 (by kernel_rfl)) rfl zβ)) (zc.kn.ev rfl) ⟨_, rfl, Below.refl _ _, optDef zβ rfl⟩
       refine ⟨⟨_, .yes (c := ((decide ((0 : Int) ≤ ((lget c k).l.f : Int))) && (sget sg (((lget c k).l.f).toNat)).pred)) (d := (true && !(((decide ((0 : Int) ≤ ((lget c k).l.f : Int))) && (sget sg (((lget c k).l.f).toNat)).pred) != ((decide ((0 : Int) ≤ ((lget c k).r.f : Int))) && (sget sg (((lget c k).r.f).toNat)).pred)))) rfl (fun v w h => h), fun h w => optUndef h, fun zβ za zw zc => ?_⟩, ?_⟩
       ·exact wp_move rfl ((evt za 64).trans (optVal (zc.dep 9 64 (by kernel_rfl)) rfl zβ)) ⟨_, rfl, Below.refl _ _, optDef zβ rfl⟩
       refine ⟨⟨_, .no (c := (((lget c k).l.f : Int) == (0 : Int))) (d := ((true && !(((decide ((0 : Int) ≤ ((lget c k).l.f : Int))) && (sget sg (((lget c k).l.f).toNat)).pred) != ((decide ((0 : Int) ≤ ((lget c k).r.f : Int))) && (sget sg (((lget c k).r.f).toNat)).pred))) && ((decide ((0 : Int) ≤ ((lget c k).l.f : Int))) && (sget sg (((lget c k).l.f).toNat)).pred))) rfl (fun v w h => h), fun h w => optUndef h, fun zβ za zw zc => ?_⟩, ?_⟩
       ·exact fld_32_2 rfl (zc.kn.ev rfl) ⟨_, rfl, Below.refl _ _, optDef zβ rfl⟩
       refine ⟨⟨_, .no (c := (((lget c k).l.f : Int) == (0 : Int))) (d := ((true && !(((decide ((0 : Int) ≤ ((lget c k).l.f : Int))) && (sget sg (((lget c k).l.f).toNat)).pred) != ((decide ((0 : Int) ≤ ((lget c k).r.f : Int))) && (sget sg (((lget c k).r.f).toNat)).pred))) && ((decide ((0 : Int) ≤ ((lget c k).l.f : Int))) && (sget sg (((lget c k).l.f).toNat)).pred))) rfl (fun v w h => h), fun h w => optUndef h, fun zβ za zw zc => ?_⟩, ?_⟩
       ·exact fld_30_0 rfl ((evt za 66).trans (optVal (zc.dep 11 66 (by kernel_rfl)) rfl zβ)) ⟨_, rfl, Below.refl _ _, optDef zβ rfl⟩
       refine ⟨⟨_, .no (c := (((lget c k).l.f : Int) == (0 : Int))) (d := ((true && !(((decide ((0 : Int) ≤ ((lget c k).l.f : Int))) && (sget sg (((lget c k).l.f).toNat)).pred) != ((decide ((0 : Int) ≤ ((lget c k).r.f : Int))) && (sget sg (((lget c k).r.f).toNat)).pred))) && ((decide ((0 : Int) ≤ ((lget c k).l.f : Int))) && (sget sg (((lget c k).l.f).toNat)).pred))) rfl (fun v w h => h), fun h w => optUndef h, fun zβ za zw zc => ?_⟩, ?_⟩
       ·exact ld_3 rfl ((evt za 67).trans (optVal (zc.dep 12 67 (by kernel_rfl)) rfl zβ)) (bkeeps zc.below _ _ ((hB51.cell 3).trans rfl)) ⟨_, rfl, Below.refl _ _, optDef zβ rfl⟩
       refine ⟨⟨_, .no (c := (((lget c k).l.f : Int) == (0 : Int))) (d := ((true && !(((decide ((0 : Int) ≤ ((lget c k).l.f : Int))) && (sget sg (((lget c k).l.f).toNat)).pred) != ((decide ((0 : Int) ≤ ((lget c k).r.f : Int))) && (sget sg (((lget c k).r.f).toNat)).pred))) && ((decide ((0 : Int) ≤ ((lget c k).l.f : Int))) && (sget sg (((lget c k).l.f).toNat)).pred))) rfl (fun v w h => h), fun h w => optUndef h, fun zβ za zw zc => ?_⟩, ?_⟩
       ·exact neq_3 rfl ((evt za 68).trans (optVal (zc.dep 13 68 (by kernel_rfl)) rfl zβ)) (zc.kn.ev rfl) ⟨_, rfl, Below.refl _ _, optDef zβ rfl⟩
       refine ⟨⟨_, .yes (c := ((decide ((0 : Int) ≤ ((lget c k).l.f : Int))) && (sget sg (((lget c k).l.f).toNat)).pred)) (d := (true && !(((decide ((0 : Int) ≤ ((lget c k).l.f : Int))) && (sget sg (((lget c k).l.f).toNat)).pred) != ((decide ((0 : Int) ≤ ((lget c k).r.f : Int))) && (sget sg (((lget c k).r.f).toNat)).pred)))) rfl (fun v w h => h), fun h w => optUndef h, fun zβ za zw zc => ?_⟩, ?_⟩
       ·exact wp_or rfl ((evt za 65).trans (optVal (zc.dep 10 65 (by kernel_rfl)) rfl zβ)) (fun hp => ((evt za 69).trans (optVal (zc.dep 14 69 (by kernel_rfl)) rfl (bMkN zβ hp)))) ⟨_, rfl, Below.refl _ _, optDef zβ rfl⟩
       refine ⟨⟨_, .no (c := (((decide ((0 : Int) ≤ ((lget c k).l.f : Int))) && (sget sg (((lget c k).l.f).toNat)).pred) != ((decide ((0 : Int) ≤ ((lget c k).r.f : Int))) && (sget sg (((lget c k).r.f).toNat)).pred))) (d := true) rfl (fun v w h => h), fun h w => optUndef h, fun zβ za zw zc => ?_⟩, ?_⟩
       ·exact wp_and rfl ((evt za 60).trans (optVal (zc.dep 5 60 (by kernel_rfl)) rfl zβ)) (fun hp => ((evt za 70).trans (optVal (zc.dep 15 70 (by kernel_rfl)) rfl (bMk zβ hp)))) ⟨_, rfl, Below.refl _ _, optDef zβ rfl⟩
       refine ⟨⟨true, .none rfl, fun h w => optUndef h, fun zβ za zw zc => ?_⟩, ?_⟩
       ·exact wp_or rfl ((evt za 58).trans (optVal (zc.dep 3 58 (by kernel_rfl)) rfl rfl)) (fun hp => ((evt za 71).trans (optVal (zc.dep 16 71 (by kernel_rfl)) rfl (bMkN zβ hp)))) ⟨_, rfl, Below.refl _ _, optDef zβ rfl⟩
       exact trivial
      ·intro za w52 zh hb53 zu
       have zh := zh.cons (d := 72) (v := .bool (((((decide ((0 : Int) ≤ ((lget c k).l.f : Int))) && (sget sg (((lget c k).l.f).toNat)).pred) != ((decide ((0 : Int) ≤ ((lget c k).r.f : Int))) && (sget sg (((lget c k).r.f).toNat)).pred)) || (((decide ((0 : Int) ≤ ((lget c k).l.f : Int))) && (sget sg (((lget c k).l.f).toNat)).pred) && ((((lget c k).l.f : Int) == (0 : Int)) || (((lget c k).r.f : Int) != (0 : Int))))))) (optVal (zu 17 72 (by kernel_rfl)) rfl rfl)
       clear zu
       refine WE.go zh ?_
       refine WE.next ?_
       refine WC.cond rfl (fun h54 => ?_) (fun h54 => ?_)
       ·have h54 : (((decide ((0 : Int) ≤ ((lget c k).l.f : Int))) && (sget sg (((lget c k).l.f).toNat)).pred) ≠ ((decide ((0 : Int) ≤ ((lget c k).r.f : Int))) && (sget sg (((lget c k).r.f).toNat)).pred)) ∨ ((((0 : Int) ≤ ((lget c k).l.f : Int)) ∧ ((sget sg (((lget c k).l.f).toNat)).pred = true)) ∧ ((((lget c k).l.f : Int) = (0 : Int)) ∨ (((lget c k).r.f : Int) ≠ (0 : Int)))) := by simpa using h54
        refine WC.seq (WC.region (WL.asg rfl rfl rfl rfl rfl (WL.nil (WE.next (WC.ret (WE.blockRet (WE.thenRet (WE.thenRet (WE.blockRet (WE.thenRet (WE.ret1 rfl rfl ?_)))))))))))
        have hb55 : Below w.heap.size w w52 := (bstep (bstep hb48 hb50) hb53)
        exact ⟨_, rfl, congrArg Value.bool (mayB_not (k := k) (by omega) (by show (_ && !((((decide ((0 : Int) ≤ ((lget c k).l.f : Int))) && (sget sg (((lget c k).l.f).toNat)).pred) != ((decide ((0 : Int) ≤ ((lget c k).r.f : Int))) && (sget sg (((lget c k).r.f).toNat)).pred)) || (((decide ((0 : Int) ≤ ((lget c k).l.f : Int))) && (sget sg (((lget c k).l.f).toNat)).pred) && ((((lget c k).l.f : Int) == (0 : Int)) || (((lget c k).r.f : Int) != (0 : Int)))))) = false; rw [show ((((decide ((0 : Int) ≤ ((lget c k).l.f : Int))) && (sget sg (((lget c k).l.f).toNat)).pred) != ((decide ((0 : Int) ≤ ((lget c k).r.f : Int))) && (sget sg (((lget c k).r.f).toNat)).pred)) || (((decide ((0 : Int) ≤ ((lget c k).l.f : Int))) && (sget sg (((lget c k).l.f).toNat)).pred) && ((((lget c k).l.f : Int) == (0 : Int)) || (((lget c k).r.f : Int) != (0 : Int))))) = true from by simpa using h54]; simp)).symm, hb55⟩
       ·have h54 : ¬ ((((decide ((0 : Int) ≤ ((lget c k).l.f : Int))) && (sget sg (((lget c k).l.f).toNat)).pred) ≠ ((decide ((0 : Int) ≤ ((lget c k).r.f : Int))) && (sget sg (((lget c k).r.f).toNat)).pred)) ∨ ((((0 : Int) ≤ ((lget c k).l.f : Int)) ∧ ((sget sg (((lget c k).l.f).toNat)).pred = true)) ∧ ((((lget c k).l.f : Int) = (0 : Int)) ∨ (((lget c k).r.f : Int) ≠ (0 : Int))))) := by simpa using h54
        refine WC.skip (WE.blockNormal (WE.next (WC.region ?_)))
        refine WL.val (.int .i64 ((((k + 1) : Nat) : Int))) rfl rfl rfl (fun za zC zh zk => addb_3 rfl (zh.ev rfl) (zh.ev rfl) (wrap_eq (by omega) (by omega) (by omega)) zk) ?_
        refine WL.mv rfl rfl rfl rfl rfl ?_
        refine WL.nil (WE.sub (K' := [(0, .agg #[.slice sa sg.length sc]), (1, .slice a c.length cc), (2, .pointer (some ⟨g2, 0, none⟩)), (6, .pointer (some ⟨g21, 0, none⟩)), (7, .bool (((decide ((0 : Int) ≤ ((lget c k).l.f : Int))) && (sget sg (((lget c k).l.f).toNat)).pred))), (8, .bool (((decide ((0 : Int) ≤ ((lget c k).r.f : Int))) && (sget sg (((lget c k).r.f).toNat)).pred))), (9, .slice a c.length cc), (10, .int .i64 (((c.length : Nat) : Int))), (11, .int .i64 ((((k + 1) : Nat) : Int))), (12, .bool ((decide ((((k : Nat) : Int) : Int) < (((c.length : Nat) : Int) : Int))))), (26, .bool (((((((lget c k).l).check sg) : Int) != (0 : Int)) || (((((lget c k).r).check sg) : Int) != (0 : Int))))), (72, .bool (((((decide ((0 : Int) ≤ ((lget c k).l.f : Int))) && (sget sg (((lget c k).l.f).toNat)).pred) != ((decide ((0 : Int) ≤ ((lget c k).r.f : Int))) && (sget sg (((lget c k).r.f).toNat)).pred)) || (((decide ((0 : Int) ≤ ((lget c k).l.f : Int))) && (sget sg (((lget c k).l.f).toNat)).pred) && ((((lget c k).l.f : Int) == (0 : Int)) || (((lget c k).r.f : Int) != (0 : Int)))))))]) ⟨rfl, rfl, rfl, rfl, rfl, rfl, rfl, rfl, rfl, rfl, rfl, rfl, trivial⟩ ?_)
        refine WE.round (k + 1) ⟨rfl, rfl, rfl, rfl, rfl, rfl, trivial⟩ ?_ ?_
        ·have hb56 : Below w.heap.size w w52 := (bstep (bstep hb48 hb50) hb53)
         have hb58 : Below w38.heap.size w38 w52 := (bstep hb50 hb53)
         have hB57 := hB43.below hb58
         exact ⟨by omega, fun q hq => by
           by_cases e : q = k
           ·subst e; show (!((((((lget c q).l).check sg) : Int) != (0 : Int)) || (((((lget c q).r).check sg) : Int) != (0 : Int))) && !((((decide ((0 : Int) ≤ ((lget c q).l.f : Int))) && (sget sg (((lget c q).l.f).toNat)).pred) != ((decide ((0 : Int) ≤ ((lget c q).r.f : Int))) && (sget sg (((lget c q).r.f).toNat)).pred)) || (((decide ((0 : Int) ≤ ((lget c q).l.f : Int))) && (sget sg (((lget c q).l.f).toNat)).pred) && ((((lget c q).l.f : Int) == (0 : Int)) || (((lget c q).r.f : Int) != (0 : Int)))))) = true; rw [Bool.eq_false_iff.2 (show ¬ ((((((lget c q).l).check sg) : Int) != (0 : Int)) || (((((lget c q).r).check sg) : Int) != (0 : Int))) = true from fun e => h40 (by simpa using e)), Bool.eq_false_iff.2 (show ¬ ((((decide ((0 : Int) ≤ ((lget c q).l.f : Int))) && (sget sg (((lget c q).l.f).toNat)).pred) != ((decide ((0 : Int) ≤ ((lget c q).r.f : Int))) && (sget sg (((lget c q).r.f).toNat)).pred)) || (((decide ((0 : Int) ≤ ((lget c q).l.f : Int))) && (sget sg (((lget c q).l.f).toNat)).pred) && ((((lget c q).l.f : Int) == (0 : Int)) || (((lget c q).r.f : Int) != (0 : Int))))) = true from fun e => h54 (by simpa using e))]; rfl
           ·exact hall q (by omega), hb56, hB57⟩
        ·omega
  ·have h11 : ¬ ((((k : Nat) : Int) : Int) < (((c.length : Nat) : Int) : Int)) := by simpa using h11
   refine WC.exit (WE.thenExit (WE.thenExit (WE.blockIs rfl (WE.next (WC.seq (WC.region (WL.mv rfl rfl rfl rfl rfl ?_)))))))
   refine WL.val (.int .i64 (((c.length : Nat) : Int))) rfl rfl rfl (fun za zC zh zk => len_37 rfl (zh.ev rfl) zk) ?_
   refine WL.val (.bool ((decide ((((c.length : Nat) : Int) : Int) ≤ (16 : Int))))) rfl rfl rfl (fun za zC zh zk => leq_3 rfl (zh.ev rfl) (zh.ev rfl) zk) ?_
   refine WL.asg rfl rfl rfl rfl rfl (WL.nil (WE.next (WC.ret (WE.ret1 rfl rfl ?_))))
   exact ⟨_, rfl, congrArg Value.bool (by unfold mayB; rw [show c.all (mayLB sg) = true from List.all_eq_true.2 (fun x hx => by obtain ⟨q, hq, rfl⟩ := List.getElem_of_mem hx; have z := hall q (by omega); rwa [lget_lt hq] at z), Bool.true_and]; exact decide_eq_decide.2 ⟨fun h => by omega, fun h => by omega⟩), hb9⟩
end Go.Proofs.Ytmdpiafeiopimaa

/- Orders and clauses over a signature; what the document says of a few literals. -/
namespace Go.Proofs.Ytmdpiafeiopimaa
open Go.RowKit Go
set_option linter.unusedVariables false
set_option linter.unusedSimpArgs false
def cget (l : List (List Li)) (k : Nat) : List Li := l.getD k []
theorem cget_lt {l : List (List Li)} {k : Nat} (h : k < l.length) : cget l k = l[k] := by simp [cget, h]
theorem cget_mem {l : List (List Li)} {k : Nat} (h : k < l.length) : cget l k ∈ l := by rw [cget_lt h]; exact List.getElem_mem h
/-- A row of clauses. -/
def IsCs (w : World) (l : List (List Li)) (a : Option Addr) : Prop := ∃ (b o : Nat) (A : Nat → Option Addr) (C : Nat → Nat), (∀ k, k < l.length → a = some ⟨b, o, none⟩) ∧ ∀ k, k < l.length → w.cell? ⟨b, o + k, none⟩ = some (.slice (A k) (cget l k).length (C k)) ∧ IsLs w (cget l k) (A k)
theorem isCs_2 {w : World} {g e : Nat} {x y : List Li} {a a2 : Option Addr} {c c2 : Nat} (hB : Blk w g e #[.slice a x.length c, .slice a2 y.length c2]) (h : IsLs w x a) (h2 : IsLs w y a2) : IsCs w [x, y] (some ⟨g, 0, none⟩) :=
 ⟨g, 0, fun k => if k = 0 then a else a2, fun k => if k = 0 then c else c2, fun _ _ => rfl, fun k hk => by
  match k, hk with
  | 0, _ => exact ⟨(hB.cell 0).trans rfl, h⟩
  | 1, _ => exact ⟨(hB.cell 1).trans rfl, h2⟩⟩
/-- A clause that may be asked of. -/
def SmallC (c : List Li) : Prop := c.length ≤ 1048576 ∧ ∀ x ∈ c, SmallLi x
/-- What may be over a signature. -/
structure FitC (sg : List Sy) (o : Od) (l : List (List Li)) : Prop where
 od : OrdOk sg o
 may : ∀ c ∈ l, ∀ x ∈ c, x.l.check sg = 0 ∧ x.r.check sg = 0
 size : ∀ c ∈ l, clSize c ≤ 120
set_option maxRecDepth 100000 in
theorem fits_any (sg : List Sy) (o : Od) (l : List (List Li)) (w : World) (vs vo : Value) (a : Option Addr) (cc : Nat) (hs : IsSig w sg vs) (ho : IsOd w o vo) (hl : IsCs w l a) (hz : ∀ c ∈ l, SmallC c) (hlen : l.length ≤ 1048576) :
  Calls Try.prog 6 #[vs, vo, .slice a l.length cc] w (Ret fun v' w' => (∃ b, v' = .bool b ∧ (b = true → FitC sg o l)) ∧ Below w.heap.size w w') := by
 have hst := hs
 have hot := ho
 obtain ⟨p1, p2, k1, k2, rfl, _⟩ := ho
 obtain ⟨sa, sc, rfl, hs1, hs2, hs3⟩ := hs
 refine Calls.walk (l := [.agg #[.slice sa sg.length sc], .agg #[.bool o.lpo, .slice p1 o.prec.length k1, .slice p2 o.weights.length k2, .int .i64 o.var], .slice a l.length cc]) Try.func6 rfl (by kernel_rfl) ?_
 refine WC.sub (K' := [(0, .agg #[.slice sa sg.length sc]), (1, .agg #[.bool o.lpo, .slice p1 o.prec.length k1, .slice p2 o.weights.length k2, .int .i64 o.var]), (2, .slice a l.length cc)]) ⟨rfl, rfl, rfl, trivial⟩ ?_
 refine WC.seq (WC.region ?_)
 refine WL.step (post := NewBlk w 24 #[.slice sa sg.length sc]) rfl rfl rfl (fun za zC zh zk => box_24 rfl (zh.ev rfl) (zk _ _ (newBlk _ _ _))) ?_
 rintro _ w1 ⟨g2, rfl, hg3, hB4, hb5, hz6⟩
 have hl7 : w.heap.size ≤ g2 := by omega
 refine WL.step (post := NewBlk w1 27 #[.bool o.lpo, .slice p1 o.prec.length k1, .slice p2 o.weights.length k2, .int .i64 o.var]) rfl rfl rfl (fun za zC zh zk => box_27 rfl (zh.ev rfl) (zk _ _ (newBlk _ _ _))) ?_
 rintro _ w8 ⟨g9, rfl, hg10, hB11, hb12, hz13⟩
 have hl14 : g2 < g9 := by have z1 := hB4.lt; omega
 have hl15 : w.heap.size ≤ g9 := by have z2 := (hb5).size; omega
 refine WL.asg rfl rfl rfl rfl rfl (WL.nil (WE.next (WC.seq (WC.seq (WC.region ?_)))))
 have hB16 := hB4.below hb12
 refine WL.val _ rfl rfl rfl (fun za zC zh zk => ld_24 rfl (zh.ev rfl) ((hB16.cell 0).trans rfl) zk) ?_
 refine WL.val _ rfl rfl rfl (fun za zC zh zk => ld_27 rfl (zh.ev rfl) ((hB11.cell 0).trans rfl) ((hB11.cell 1).trans rfl) ((hB11.cell 2).trans rfl) ((hB11.cell 3).trans rfl) zk) ?_
 have hb17 : Below w.heap.size w w8 := (bstep hb5 hb12)
 refine WL.call rfl rfl rfl (fun za zh zC => wp_call (by kernel_rfl) rfl (hv2 (zh.ev rfl) (zh.ev rfl))) (ordCheck_any sg o _ _ _ (hst.below hb17) (hot.below hb17)) ?_
 rintro _ w18 ⟨⟨nn, rfl, hnn⟩, hbn⟩
 refine WL.val (.bool (((nn : Int) != (0 : Int)))) rfl rfl rfl (fun za zC zh zk => neq_39 rfl (zh.ev rfl) (zh.ev rfl) zk) ?_
 refine WL.nil (WE.next ?_)
 refine WC.cond rfl (fun h19 => ?_) (fun h19 => ?_)
 ·have h19 : (nn : Int) ≠ (0 : Int) := by simpa using h19
  refine WC.seq (WC.region (WL.asg rfl rfl rfl rfl rfl (WL.nil (WE.next (WC.ret (WE.thenRet (WE.ret1 rfl rfl ?_)))))))
  have hb20 : Below w.heap.size w w18 := (bstep hb17 hbn)
  exact ⟨_, rfl, ⟨false, rfl, fun h => (nomatch h)⟩, hb20⟩
 ·have h19 : ¬ ((nn : Int) ≠ (0 : Int)) := by simpa using h19
  refine WC.skip (WE.next (WC.seq (WC.seq (WC.region (WL.mv rfl rfl rfl rfl rfl ?_)))))
  refine WL.val (.int .i64 (((l.length : Nat) : Int))) rfl rfl rfl (fun za zC zh zk => len_38 rfl (zh.ev rfl) zk) ?_
  refine WL.mv rfl rfl rfl rfl rfl (WL.nil (WE.next (WC.block ?_)))
  refine WC.loop (X := Nat) (fun k => l.length - k) (fun k => [(0, .agg #[.slice sa sg.length sc]), (1, .agg #[.bool o.lpo, .slice p1 o.prec.length k1, .slice p2 o.weights.length k2, .int .i64 o.var]), (2, .slice a l.length cc), (3, .pointer (some ⟨g2, 0, none⟩)), (4, .pointer (some ⟨g9, 0, none⟩)), (11, .bool (((nn : Int) != (0 : Int)))), (13, .int .i64 (((l.length : Nat) : Int))), (14, .int .i64 (((k : Nat) : Int)))]) (fun k w21 => k ≤ l.length ∧ (∀ q, q < k → mayB sg (cget l q) = true ∧ clSize (cget l q) ≤ 120) ∧ Below w.heap.size w w21 ∧ Blk w21 g2 24 #[.slice sa sg.length sc] ∧ Blk w21 g9 27 #[.bool o.lpo, .slice p1 o.prec.length k1, .slice p2 o.weights.length k2, .int .i64 o.var]) 0 ⟨rfl, rfl, rfl, rfl, rfl, rfl, rfl, rfl, trivial⟩ ?_ ?_
  ·have hb22 : Below w.heap.size w w18 := (bstep hb17 hbn)
   have hB23 := hB16.below hbn
   have hB24 := hB11.below hbn
   exact ⟨Nat.zero_le _, fun q h => absurd h (Nat.not_lt_zero q), hb22, hB23, hB24⟩
  ·rintro k w21 ⟨hk, hall, hb25, hB26, hB27⟩
   refine WC.seq (WC.region ?_)
   refine WL.val (.bool ((decide ((((k : Nat) : Int) : Int) < (((l.length : Nat) : Int) : Int))))) rfl rfl rfl (fun za zC zh zk => lss_3 rfl (zh.ev rfl) (zh.ev rfl) zk) ?_
   refine WL.nil (WE.next (WC.seq ?_))
   refine WC.cond rfl (fun h28 => ?_) (fun h28 => ?_)
   ·have h28 : (((k : Nat) : Int) : Int) < (((l.length : Nat) : Int) : Int) := by simpa using h28
    refine WC.skip (WE.next (WC.seq (WC.block (WC.seq (WC.region (WL.mv rfl rfl rfl rfl rfl (WL.asg rfl rfl rfl rfl rfl (WL.nil (WE.next (WC.seq ?_))))))))))
    obtain ⟨b29, o30, A31, C32, ha33, hc34⟩ := hl
    refine WC.opt [(true, .val (.agg #[.slice sa sg.length sc])), (true, .val (.slice a l.length cc)), (true, .val (.int .i64 (((k : Nat) : Int)))), (true, .val (.pointer (some ⟨b29, o30 + k, none⟩))), (true, .val (.slice ((A31 k)) ((cget l k).length) ((C32 k)))), (true, .val (.bool ((mayB sg (cget l k))))), (true, .val (.bool ((!(mayB sg (cget l k)))))), (true, .val (.bool ((!(mayB sg (cget l k)))))), ((true && !(!(mayB sg (cget l k)))), .val (.slice a l.length cc)), ((true && !(!(mayB sg (cget l k)))), .val (.int .i64 (((k : Nat) : Int)))), ((true && !(!(mayB sg (cget l k)))), .val (.pointer (some ⟨b29, o30 + k, none⟩))), ((true && !(!(mayB sg (cget l k)))), .val (.slice ((A31 k)) ((cget l k).length) ((C32 k)))), ((true && !(!(mayB sg (cget l k)))), .val (.int .i64 ((((clSize (cget l k)) : Nat) : Int)))), ((true && !(!(mayB sg (cget l k)))), .val (.bool ((decide ((120 : Int) < ((((clSize (cget l k)) : Nat) : Int) : Int)))))), (true, .val (.bool (((!(mayB sg (cget l k))) || (decide ((120 : Int) < ((((clSize (cget l k)) : Nat) : Int) : Int)))))))] [(0, .agg #[.slice sa sg.length sc]), (1, .agg #[.bool o.lpo, .slice p1 o.prec.length k1, .slice p2 o.weights.length k2, .int .i64 o.var]), (2, .slice a l.length cc), (3, .pointer (some ⟨g2, 0, none⟩)), (4, .pointer (some ⟨g9, 0, none⟩)), (7, .int .i64 (((k : Nat) : Int))), (11, .bool (((nn : Int) != (0 : Int)))), (13, .int .i64 (((l.length : Nat) : Int))), (14, .int .i64 (((k : Nat) : Int))), (15, .bool ((decide ((((k : Nat) : Int) : Int) < (((l.length : Nat) : Int) : Int)))))] ⟨rfl, rfl, rfl, rfl, rfl, rfl, rfl, rfl, rfl, rfl, trivial⟩ (by kernel_rfl) (by kernel_rfl) (by kernel_rfl) ?_ ?_
    ·refine ⟨⟨true, .none rfl, fun h w => optUndef h, fun zβ za zw zc => ?_⟩, ?_⟩
     ·exact ld_24 rfl (zc.kn.ev rfl) (bkeeps zc.below _ _ ((hB26.cell 0).trans rfl)) ⟨_, rfl, Below.refl _ _, optDef zβ rfl⟩
     refine ⟨⟨true, .none rfl, fun h w => optUndef h, fun zβ za zw zc => ?_⟩, ?_⟩
     ·exact wp_move rfl (zc.kn.ev rfl) ⟨_, rfl, Below.refl _ _, optDef zβ rfl⟩
     refine ⟨⟨true, .none rfl, fun h w => optUndef h, fun zβ za zw zc => ?_⟩, ?_⟩
     ·exact wp_move rfl (zc.kn.ev rfl) ⟨_, rfl, Below.refl _ _, optDef zβ rfl⟩
     refine ⟨⟨true, .none rfl, fun h w => optUndef h, fun zβ za zw zc => ?_⟩, ?_⟩
     ·exact ix_38 (k := k) rfl ((evt za 18).trans (optVal (zc.dep 1 18 (by kernel_rfl)) rfl rfl)) (ha33 k (by first | omega | (simp; omega))) ((evt za 19).trans (optVal (zc.dep 2 19 (by kernel_rfl)) rfl rfl)) (by first | omega | (simp; omega)) ⟨_, rfl, Below.refl _ _, optDef zβ rfl⟩
     refine ⟨⟨true, .none rfl, fun h w => optUndef h, fun zβ za zw zc => ?_⟩, ?_⟩
     ·exact ld_37 rfl ((evt za 20).trans (optVal (zc.dep 3 20 (by kernel_rfl)) rfl rfl)) (bkeeps (bstep hb25 zc.below) _ _ (hc34 k (by first | omega | (simp; omega))).1) ⟨_, rfl, Below.refl _ _, optDef zβ rfl⟩
     refine ⟨⟨true, .none rfl, fun h w => optUndef h, fun zβ za zw zc => ?_⟩, ?_⟩
     ·exact wp_call (by kernel_rfl) rfl (hv2 ((evt za 17).trans (optVal (zc.dep 0 17 (by kernel_rfl)) rfl rfl)) ((evt za 21).trans (optVal (zc.dep 4 21 (by kernel_rfl)) rfl rfl))) (may_any sg (cget l k) _ _ _ _ (hst.below (bstep hb25 zc.below)) (InRow.below (hc34 k (by first | omega | (simp; omega))).2 (bstep hb25 zc.below)) (hz _ (cget_mem (by omega))).2 (hz _ (cget_mem (by omega))).1) (fun v w' h => ⟨v, rfl, h.2, optDef zβ h.1⟩)
     refine ⟨⟨true, .none rfl, fun h w => optUndef h, fun zβ za zw zc => ?_⟩, ?_⟩
     ·exact wp_not rfl ((evt za 22).trans (optVal (zc.dep 5 22 (by kernel_rfl)) rfl rfl)) ⟨_, rfl, Below.refl _ _, optDef zβ rfl⟩
     refine ⟨⟨true, .none rfl, fun h w => optUndef h, fun zβ za zw zc => ?_⟩, ?_⟩
     ·exact wp_move rfl ((evt za 23).trans (optVal (zc.dep 6 23 (by kernel_rfl)) rfl rfl)) ⟨_, rfl, Below.refl _ _, optDef zβ rfl⟩
     refine ⟨⟨_, .no (c := (!(mayB sg (cget l k)))) (d := true) rfl (fun v w h => h), fun h w => optUndef h, fun zβ za zw zc => ?_⟩, ?_⟩
     ·exact wp_move rfl (zc.kn.ev rfl) ⟨_, rfl, Below.refl _ _, optDef zβ rfl⟩
     refine ⟨⟨_, .no (c := (!(mayB sg (cget l k)))) (d := true) rfl (fun v w h => h), fun h w => optUndef h, fun zβ za zw zc => ?_⟩, ?_⟩
     ·exact wp_move rfl (zc.kn.ev rfl) ⟨_, rfl, Below.refl _ _, optDef zβ rfl⟩
     refine ⟨⟨_, .no (c := (!(mayB sg (cget l k)))) (d := true) rfl (fun v w h => h), fun h w => optUndef h, fun zβ za zw zc => ?_⟩, ?_⟩
     ·exact ix_38 (k := k) rfl ((evt za 25).trans (optVal (zc.dep 8 25 (by kernel_rfl)) rfl zβ)) (ha33 k (by first | omega | (have zz := zβ; simp only [Bool.and_eq_true, Bool.or_eq_true, Bool.true_and, Bool.not_eq_true', Bool.or_eq_false_iff, Bool.and_eq_false_iff, beq_eq_false_iff_ne, ne_eq, beq_iff_eq, decide_eq_true_eq, decide_eq_false_iff_not, bne_iff_ne, bne_eq_false_iff_eq] at zz; omega))) ((evt za 26).trans (optVal (zc.dep 9 26 (by kernel_rfl)) rfl zβ)) (by first | omega | (have zz := zβ; simp only [Bool.and_eq_true, Bool.or_eq_true, Bool.true_and, Bool.not_eq_true', Bool.or_eq_false_iff, Bool.and_eq_false_iff, beq_eq_false_iff_ne, ne_eq, beq_iff_eq, decide_eq_true_eq, decide_eq_false_iff_not, bne_iff_ne, bne_eq_false_iff_eq] at zz; omega)) ⟨_, rfl, Below.refl _ _, optDef zβ rfl⟩
     refine ⟨⟨_, .no (c := (!(mayB sg (cget l k)))) (d := true) rfl (fun v w h => h), fun h w => optUndef h, fun zβ za zw zc => ?_⟩, ?_⟩
     ·exact ld_37 rfl ((evt za 27).trans (optVal (zc.dep 10 27 (by kernel_rfl)) rfl zβ)) (bkeeps (bstep hb25 zc.below) _ _ (hc34 k (by first | omega | (have zz := zβ; simp only [Bool.and_eq_true, Bool.or_eq_true, Bool.true_and, Bool.not_eq_true', Bool.or_eq_false_iff, Bool.and_eq_false_iff, beq_eq_false_iff_ne, ne_eq, beq_iff_eq, decide_eq_true_eq, decide_eq_false_iff_not, bne_iff_ne, bne_eq_false_iff_eq] at zz; omega))).1) ⟨_, rfl, Below.refl _ _, optDef zβ rfl⟩
     refine ⟨⟨_, .no (c := (!(mayB sg (cget l k)))) (d := true) rfl (fun v w h => h), fun h w => optUndef h, fun zβ za zw zc => ?_⟩, ?_⟩
     ·exact wp_call (by kernel_rfl) rfl (hv1 ((evt za 28).trans (optVal (zc.dep 11 28 (by kernel_rfl)) rfl zβ))) (csize_any (cget l k) _ _ _ (InRow.below (hc34 k (by first | omega | (have zz := zβ; simp only [Bool.and_eq_true, Bool.or_eq_true, Bool.true_and, Bool.not_eq_true', Bool.or_eq_false_iff, Bool.and_eq_false_iff, beq_eq_false_iff_ne, ne_eq, beq_iff_eq, decide_eq_true_eq, decide_eq_false_iff_not, bne_iff_ne, bne_eq_false_iff_eq] at zz; omega))).2 (bstep hb25 zc.below)) (hz _ (cget_mem (by omega))).2 (hz _ (cget_mem (by omega))).1) (fun v w' h => ⟨v, rfl, h.2, optDef zβ h.1⟩)
     refine ⟨⟨_, .no (c := (!(mayB sg (cget l k)))) (d := true) rfl (fun v w h => h), fun h w => optUndef h, fun zβ za zw zc => ?_⟩, ?_⟩
     ·exact gtr_3 rfl ((evt za 29).trans (optVal (zc.dep 12 29 (by kernel_rfl)) rfl zβ)) (zc.kn.ev rfl) ⟨_, rfl, Below.refl _ _, optDef zβ rfl⟩
     refine ⟨⟨true, .none rfl, fun h w => optUndef h, fun zβ za zw zc => ?_⟩, ?_⟩
     ·exact wp_or rfl ((evt za 24).trans (optVal (zc.dep 7 24 (by kernel_rfl)) rfl rfl)) (fun hp => ((evt za 30).trans (optVal (zc.dep 13 30 (by kernel_rfl)) rfl (bMkN zβ hp)))) ⟨_, rfl, Below.refl _ _, optDef zβ rfl⟩
     exact trivial
    ·intro za w37 zh hb38 zu
     have zh := zh.cons (d := 31) (v := .bool (((!(mayB sg (cget l k))) || (decide ((120 : Int) < ((((clSize (cget l k)) : Nat) : Int) : Int)))))) (optVal (zu 14 31 (by kernel_rfl)) rfl rfl)
     clear zu
     refine WE.go zh ?_
     refine WE.next ?_
     refine WC.cond rfl (fun h39 => ?_) (fun h39 => ?_)
     ·have h39 : (¬ ((mayB sg (cget l k)) = true)) ∨ ((120 : Int) < ((((clSize (cget l k)) : Nat) : Int) : Int)) := by simpa using h39
      refine WC.seq (WC.region (WL.asg rfl rfl rfl rfl rfl (WL.nil (WE.next (WC.ret (WE.blockRet (WE.thenRet (WE.thenRet (WE.blockRet (WE.thenRet (WE.ret1 rfl rfl ?_)))))))))))
      have hb40 : Below w.heap.size w w37 := (bstep hb25 hb38)
      exact ⟨_, rfl, ⟨false, rfl, fun h => (nomatch h)⟩, hb40⟩
     ·have h39 : ¬ ((¬ ((mayB sg (cget l k)) = true)) ∨ ((120 : Int) < ((((clSize (cget l k)) : Nat) : Int) : Int))) := by simpa using h39
      refine WC.skip (WE.blockNormal (WE.next (WC.region ?_)))
      refine WL.val (.int .i64 ((((k + 1) : Nat) : Int))) rfl rfl rfl (fun za zC zh zk => addb_3 rfl (zh.ev rfl) (zh.ev rfl) (wrap_eq (by omega) (by omega) (by omega)) zk) ?_
      refine WL.mv rfl rfl rfl rfl rfl (WL.nil ?_)
      refine WE.round (k + 1) ⟨rfl, rfl, rfl, rfl, rfl, rfl, rfl, rfl, trivial⟩ ?_ ?_
      ·have hb41 : Below w.heap.size w w37 := (bstep hb25 hb38)
       have hB42 := hB26.below hb38
       have hB43 := hB27.below hb38
       exact ⟨by omega, fun q hq => by
         by_cases e : q = k
         ·subst e; have z := h39; simp only [not_or, Decidable.not_not, Bool.not_eq_true, Bool.not_eq_false] at z; exact ⟨by simpa using z.1, by have z2 := z.2; omega⟩
         ·exact hall q (by omega), hb41, hB42, hB43⟩
      ·omega
   ·have h28 : ¬ ((((k : Nat) : Int) : Int) < (((l.length : Nat) : Int) : Int)) := by simpa using h28
    refine WC.exit (WE.thenExit (WE.thenExit (WE.blockIs rfl (WE.next (WC.seq (WC.region (WL.asg rfl rfl rfl rfl rfl (WL.nil (WE.next (WC.ret (WE.ret1 rfl rfl ?_)))))))))))
    exact ⟨_, rfl, ⟨true, rfl, fun _ => ⟨hnn (by omega), fun c hc => by obtain ⟨q, hq, rfl⟩ := List.getElem_of_mem hc; have z := (hall q (by omega)).1; rw [cget_lt hq] at z; exact mayB_all z, fun c hc => by obtain ⟨q, hq, rfl⟩ := List.getElem_of_mem hc; have z := (hall q (by omega)).2; rwa [cget_lt hq] at z⟩⟩, hb25⟩
def plainO (n : Nat) : Od := ⟨false, upTo n, ones n, 1⟩
set_option maxRecDepth 100000 in
theorem plain_any (n : Nat) (hn : n ≤ 1000000) (w : World) : Calls Try.prog 20 #[.int .i64 (n : Int)] w (Ret fun v' w' => (∃ p1 p2 k1 k2, v' = .agg #[.bool false, .slice p1 n k1, .slice p2 n k2, .int .i64 1]) ∧ IsOd w' (plainO n) v' ∧ Below w.heap.size w w') := by
 refine Calls.walk (l := [.int .i64 (((n : Nat) : Int))]) Try.func20 rfl (by kernel_rfl) ?_
 refine WC.sub (K' := [(0, .int .i64 (((n : Nat) : Int)))]) ⟨rfl, trivial⟩ ?_
 refine WC.seq (WC.region ?_)
 refine WL.step (post := NewBlk w 27 #[.bool false, .slice none 0 0, .slice none 0 0, .int .i64 0]) rfl rfl rfl (fun za zC zh zk => alloc_27 rfl (zk _ _ (newBlk _ _ _))) ?_
 rintro _ w1 ⟨g2, rfl, hg3, hB4, hb5, hz6⟩
 have hl7 : w.heap.size ≤ g2 := by omega
 refine WL.nil (WE.next (WC.seq (WC.region ?_)))
 refine WL.val (.agg #[.bool false, .slice none 0 0, .slice none 0 0, .int .i64 1]) rfl rfl rfl (fun za zC zh zk => build_27_3 rfl (zh.ev rfl) zk) ?_
 refine WL.step (post := NewBlk w1 27 #[.bool false, .slice none 0 0, .slice none 0 0, .int .i64 0]) rfl rfl rfl (fun za zC zh zk => alloc_27 rfl (zk _ _ (newBlk _ _ _))) ?_
 rintro _ w8 ⟨g9, rfl, hg10, hB11, hb12, hz13⟩
 have hl14 : g2 < g9 := by have z1 := hB4.lt; omega
 have hl15 : w.heap.size ≤ g9 := by have z2 := (hb5).size; omega
 refine WL.step (post := fun _ w' => Upd g9 w8 w' ∧ Blk w' g9 27 #[.bool false, .slice none 0 0, .slice none 0 0, .int .i64 1]) rfl rfl rfl (fun za zC zh zk => st_27 rfl (zh.ev rfl) (zh.ev rfl) rfl rfl rfl rfl hB11 (by first | decide | simp) (fun v => zk v _ ⟨(((Upd.at_ _ _ _ _).trans (Upd.at_ _ _ _ _)).trans (Upd.at_ _ _ _ _)).trans (Upd.at_ _ _ _ _), (((hB11.set_ 0 _).set_ 1 _).set_ 2 _).set_ 3 _⟩)) ?_
 rintro v19 w16 ⟨hu17, hB18⟩
 have hb20 : Below w.heap.size w w8 := (bstep hb5 hb12)
 have hb21 := upd_below hb20 hu17 (by omega)
 have hB22 := hB4.below hb12
 have hB23 := upd_blk hB22 hu17 (by omega)
 refine WL.nil (WE.next (WC.seq (WC.seq (WC.region (WL.mv rfl rfl rfl rfl rfl (WL.mv rfl rfl rfl rfl rfl (WL.nil (WE.next (WC.block ?_)))))))))
 have hl24 : g2 < w16.heap.size := by have z1 := hB23.lt; omega
 have hl25 : g9 < w16.heap.size := by have z1 := hB18.lt; omega
 have hl26 : w.heap.size ≤ w16.heap.size := (hb21).size
 have hO0 : TwoOwn w16 w16.heap.size 3 none 0 0 ((upTo 0).map (Value.int .i64)) none 0 0 ((ones 0).map (Value.int .i64)) := TwoOwn.nil
 have hgB : g9 < w16.heap.size := by omega
 refine WC.loop (X := Nat × Option Addr × Nat × Option Addr × Nat) (fun x => n - x.1) (fun x => [(0, .int .i64 (((n : Nat) : Int))), (2, .pointer (some ⟨g2, 0, none⟩)), (3, .pointer (some ⟨g9, 0, none⟩)), (6, .int .i64 (((n : Nat) : Int))), (7, .int .i64 (((x.1 : Nat) : Int)))]) (fun x w27 => x.1 ≤ n ∧ w16.heap.size ≤ (w27).heap.size ∧ Below w.heap.size w w27 ∧ Blk w27 g2 27 #[.bool false, .slice none 0 0, .slice none 0 0, .int .i64 0] ∧ Blk w27 g9 27 #[.bool false, .slice x.2.1 x.1 x.2.2.1, .slice x.2.2.2.1 x.1 x.2.2.2.2, .int .i64 1] ∧ TwoOwn (w27) w16.heap.size 3 x.2.1 x.2.2.1 x.1 ((upTo x.1).map (Value.int .i64)) x.2.2.2.1 x.2.2.2.2 x.1 ((ones x.1).map (Value.int .i64))) ((0, none, 0, none, 0)) ⟨rfl, rfl, rfl, rfl, rfl, trivial⟩ ?_ ?_
 ·exact ⟨Nat.zero_le _, Nat.le_refl _, hb21, hB23, hB18, hO0⟩
 ·rintro x w27 ⟨hk, hBw, hb28, hB29, hB30, ho31⟩
  refine WC.seq (WC.region ?_)
  refine WL.val (.bool ((decide ((((x.1 : Nat) : Int) : Int) < (((n : Nat) : Int) : Int))))) rfl rfl rfl (fun za zC zh zk => lss_3 rfl (zh.ev rfl) (zh.ev rfl) zk) ?_
  refine WL.nil (WE.next (WC.seq ?_))
  refine WC.cond rfl (fun h32 => ?_) (fun h32 => ?_)
  ·have h32 : (((x.1 : Nat) : Int) : Int) < (((n : Nat) : Int) : Int) := by simpa using h32
   refine WC.skip (WE.next (WC.seq (WC.block (WC.seq (WC.region (WL.mv rfl rfl rfl rfl rfl (WL.asg rfl rfl rfl rfl rfl (WL.nil (WE.next (WC.seq (WC.region ?_)))))))))))
   refine WL.val _ rfl rfl rfl (fun za zC zh zk => fld_27_1 rfl (zh.ev rfl) zk) ?_
   refine WL.val _ rfl rfl rfl (fun za zC zh zk => ld_25 rfl (zh.ev rfl) ((hB30.cell 1).trans rfl) zk) ?_
   refine WL.mv rfl rfl rfl rfl rfl ?_
   refine WL.step (post := NewRow w27 3 #[.int .i64 (((x.1 : Nat) : Int))] 1) rfl rfl rfl (fun za zC zh zk => row_25_1 rfl (zh.ev rfl) (zk _ _ (newRow _ _ _ _))) ?_
   rintro _ w33 ⟨g34, rfl, hg35, hB36, hb37, hz38⟩
   have hl39 : g2 < g34 := by have z1 := hB29.lt; omega
   have hl40 : g9 < g34 := by have z1 := hB30.lt; omega
   have hl41 : w.heap.size ≤ g34 := by have z2 := (hb28).size; omega
   have hl42 : w27.heap.size ≤ g34 := by omega
   have ho43 := ho31.below hb37
   have hzB : w16.heap.size ≤ w33.heap.size := (Nat.le_trans hBw hb37.size)
   refine WL.step (post := fun v w' => ∃ ra rc, v = .slice ra (x.1 + 1) rc ∧ TwoOwn w' w16.heap.size 3 ra rc (x.1 + 1) (((upTo x.1).map (Value.int .i64)) ++ [.int .i64 (((x.1 : Nat) : Int))]) x.2.2.2.1 x.2.2.2.2 x.1 (((ones x.1).map (Value.int .i64))) ∧ Chg (fun b => w16.heap.size ≤ b) w33 w') rfl rfl rfl (fun za zC zh zk => wp_app2 (z := .int .i64 0) (bytes := 8) Try.underlying25 (by kernel_rfl) (by decide) rfl (zh.ev rfl) (zh.ev rfl) ho43 hB36 rfl (by omega) (by omega) hzB (fun ra rc w2 h1 h2 => zk _ _ ⟨ra, rc, rfl, h1, h2⟩)) ?_
   rintro _ w44 ⟨ra45, rc46, rfl, hO47, hc48⟩
   have hb49 : Below w.heap.size w w33 := (bstep hb28 hb37)
   have hB50 := hB29.below hb37
   have hB51 := hB30.below hb37
   have hb52 := chg_below hb49 hc48 (fun b hb => (by (try dsimp only at *); omega))
   have hB53 := chg_blk hB50 hc48 (by (try dsimp only at *); omega)
   have hB54 := chg_blk hB51 hc48 (by (try dsimp only at *); omega)
   refine WL.val _ rfl rfl rfl (fun za zC zh zk => fld_27_1 rfl (zh.ev rfl) zk) ?_
   refine WL.step (post := fun _ w' => Upd g9 w44 w' ∧ Blk w' g9 27 #[.bool false, .slice ra45 ((x.1 + 1)) rc46, .slice x.2.2.2.1 x.1 x.2.2.2.2, .int .i64 1]) rfl rfl rfl (fun za zC zh zk => st_25 rfl (zh.ev rfl) (zh.ev rfl) hB54 (by first | decide | simp) (fun v => zk v _ ⟨Upd.at_ _ _ _ _, hB54.set_ 1 _⟩)) ?_
   rintro v58 w55 ⟨hu56, hB57⟩
   have hb59 := upd_below hb52 hu56 (by omega)
   have hB60 := upd_blk hB53 hu56 (by omega)
   have hO61 := hO47.upd hu56 hgB
   refine WL.nil (WE.next (WC.region ?_))
   refine WL.val _ rfl rfl rfl (fun za zC zh zk => fld_27_2 rfl (zh.ev rfl) zk) ?_
   refine WL.val _ rfl rfl rfl (fun za zC zh zk => ld_25 rfl (zh.ev rfl) ((hB57.cell 2).trans rfl) zk) ?_
   refine WL.step (post := NewRow w55 3 #[.int .i64 1] 1) rfl rfl rfl (fun za zC zh zk => row_25_1 rfl (zh.ev rfl) (zk _ _ (newRow _ _ _ _))) ?_
   rintro _ w62 ⟨g63, rfl, hg64, hB65, hb66, hz67⟩
   have hl68 : g2 < g63 := by have z1 := hB60.lt; omega
   have hl69 : g9 < g63 := by have z1 := hB57.lt; omega
   have hl70 : w.heap.size ≤ g63 := by have z2 := (hb59).size; omega
   have hl71 : w55.heap.size ≤ g63 := by omega
   have ho72 := hO61.below hb66
   have hzB : w16.heap.size ≤ w62.heap.size := (Nat.le_trans (Nat.le_trans (Nat.le_trans hzB hc48.size) (Nat.le_of_eq hu56.size.symm)) hb66.size)
   refine WL.step (post := fun v w' => ∃ ra rc, v = .slice ra (x.1 + 1) rc ∧ TwoOwn w' w16.heap.size 3 ra rc (x.1 + 1) (((ones x.1).map (Value.int .i64)) ++ [.int .i64 1]) ra45 rc46 (x.1 + 1) ((((upTo x.1).map (Value.int .i64)) ++ [.int .i64 (((x.1 : Nat) : Int))])) ∧ Chg (fun b => w16.heap.size ≤ b) w62 w') rfl rfl rfl (fun za zC zh zk => wp_app2 (z := .int .i64 0) (bytes := 8) Try.underlying25 (by kernel_rfl) (by decide) rfl (zh.ev rfl) (zh.ev rfl) ho72.swap hB65 rfl (by omega) (by omega) hzB (fun ra rc w2 h1 h2 => zk _ _ ⟨ra, rc, rfl, h1, h2⟩)) ?_
   rintro _ w73 ⟨ra74, rc75, rfl, hO76, hc77⟩
   have hb78 : Below w.heap.size w w62 := (bstep hb59 hb66)
   have hB79 := hB60.below hb66
   have hB80 := hB57.below hb66
   have hb81 := chg_below hb78 hc77 (fun b hb => (by (try dsimp only at *); omega))
   have hB82 := chg_blk hB79 hc77 (by (try dsimp only at *); omega)
   have hB83 := chg_blk hB80 hc77 (by (try dsimp only at *); omega)
   have hO84 := hO76.swap
   refine WL.val _ rfl rfl rfl (fun za zC zh zk => fld_27_2 rfl (zh.ev rfl) zk) ?_
   refine WL.step (post := fun _ w' => Upd g9 w73 w' ∧ Blk w' g9 27 #[.bool false, .slice ra45 ((x.1 + 1)) rc46, .slice ra74 ((x.1 + 1)) rc75, .int .i64 1]) rfl rfl rfl (fun za zC zh zk => st_25 rfl (zh.ev rfl) (zh.ev rfl) hB83 (by first | decide | simp) (fun v => zk v _ ⟨Upd.at_ _ _ _ _, hB83.set_ 2 _⟩)) ?_
   rintro v88 w85 ⟨hu86, hB87⟩
   have hb89 := upd_below hb81 hu86 (by omega)
   have hB90 := upd_blk hB82 hu86 (by omega)
   have hO91 := hO84.upd hu86 hgB
   refine WL.nil (WE.blockNormal (WE.next (WC.region ?_)))
   refine WL.val (.int .i64 ((((x.1 + 1) : Nat) : Int))) rfl rfl rfl (fun za zC zh zk => addb_3 rfl (zh.ev rfl) (zh.ev rfl) (wrap_eq (by omega) (by omega) (by omega)) zk) ?_
   refine WL.mv rfl rfl rfl rfl rfl (WL.nil ?_)
   refine WE.round ((x.1 + 1, ra45, rc46, ra74, rc75)) ⟨rfl, rfl, rfl, rfl, rfl, trivial⟩ ?_ ?_
   ·exact ⟨by (try dsimp only); omega, (Nat.le_trans (Nat.le_trans hzB hc77.size) (Nat.le_of_eq hu86.size.symm)), hb89, hB90, hB87, (by (try dsimp only); rw [upTo_succ, ones_succ, List.map_append, List.map_append]; exact hO91)⟩
   ·(try dsimp only); omega
  ·have h32 : ¬ ((((x.1 : Nat) : Int) : Int) < (((n : Nat) : Int) : Int)) := by simpa using h32
   refine WC.exit (WE.thenExit (WE.thenExit (WE.blockIs rfl (WE.next (WC.seq (WC.region ?_))))))
   refine WL.val _ rfl rfl rfl (fun za zC zh zk => ld_27 rfl (zh.ev rfl) ((hB30.cell 0).trans rfl) ((hB30.cell 1).trans rfl) ((hB30.cell 2).trans rfl) ((hB30.cell 3).trans rfl) zk) ?_
   refine WL.step (post := fun _ w' => Upd g2 w27 w' ∧ Blk w' g2 27 #[.bool false, .slice x.2.1 x.1 x.2.2.1, .slice x.2.2.2.1 x.1 x.2.2.2.2, .int .i64 1]) rfl rfl rfl (fun za zC zh zk => st_27 rfl (zh.ev rfl) (zh.ev rfl) rfl rfl rfl rfl hB29 (by first | decide | simp) (fun v => zk v _ ⟨(((Upd.at_ _ _ _ _).trans (Upd.at_ _ _ _ _)).trans (Upd.at_ _ _ _ _)).trans (Upd.at_ _ _ _ _), (((hB29.set_ 0 _).set_ 1 _).set_ 2 _).set_ 3 _⟩)) ?_
   rintro v95 w92 ⟨hu93, hB94⟩
   have hb96 := upd_below hb28 hu93 (by omega)
   have hB97 := upd_blk hB30 hu93 (by omega)
   have ho98 := ho31.upd hu93 (by omega)
   refine WL.nil (WE.next (WC.ret ?_))
   refine WE.retAny (v := .agg #[.bool false, .slice x.2.1 x.1 x.2.2.1, .slice x.2.2.2.1 x.1 x.2.2.2.2, .int .i64 1]) (fun za zh => ?_) ?_
   ·have z0 : za.tmps[2]?.getD undef = .pointer (some ⟨g2, 0, none⟩) := by rw [← Array.getD_eq_getD_getElem?]; exact zh.knows 2 _ rfl
    have y0_0 : w92.cell? ⟨g2, 0, none⟩ = some (.bool false) := ((hB94.cell 0).trans rfl)
    have y0_1 : w92.cell? ⟨g2, 1, none⟩ = some (.slice x.2.1 x.1 x.2.2.1) := ((hB94.cell 1).trans rfl)
    have y0_2 : w92.cell? ⟨g2, 2, none⟩ = some (.slice x.2.2.2.1 x.1 x.2.2.2.2) := ((hB94.cell 2).trans rfl)
    have y0_3 : w92.cell? ⟨g2, 3, none⟩ = some (.int .i64 1) := ((hB94.cell 3).trans rfl)
    simp [results, Try.results20, z0, y0_0, y0_1, y0_2, y0_3, go_sem]
   ·have e : x.1 = n := by omega
    obtain ⟨q1, q2, q3, q4⟩ := ints_row ho98.o1 (upTo_i64 (by omega))
    obtain ⟨r1, r2, r3, r4⟩ := ints_row ho98.o2 (ones_i64 _)
    rw [e] at q1 q2 q4 r1 r2 r4
    rw [e]
    exact ⟨_, rfl, ⟨_, _, _, _, rfl⟩, ⟨_, _, _, _, by rw [show (plainO n).prec.length = n from upTo_len n, show (plainO n).weights.length = n from ones_len n]; rfl, by rw [show (plainO n).prec.length = n from upTo_len n]; exact q2, q3, by rw [show (plainO n).weights.length = n from ones_len n]; exact r2, r3, q4, r4, by unfold I64; simp [plainO]⟩, hb96⟩
end Go.Proofs.Ytmdpiafeiopimaa

/- What the document says of a few literals; clauses are ordered: the walks. -/
namespace Go.Proofs.Ytmdpiafeiopimaa
open Go.RowKit Go
set_option linter.unusedVariables false
set_option linter.unusedSimpArgs false
theorem wk0 : (plainO 4).lits (⟨false, (.mk 3 [.mk 1 []]), (.mk 1 [])⟩ : Li) (⟨false, (.mk 3 [.mk 1 []]), (.mk 2 [])⟩ : Li) = 1 := by kernel_rfl
theorem wk1 : (plainO 4).lits (⟨false, (.mk 1 []), (.mk 2 [])⟩ : Li) (⟨false, (.mk 2 []), (.mk 1 [])⟩ : Li) = 2 := by kernel_rfl
theorem wk2 : (plainO 4).lits (⟨true, (.mk 1 []), (.mk 2 [])⟩ : Li) (⟨false, (.mk 1 []), (.mk 2 [])⟩ : Li) = 3 := by kernel_rfl
theorem wk3 : (plainO 4).oc (.mk 3 [.mk 1 []]) (.mk 1 []) = 3 := by kernel_rfl
theorem litsW (x y : Li) (r : Int) (h : (plainO 4).lits x y = r) (w : World) (vo v u : Value) (ho : IsOd w (plainO 4) vo) (hx : IsLi w x v) (hy : IsLi w y u) (zx : SmallLi x) (zy : SmallLi y) : Calls Try.prog 11 #[vo, v, u] w (Ret fun v' w' => v' = .int .i64 r ∧ Below w.heap.size w w') := h ▸ olits_any _ x y w vo v u ho hx hy zx zy
theorem cmpW (s t : T) (r : Int) (h : (plainO 4).oc s t = r) (w : World) (vo v u : Value) (ho : IsOd w (plainO 4) vo) (hx : IsT w s v) (hy : IsT w t u) (zx : s.size ≤ 4294967296) (zy : t.size ≤ 4294967296) : Calls Try.prog 21 #[vo, v, u] w (Ret fun v' w' => v' = .int .i64 r ∧ Below w.heap.size w w') := h ▸ ocmp_any _ s t w vo v u zx zy ho hx hy
set_option maxRecDepth 100000 in
theorem wakes_any (w : World) : Calls Try.prog 8 #[] w (Ret fun v' w' => v' = .bool true ∧ Below w.heap.size w w') := by
 refine Calls.walk (l := []) Try.func8 rfl (by kernel_rfl) ?_
 refine WC.sub (K' := []) trivial ?_
 refine WC.seq (WC.region (WL.asg rfl rfl rfl rfl rfl (WL.nil (WE.next (WC.seq (WC.region ?_))))))
 refine WL.val (.agg #[.int .i64 1, .slice none 0 0]) rfl rfl rfl (fun za zC zh zk => build_30_0 rfl (zh.ev rfl) zk) ?_
 refine WL.val (.agg #[.int .i64 2, .slice none 0 0]) rfl rfl rfl (fun za zC zh zk => build_30_0 rfl (zh.ev rfl) zk) ?_
 refine WL.step (post := NewBlk w 30 #[.int .i64 0, .slice none 0 0]) rfl rfl rfl (fun za zC zh zk => alloc_30 rfl (zk _ _ (newBlk _ _ _))) ?_
 rintro _ w1 ⟨g2, rfl, hg3, hB4, hb5, hz6⟩
 have hl7 : w.heap.size ≤ g2 := by omega
 refine WL.step (post := NewBlk w1 30 #[.int .i64 0, .slice none 0 0]) rfl rfl rfl (fun za zC zh zk => alloc_30 rfl (zk _ _ (newBlk _ _ _))) ?_
 rintro _ w8 ⟨g9, rfl, hg10, hB11, hb12, hz13⟩
 have hl14 : g2 < g9 := by have z1 := hB4.lt; omega
 have hl15 : w.heap.size ≤ g9 := by have z2 := (hb5).size; omega
 have hB16 := hB4.below hb12
 refine WL.step (post := fun _ w' => Upd g2 w8 w' ∧ Blk w' g2 30 #[.int .i64 1, .slice none 0 0]) rfl rfl rfl (fun za zC zh zk => st_30 rfl (zh.ev rfl) (zh.ev rfl) rfl rfl hB16 (by first | decide | simp) (fun v => zk v _ ⟨(Upd.at_ _ _ _ _).trans (Upd.at_ _ _ _ _), (hB16.set_ 0 _).set_ 1 _⟩)) ?_
 rintro v20 w17 ⟨hu18, hB19⟩
 have hb21 : Below w.heap.size w w8 := (bstep hb5 hb12)
 have hb22 := upd_below hb21 hu18 (by omega)
 have hB23 := upd_blk hB11 hu18 (by omega)
 refine WL.step (post := fun _ w' => Upd g9 w17 w' ∧ Blk w' g9 30 #[.int .i64 2, .slice none 0 0]) rfl rfl rfl (fun za zC zh zk => st_30 rfl (zh.ev rfl) (zh.ev rfl) rfl rfl hB23 (by first | decide | simp) (fun v => zk v _ ⟨(Upd.at_ _ _ _ _).trans (Upd.at_ _ _ _ _), (hB23.set_ 0 _).set_ 1 _⟩)) ?_
 rintro v27 w24 ⟨hu25, hB26⟩
 have hb28 := upd_below hb22 hu25 (by omega)
 have hB29 := upd_blk hB19 hu25 (by omega)
 refine WL.nil (WE.next (WC.seq (WC.region ?_)))
 refine WL.val _ rfl rfl rfl (fun za zC zh zk => ld_30 rfl (zh.ev rfl) ((hB29.cell 0).trans rfl) ((hB29.cell 1).trans rfl) zk) ?_
 refine WL.step (post := NewRow w24 30 #[.int .i64 1, .slice none 0 0] 1) rfl rfl rfl (fun za zC zh zk => row_28_1 rfl (zh.ev rfl) (zk _ _ (newRow _ _ _ _))) ?_
 rintro _ w30 ⟨g31, rfl, hg32, hB33, hb34, hz35⟩
 have hl36 : g2 < g31 := by have z1 := hB29.lt; omega
 have hl37 : g9 < g31 := by have z1 := hB26.lt; omega
 have hl38 : w.heap.size ≤ g31 := by have z2 := (hb28).size; omega
 refine WL.val (.agg #[.int .i64 3, .slice ((some ⟨g31, 0, none⟩)) 1 1]) rfl rfl rfl (fun za zC zh zk => build_30_0_1 rfl (zh.ev rfl) (zh.ev rfl) zk) ?_
 refine WL.step (post := NewBlk w30 30 #[.int .i64 0, .slice none 0 0]) rfl rfl rfl (fun za zC zh zk => alloc_30 rfl (zk _ _ (newBlk _ _ _))) ?_
 rintro _ w39 ⟨g40, rfl, hg41, hB42, hb43, hz44⟩
 have hl45 : g2 < g40 := by have z1 := hB29.lt; have z2 := (hb34).size; omega
 have hl46 : g9 < g40 := by have z1 := hB26.lt; have z2 := (hb34).size; omega
 have hl47 : g31 < g40 := by have z1 := hB33.lt; omega
 have hb48 : Below w.heap.size w w30 := (bstep hb28 hb34)
 have hl49 : w.heap.size ≤ g40 := by have z2 := (hb48).size; omega
 refine WL.step (post := fun _ w' => Upd g40 w39 w' ∧ Blk w' g40 30 #[.int .i64 3, .slice ((some ⟨g31, 0, none⟩)) 1 1]) rfl rfl rfl (fun za zC zh zk => st_30 rfl (zh.ev rfl) (zh.ev rfl) rfl rfl hB42 (by first | decide | simp) (fun v => zk v _ ⟨(Upd.at_ _ _ _ _).trans (Upd.at_ _ _ _ _), (hB42.set_ 0 _).set_ 1 _⟩)) ?_
 rintro v53 w50 ⟨hu51, hB52⟩
 have hb54 : Below w.heap.size w w39 := (bstep hb48 hb43)
 have hb55 := upd_below hb54 hu51 (by omega)
 have hb57 : Below w24.heap.size w24 w39 := (bstep hb34 hb43)
 have hB56 := hB29.below hb57
 have hB58 := upd_blk hB56 hu51 (by omega)
 have hB59 := hB26.below hb57
 have hB60 := upd_blk hB59 hu51 (by omega)
 have hB61 := hB33.below hb43
 have hB62 := upd_blk hB61 hu51 (by omega)
 refine WL.nil (WE.next (WC.seq (WC.region ?_)))
 refine WL.call rfl rfl rfl (fun za zh zC => wp_call (by kernel_rfl) rfl (hv1 (zh.ev rfl))) (plain_any 4 (by decide) _) ?_
 rintro _ w63 ⟨⟨q1, q2, c1, c2, rfl⟩, hod, hbp⟩
 refine WL.step (post := NewBlk w63 27 #[.bool false, .slice none 0 0, .slice none 0 0, .int .i64 0]) rfl rfl rfl (fun za zC zh zk => alloc_27 rfl (zk _ _ (newBlk _ _ _))) ?_
 rintro _ w64 ⟨g65, rfl, hg66, hB67, hb68, hz69⟩
 have hl70 : g2 < g65 := by have z1 := hB58.lt; have z2 := (hbp).size; omega
 have hl71 : g9 < g65 := by have z1 := hB60.lt; have z2 := (hbp).size; omega
 have hl72 : g31 < g65 := by have z1 := hB62.lt; have z2 := (hbp).size; omega
 have hl73 : g40 < g65 := by have z1 := hB52.lt; have z2 := (hbp).size; omega
 have hb74 : Below w.heap.size w w63 := (bstep hb55 hbp)
 have hl75 : w.heap.size ≤ g65 := by have z2 := (hb74).size; omega
 have hl76 : w63.heap.size ≤ g65 := by omega
 refine WL.step (post := fun _ w' => Upd g65 w64 w' ∧ Blk w' g65 27 #[.bool false, .slice q1 4 c1, .slice q2 4 c2, .int .i64 1]) rfl rfl rfl (fun za zC zh zk => st_27 rfl (zh.ev rfl) (zh.ev rfl) rfl rfl rfl rfl hB67 (by first | decide | simp) (fun v => zk v _ ⟨(((Upd.at_ _ _ _ _).trans (Upd.at_ _ _ _ _)).trans (Upd.at_ _ _ _ _)).trans (Upd.at_ _ _ _ _), (((hB67.set_ 0 _).set_ 1 _).set_ 2 _).set_ 3 _⟩)) ?_
 rintro v80 w77 ⟨hu78, hB79⟩
 have hb81 : Below w.heap.size w w64 := (bstep hb74 hb68)
 have hb82 := upd_below hb81 hu78 (by omega)
 have hb83 := upd_below hb68 hu78 (by omega)
 have hb85 : Below w50.heap.size w50 w64 := (bstep hbp hb68)
 have hB84 := hB58.below hb85
 have hB86 := upd_blk hB84 hu78 (by omega)
 have hB87 := hB60.below hb85
 have hB88 := upd_blk hB87 hu78 (by omega)
 have hB89 := hB62.below hb85
 have hB90 := upd_blk hB89 hu78 (by omega)
 have hB91 := hB52.below hb85
 have hB92 := upd_blk hB91 hu78 (by omega)
 refine WL.nil (WE.next (WC.seq (WC.region ?_)))
 refine WL.val _ rfl rfl rfl (fun za zC zh zk => ld_27 rfl (zh.ev rfl) ((hB79.cell 0).trans rfl) ((hB79.cell 1).trans rfl) ((hB79.cell 2).trans rfl) ((hB79.cell 3).trans rfl) zk) ?_
 refine WL.val _ rfl rfl rfl (fun za zC zh zk => ld_30 rfl (zh.ev rfl) ((hB92.cell 0).trans rfl) ((hB92.cell 1).trans rfl) zk) ?_
 refine WL.val _ rfl rfl rfl (fun za zC zh zk => ld_30 rfl (zh.ev rfl) ((hB86.cell 0).trans rfl) ((hB86.cell 1).trans rfl) zk) ?_
 refine WL.val (.agg #[.bool false, .int .i64 3, .slice ((some ⟨g31, 0, none⟩)) 1 1, .int .i64 1, .slice none 0 0]) rfl rfl rfl (fun za zC zh zk => build_32_1_2 rfl (zh.ev rfl) (zh.ev rfl) zk) ?_
 refine WL.val _ rfl rfl rfl (fun za zC zh zk => ld_30 rfl (zh.ev rfl) ((hB92.cell 0).trans rfl) ((hB92.cell 1).trans rfl) zk) ?_
 refine WL.val _ rfl rfl rfl (fun za zC zh zk => ld_30 rfl (zh.ev rfl) ((hB88.cell 0).trans rfl) ((hB88.cell 1).trans rfl) zk) ?_
 refine WL.val (.agg #[.bool false, .int .i64 3, .slice ((some ⟨g31, 0, none⟩)) 1 1, .int .i64 2, .slice none 0 0]) rfl rfl rfl (fun za zC zh zk => build_32_1_2 rfl (zh.ev rfl) (zh.ev rfl) zk) ?_
 have ho93 := hod.below hb83
 refine WL.call rfl rfl rfl (fun za zh zC => wp_call (by kernel_rfl) rfl (hv3 (zh.ev rfl) (zh.ev rfl) (zh.ev rfl))) (litsW (⟨false, (.mk 3 [.mk 1 []]), (.mk 1 [])⟩ : Li) (⟨false, (.mk 3 [.mk 1 []]), (.mk 2 [])⟩ : Li) 1 wk0 _ _ _ _ ho93 (isLi_of (x := (⟨false, (.mk 3 [.mk 1 []]), (.mk 1 [])⟩ : Li)) (isT_mk (f := 3) (l := [.mk 1 []]) (by unfold I64; decide) ⟨_, _, rfl, Nat.le_refl _, by unfold maxLen; decide, isTs_one hB90 (isT_lf (by decide))⟩) (isT_lf (by decide))) (isLi_of (x := (⟨false, (.mk 3 [.mk 1 []]), (.mk 2 [])⟩ : Li)) (isT_mk (f := 3) (l := [.mk 1 []]) (by unfold I64; decide) ⟨_, _, rfl, Nat.le_refl _, by unfold maxLen; decide, isTs_one hB90 (isT_lf (by decide))⟩) (isT_lf (by decide))) (by unfold SmallLi; decide) (by unfold SmallLi; decide)) ?_
 rintro _ w95 ⟨rfl, hq94⟩
 refine WL.val (.bool true) rfl rfl rfl (fun za zC zh zk => eql_48 rfl (zh.ev rfl) (zh.ev rfl) zk) ?_
 refine WL.mv rfl rfl rfl rfl rfl ?_
 refine WL.want (d := 20) rfl rfl rfl ?_
 have hB96 := hB79.below hq94
 refine WL.val _ rfl rfl rfl (fun za zC zh zk => ld_27 rfl (zh.ev rfl) ((hB96.cell 0).trans rfl) ((hB96.cell 1).trans rfl) ((hB96.cell 2).trans rfl) ((hB96.cell 3).trans rfl) zk) ?_
 refine WL.want (d := 20) rfl rfl rfl ?_
 have hB97 := hB86.below hq94
 refine WL.val _ rfl rfl rfl (fun za zC zh zk => ld_30 rfl (zh.ev rfl) ((hB97.cell 0).trans rfl) ((hB97.cell 1).trans rfl) zk) ?_
 refine WL.want (d := 20) rfl rfl rfl ?_
 have hB98 := hB88.below hq94
 refine WL.val _ rfl rfl rfl (fun za zC zh zk => ld_30 rfl (zh.ev rfl) ((hB98.cell 0).trans rfl) ((hB98.cell 1).trans rfl) zk) ?_
 refine WL.want (d := 20) rfl rfl rfl ?_
 refine WL.val (.agg #[.bool false, .int .i64 1, .slice none 0 0, .int .i64 2, .slice none 0 0]) rfl rfl rfl (fun za zC zh zk => build_32_1_2 rfl (zh.ev rfl) (zh.ev rfl) zk) ?_
 refine WL.want (d := 20) rfl rfl rfl ?_
 refine WL.val _ rfl rfl rfl (fun za zC zh zk => ld_30 rfl (zh.ev rfl) ((hB98.cell 0).trans rfl) ((hB98.cell 1).trans rfl) zk) ?_
 refine WL.want (d := 20) rfl rfl rfl ?_
 refine WL.val _ rfl rfl rfl (fun za zC zh zk => ld_30 rfl (zh.ev rfl) ((hB97.cell 0).trans rfl) ((hB97.cell 1).trans rfl) zk) ?_
 refine WL.want (d := 20) rfl rfl rfl ?_
 refine WL.val (.agg #[.bool false, .int .i64 2, .slice none 0 0, .int .i64 1, .slice none 0 0]) rfl rfl rfl (fun za zC zh zk => build_32_1_2 rfl (zh.ev rfl) (zh.ev rfl) zk) ?_
 refine WL.want (d := 20) rfl rfl rfl ?_
 have ho99 := ho93.below hq94
 refine WL.call rfl rfl rfl (fun za zh zC => wp_call (by kernel_rfl) rfl (hv3 (zh.ev rfl) (zh.ev rfl) (zh.ev rfl))) (litsW (⟨false, (.mk 1 []), (.mk 2 [])⟩ : Li) (⟨false, (.mk 2 []), (.mk 1 [])⟩ : Li) 2 wk1 _ _ _ _ ho99 (isLi_of (x := (⟨false, (.mk 1 []), (.mk 2 [])⟩ : Li)) (isT_lf (by decide)) (isT_lf (by decide))) (isLi_of (x := (⟨false, (.mk 2 []), (.mk 1 [])⟩ : Li)) (isT_lf (by decide)) (isT_lf (by decide))) (by unfold SmallLi; decide) (by unfold SmallLi; decide)) ?_
 rintro _ w101 ⟨rfl, hq100⟩
 refine WL.want (d := 20) rfl rfl rfl ?_
 refine WL.val (.bool true) rfl rfl rfl (fun za zC zh zk => eql_48 rfl (zh.ev rfl) (zh.ev rfl) zk) ?_
 refine WL.val (.bool true) rfl rfl rfl (fun za zC zh zk => wp_pickT rfl (zh.ev rfl) (zh.ev rfl) zk) ?_
 refine WL.mv rfl rfl rfl rfl rfl ?_
 refine WL.want (d := 31) rfl rfl rfl ?_
 have hB102 := hB96.below hq100
 refine WL.val _ rfl rfl rfl (fun za zC zh zk => ld_27 rfl (zh.ev rfl) ((hB102.cell 0).trans rfl) ((hB102.cell 1).trans rfl) ((hB102.cell 2).trans rfl) ((hB102.cell 3).trans rfl) zk) ?_
 refine WL.want (d := 31) rfl rfl rfl ?_
 have hB103 := hB97.below hq100
 refine WL.val _ rfl rfl rfl (fun za zC zh zk => ld_30 rfl (zh.ev rfl) ((hB103.cell 0).trans rfl) ((hB103.cell 1).trans rfl) zk) ?_
 refine WL.want (d := 31) rfl rfl rfl ?_
 have hB104 := hB98.below hq100
 refine WL.val _ rfl rfl rfl (fun za zC zh zk => ld_30 rfl (zh.ev rfl) ((hB104.cell 0).trans rfl) ((hB104.cell 1).trans rfl) zk) ?_
 refine WL.want (d := 31) rfl rfl rfl ?_
 refine WL.val (.agg #[.bool true, .int .i64 1, .slice none 0 0, .int .i64 2, .slice none 0 0]) rfl rfl rfl (fun za zC zh zk => build_32_0_1_2 rfl (zh.ev rfl) (zh.ev rfl) (zh.ev rfl) zk) ?_
 refine WL.want (d := 31) rfl rfl rfl ?_
 refine WL.val _ rfl rfl rfl (fun za zC zh zk => ld_30 rfl (zh.ev rfl) ((hB103.cell 0).trans rfl) ((hB103.cell 1).trans rfl) zk) ?_
 refine WL.want (d := 31) rfl rfl rfl ?_
 refine WL.val _ rfl rfl rfl (fun za zC zh zk => ld_30 rfl (zh.ev rfl) ((hB104.cell 0).trans rfl) ((hB104.cell 1).trans rfl) zk) ?_
 refine WL.want (d := 31) rfl rfl rfl ?_
 refine WL.val (.agg #[.bool false, .int .i64 1, .slice none 0 0, .int .i64 2, .slice none 0 0]) rfl rfl rfl (fun za zC zh zk => build_32_1_2 rfl (zh.ev rfl) (zh.ev rfl) zk) ?_
 refine WL.want (d := 31) rfl rfl rfl ?_
 have ho105 := ho99.below hq100
 refine WL.call rfl rfl rfl (fun za zh zC => wp_call (by kernel_rfl) rfl (hv3 (zh.ev rfl) (zh.ev rfl) (zh.ev rfl))) (litsW (⟨true, (.mk 1 []), (.mk 2 [])⟩ : Li) (⟨false, (.mk 1 []), (.mk 2 [])⟩ : Li) 3 wk2 _ _ _ _ ho105 (isLi_of (x := (⟨true, (.mk 1 []), (.mk 2 [])⟩ : Li)) (isT_lf (by decide)) (isT_lf (by decide))) (isLi_of (x := (⟨false, (.mk 1 []), (.mk 2 [])⟩ : Li)) (isT_lf (by decide)) (isT_lf (by decide))) (by unfold SmallLi; decide) (by unfold SmallLi; decide)) ?_
 rintro _ w107 ⟨rfl, hq106⟩
 refine WL.want (d := 31) rfl rfl rfl ?_
 refine WL.val (.bool true) rfl rfl rfl (fun za zC zh zk => eql_48 rfl (zh.ev rfl) (zh.ev rfl) zk) ?_
 refine WL.val (.bool true) rfl rfl rfl (fun za zC zh zk => wp_pickT rfl (zh.ev rfl) (zh.ev rfl) zk) ?_
 refine WL.mv rfl rfl rfl rfl rfl ?_
 refine WL.want (d := 42) rfl rfl rfl ?_
 have hB108 := hB102.below hq106
 refine WL.val _ rfl rfl rfl (fun za zC zh zk => ld_27 rfl (zh.ev rfl) ((hB108.cell 0).trans rfl) ((hB108.cell 1).trans rfl) ((hB108.cell 2).trans rfl) ((hB108.cell 3).trans rfl) zk) ?_
 refine WL.want (d := 42) rfl rfl rfl ?_
 have hb110 : Below w77.heap.size w77 w107 := (bstep (bstep hq94 hq100) hq106)
 have hB109 := hB92.below hb110
 refine WL.val _ rfl rfl rfl (fun za zC zh zk => ld_30 rfl (zh.ev rfl) ((hB109.cell 0).trans rfl) ((hB109.cell 1).trans rfl) zk) ?_
 refine WL.want (d := 42) rfl rfl rfl ?_
 have hB111 := hB103.below hq106
 refine WL.val _ rfl rfl rfl (fun za zC zh zk => ld_30 rfl (zh.ev rfl) ((hB111.cell 0).trans rfl) ((hB111.cell 1).trans rfl) zk) ?_
 refine WL.want (d := 42) rfl rfl rfl ?_
 have ho112 := ho105.below hq106
 have hB113 := hB90.below hb110
 refine WL.call rfl rfl rfl (fun za zh zC => wp_call (by kernel_rfl) rfl (hv3 (zh.ev rfl) (zh.ev rfl) (zh.ev rfl))) (cmpW (.mk 3 [.mk 1 []]) (.mk 1 []) 3 wk3 _ _ _ _ ho112 (isT_mk (f := 3) (l := [.mk 1 []]) (by unfold I64; decide) ⟨_, _, rfl, Nat.le_refl _, by unfold maxLen; decide, isTs_one hB113 (isT_lf (by decide))⟩) (isT_lf (by decide)) (by decide) (by decide)) ?_
 rintro _ w115 ⟨rfl, hq114⟩
 refine WL.want (d := 42) rfl rfl rfl ?_
 refine WL.val (.bool true) rfl rfl rfl (fun za zC zh zk => eql_48 rfl (zh.ev rfl) (zh.ev rfl) zk) ?_
 refine WL.val (.bool true) rfl rfl rfl (fun za zC zh zk => wp_pickT rfl (zh.ev rfl) (zh.ev rfl) zk) ?_
 refine WL.asg rfl rfl rfl rfl rfl ?_
 refine WL.nil (WE.sub (K' := [(0, .bool true), (1, .pointer (some ⟨g2, 0, none⟩)), (2, .pointer (some ⟨g9, 0, none⟩)), (3, .pointer (some ⟨g40, 0, none⟩)), (4, .pointer (some ⟨g65, 0, none⟩))]) ⟨rfl, rfl, rfl, rfl, rfl, trivial⟩ ?_)
 refine WE.next (WC.ret (WE.ret1 rfl rfl ?_))
 have hb116 : Below w.heap.size w w115 := (bstep (bstep hb82 hb110) hq114)
 exact ⟨_, rfl, rfl, hb116⟩
end Go.Proofs.Ytmdpiafeiopimaa

/- Literals and clauses are ordered, by any order that may be: plain. -/
namespace Go.Proofs.Ytmdpiafeiopimaa
set_option linter.unusedVariables false
theorem goodC_of {P : T → Prop} {R : T → T → Bool} (h0 : ∀ s, P s → R s s = false) (ht : ∀ s t u, P s → P t → P u → R s t = true → R t u = true → R s u = true)
    {c : T → T → Int} (hc : ∀ s t, P s → P t → c s t = if T.same s t then 2 else if R s t then 3 else if R t s then 1 else 0) : GoodC P c := by
  have asy : ∀ s t, P s → P t → R s t = true → R t s = false := fun s t hs ht' h => by
    cases h2 : R t s with
    | false => rfl
    | true => have z := ht s t s hs ht' hs h h2; rw [h0 s hs] at z; cases z
  have eq2 : ∀ s t, P s → P t → (c s t = 2 ↔ s = t) := fun s t hs ht' => by
    rw [hc s t hs ht']
    constructor
    · intro h
      cases e : T.same s t with
      | true => exact (T.same_iff s t).1 e
      | false => rw [e] at h; simp only [Bool.false_eq_true, if_false] at h; split at h <;> (try split at h) <;> omega
    · rintro rfl; rw [T.same_refl]; rfl
  have eq3 : ∀ s t, P s → P t → (c s t = 3 ↔ R s t = true) := fun s t hs ht' => by
    rw [hc s t hs ht']
    cases e : T.same s t with
    | true => have := (T.same_iff s t).1 e; subst this; simp [h0 s hs]
    | false =>
      cases e2 : R s t with
      | true => simp
      | false => cases e3 : R t s <;> simp
  have sym : ∀ s t, T.same s t = T.same t s := fun s t => by
    rw [Bool.eq_iff_iff, T.same_iff, T.same_iff]; exact ⟨Eq.symm, Eq.symm⟩
  refine ⟨fun x hx => (eq2 x x hx hx).2 rfl, fun x y hx hy => ?_, fun x y z hx hy hz h1 h2 => (eq3 x z hx hz).2 (ht x y z hx hy hz ((eq3 x y hx hy).1 h1) ((eq3 y z hy hz).1 h2)), fun x y z hx hy hz h => by rw [(eq2 x y hx hy).1 h], fun x y hx hy => ?_⟩
  · rw [hc x y hx hy, hc y x hy hx, sym y x]
    cases T.same x y with
    | true => rfl
    | false =>
      cases e : R x y with
      | true => rw [asy x y hx hy e]; rfl
      | false => cases R y x <;> rfl
  · rw [hc x y hx hy]; split <;> (try split) <;> (try split) <;> omega
theorem OrdOk.good {sg : List Sy} {o : Od} (h : OrdOk sg o) : GoodC (Od.Fit o (sg.map (·.ar))) o.ok2 := by
  cases hl : o.lpo with
  | false =>
    have G := Od.good_of h hl
    refine goodC_of (R := o.kb) (fun s _ => Od.kb_irrefl o s) (fun s t u hs ht hu => G.kb_trans s t u hs.ok ht.ok hu.ok) (fun s t hs ht => ?_)
    have e : o.oc s t = o.Cmp s t := by unfold Od.oc; rw [if_neg (by rw [hl]; exact Bool.false_ne_true)]
    unfold Od.ok2
    rw [e, G.Cmp_eq hs ht]
    cases T.same s t <;> rfl
  | true =>
    have kn : ∀ t, Od.Fit o (sg.map (·.ar)) t → o.lknows t = true := fun t ht => T.ok_known (by simpa using h.len.symm) t ht.ok
    refine goodC_of (R := o.lg) (fun s hs => Od.lg_irrefl (kn s hs)) (fun s t u hs ht hu => Od.lg_trans _ s t u (Nat.le_refl _) (kn t ht) (kn u hu)) (fun s t hs ht => ?_)
    have e : o.oc s t = o.lcmp s t := by unfold Od.oc; rw [if_pos hl]
    unfold Od.ok2
    rw [e, Od.lcmp_eq (kn s hs) (kn t ht)]
    cases T.same s t <;> rfl
/-- A literal that the order may be asked of. -/
def FitL (o : Od) (ar : List Int) (x : Li) : Prop := Od.Fit o ar x.l ∧ Od.Fit o ar x.r
theorem FitL.mems {o : Od} {ar : List Int} {x : Li} (h : FitL o ar x) : ∀ l ∈ x.mems, ∀ t ∈ l, Od.Fit o ar t := fun l hl t ht =>
  ((Li.mems_all l hl).2 t ht).elim (fun e => e ▸ h.1) (fun e => e ▸ h.2)
theorem OrdOk.goodL {sg : List Sy} {o : Od} (h : OrdOk sg o) : GoodC (FitL o (sg.map (·.ar))) o.lits := by
  have g := h.good.multi.multi
  exact ⟨fun x hx => g.refl _ hx.mems, fun x y hx hy => g.turn _ _ hx.mems hy.mems, fun x y z hx hy hz => g.trans _ _ _ hx.mems hy.mems hz.mems, fun x y z hx hy hz => g.same _ _ _ hx.mems hy.mems hz.mems, fun x y hx hy => g.rng _ _ hx.mems hy.mems⟩
/-- A negative literal is above the positive one with its sides. -/
theorem OrdOk.neg {sg : List Sy} {o : Od} (h : OrdOk sg o) {s t : T} (hs : Od.Fit o (sg.map (·.ar)) s) (ht : Od.Fit o (sg.map (·.ar)) t) : o.lits ⟨true, s, t⟩ ⟨false, s, t⟩ = 3 := by
  have g := h.good
  have gm := g.multi
  have hP : ∀ l ∈ [[s, t]], ∀ x ∈ l, Od.Fit o (sg.map (·.ar)) x := by simp; exact ⟨hs, ht⟩
  have hQ : ∀ l ∈ [[s], [t]], ∀ x ∈ l, Od.Fit o (sg.map (·.ar)) x := by simp; exact ⟨hs, ht⟩
  -- each of the two is below both
  have below : ∀ u : T, Od.Fit o (sg.map (·.ar)) u → (u = s ∨ u = t) → multiP o.ok2 [s, t] [u] = 3 := fun u hu he => by
    have p1 : ∀ x ∈ [s, t], Od.Fit o (sg.map (·.ar)) x := by simp; exact ⟨hs, ht⟩
    have p2 : ∀ x ∈ [u], Od.Fit o (sg.map (·.ar)) x := by simpa using hu
    refine (multiP_3 g p1 p2).2 ⟨?_, fun x hx hl => ?_⟩
    · by_cases e : o.ok2 s t = 2
      · refine ⟨s, hs, ?_⟩
        simp only [cnt_cons, cnt_nil, if_pos e, if_pos (g.refl s hs)]; split <;> omega
      · rcases he with rfl | rfl
        · refine ⟨t, ht, ?_⟩
          have e2 : ¬ o.ok2 t u = 2 := fun z => e (g.symm ht hu z)
          simp only [cnt_cons, cnt_nil, if_pos (g.refl t ht), if_neg e2]; omega
        · refine ⟨s, hs, ?_⟩
          simp only [cnt_cons, cnt_nil, if_pos (g.refl s hs), if_neg e]; omega
    · exfalso
      simp only [cnt_cons, cnt_nil] at hl
      rcases he with rfl | rfl <;> (split at hl <;> (try split at hl) <;> omega)
  show multiP (multiP o.ok2) [[s, t]] [[s], [t]] = 3
  refine (multiP_3 gm hP hQ).2 (HO.dom gm hP hQ (by simp) (fun q hq => ⟨[s, t], by simp, ?_⟩))
  simp only [List.mem_cons, List.not_mem_nil, or_false] at hq
  rcases hq with rfl | rfl
  · exact below s hs (.inl rfl)
  · exact below t ht (.inr rfl)
/-- A clause that is not empty has a maximal literal. -/
theorem OrdOk.most {sg : List Sy} {o : Od} (h : OrdOk sg o) {c : List Li} (hc : ∀ x ∈ c, FitL o (sg.map (·.ar)) x) (hne : c ≠ []) : ∃ i, i < c.length ∧ o.maxAt c i false = true := by
  obtain ⟨m, hm, hmax⟩ := maxel h.goodL hc hne
  obtain ⟨i, hi, rfl⟩ := List.getElem_of_mem hm
  refine ⟨i, hi, ?_⟩
  unfold Od.maxAt
  rw [List.all_eq_true]
  intro j hj
  have hj := List.mem_range.1 hj
  rw [lget_lt hi, lget_lt hj]
  have z : trn (o.lits c[i] c[j]) ≠ 3 := fun e => by
    rw [trn_3] at e
    exact hmax c[j] (List.getElem_mem hj) (by rw [h.goodL.turn c[i] c[j] (hc _ (List.getElem_mem hi)) (hc _ (List.getElem_mem hj)), e]; rfl)
  simp [z]
end Go.Proofs.Ytmdpiafeiopimaa

/- Copies of terms: the program and the document. -/
namespace Go.Proofs.Ytmdpiafeiopimaa
open Go.RowKit Go
set_option linter.unusedVariables false
set_option linter.unusedSimpArgs false
theorem len_le_sizeL (l : List T) : l.length ≤ T.sizeL l := by
  induction l with
  | nil => simp [T.sizeL]
  | cons t r ih => simp only [List.length_cons, T.sizeL]; have : 1 ≤ t.size := by rw [T.size_eq]; omega
                   omega
theorem take_snocT {l : List T} {k : Nat} (h : k < l.length) : l.take k ++ [tget l k] = l.take (k + 1) := by
  rw [List.take_succ_eq_append_getElem h, tget_lt h]
theorem size_at {l : List T} {k N : Nat} {f : Int} (h : k < l.length) (hz : (T.mk f l).size ≤ N) : (tget l k).size ≤ N := by
  have h1 := T.size_le_sizeL (tget_mem h)
  simp only [T.size] at hz
  omega
set_option maxRecDepth 100000 in
theorem rcopy_any : ∀ (t : T) (w : World) (v : Value), t.size ≤ 4294967296 → IsT w t v → Calls Try.prog 55 #[v] w (Ret fun v' w' => NewT w w' t v' ∧ Below w.heap.size w w') := by
  refine T.ind (fun f l ih => ?_)
  intro w v hz hv
  have hlen := len_le_sizeL l
  have hz' := hz
  simp only [T.size] at hz'
  obtain ⟨hf, a, c, rfl, hc, hm, hl⟩ := hv
  refine Calls.walk (l := [.agg #[.int .i64 f, .slice a l.length c]]) Try.func55 rfl (by kernel_rfl) ?_
  refine WC.sub (K' := [(0, .agg #[.int .i64 f, .slice a l.length c])]) ⟨rfl, trivial⟩ ?_
  refine WC.seq ?_
  refine WC.region ?_
  refine WL.step (post := NewBlk w 30 #[.int .i64 f, .slice a l.length c]) rfl rfl rfl (fun za zC zh zk => box_30 rfl (zh.ev rfl) (zk _ _ (newBlk _ _ _))) ?_
  rintro _ w1 ⟨g2, rfl, hg3, hB4, hb5, hz6⟩
  have hl7 : w.heap.size ≤ g2 := by omega
  refine WL.step (post := NewBlk w1 30 #[.int .i64 0, .slice none 0 0]) rfl rfl rfl (fun za zC zh zk => alloc_30 rfl (zk _ _ (newBlk _ _ _))) ?_
  rintro _ w8 ⟨g9, rfl, hg10, hB11, hb12, hz13⟩
  have hl14 : g2 < g9 := by have z1 := hB4.lt; omega
  have hl15 : w.heap.size ≤ g9 := by have z2 := (hb5).size; omega
  refine WL.nil ?_
  refine WE.next ?_
  refine WC.seq ?_
  refine WC.region ?_
  refine WL.val _ rfl rfl rfl (fun za zC zh zk => fld_30_0 rfl (zh.ev rfl) zk) ?_
  have hB16 := hB4.below hb12
  refine WL.val _ rfl rfl rfl (fun za zC zh zk => ld_3 rfl (zh.ev rfl) ((hB16.cell 0).trans rfl) zk) ?_
  refine WL.val (.agg #[.int .i64 f, .slice none 0 0]) rfl rfl rfl (fun za zC zh zk => build_30_0 rfl (zh.ev rfl) zk) ?_
  refine WL.step (post := NewBlk w8 30 #[.int .i64 0, .slice none 0 0]) rfl rfl rfl (fun za zC zh zk => alloc_30 rfl (zk _ _ (newBlk _ _ _))) ?_
  rintro _ w17 ⟨g18, rfl, hg19, hB20, hb21, hz22⟩
  have hl23 : g2 < g18 := by have z1 := hB16.lt; omega
  have hl24 : g9 < g18 := by have z1 := hB11.lt; omega
  have hb25 : Below w.heap.size w w8 := (bstep hb5 hb12)
  have hl26 : w.heap.size ≤ g18 := by have z2 := (hb25).size; omega
  refine WL.step (post := fun _ w' => Upd g18 w17 w' ∧ Blk w' g18 30 #[.int .i64 f, .slice none 0 0]) rfl rfl rfl (fun za zC zh zk => st_30 rfl (zh.ev rfl) (zh.ev rfl) rfl rfl hB20 (by first | decide | simp) (fun v => zk v _ ⟨(Upd.at_ _ _ _ _).trans (Upd.at_ _ _ _ _), (hB20.set_ 0 _).set_ 1 _⟩)) ?_
  rintro v30 w27 ⟨hu28, hB29⟩
  have hb31 : Below w.heap.size w w17 := (bstep hb25 hb21)
  have hb32 := upd_below hb31 hu28 (by omega)
  have hB33 := hB16.below hb21
  have hB34 := upd_blk hB33 hu28 (by omega)
  have hB35 := hB11.below hb21
  have hB36 := upd_blk hB35 hu28 (by omega)
  refine WL.nil ?_
  refine WE.next ?_
  refine WC.seq ?_
  refine WC.seq ?_
  refine WC.region ?_
  refine WL.asg rfl rfl rfl rfl rfl ?_
  refine WL.nil ?_
  refine WE.next ?_
  refine WC.block ?_
  have hl37 : g2 < w27.heap.size := by have z1 := hB34.lt; omega
  have hl38 : g9 < w27.heap.size := by have z1 := hB36.lt; omega
  have hl39 : g18 < w27.heap.size := by have z1 := hB29.lt; omega
  have hl40 : w.heap.size ≤ w27.heap.size := (hb32).size
  have hR41 : RowE eltT w27 w27.heap.size 30 none 0 0 [] := RowE.nil
  refine WC.loop (X := Option Addr × Nat × Nat) (fun x => l.length - x.2.2) (fun x => [(0, .agg #[.int .i64 f, .slice a l.length c]), (1, .pointer (some ⟨g2, 0, none⟩)), (2, .pointer (some ⟨g9, 0, none⟩)), (3, .pointer (some ⟨g18, 0, none⟩)), (4, .int .i64 (((x.2.2 : Nat) : Int)))]) (fun x w42 => x.2.2 ≤ l.length ∧ w27.heap.size ≤ (w42).heap.size ∧ Below w.heap.size w w42 ∧ Blk w42 g2 30 #[.int .i64 f, .slice a l.length c] ∧ Blk w42 g9 30 #[.int .i64 0, .slice none 0 0] ∧ Blk w42 g18 30 #[.int .i64 f, .slice x.1 x.2.2 x.2.1] ∧ RowE eltT (w42) w27.heap.size 30 x.1 x.2.1 x.2.2 (l.take x.2.2)) ((none, 0, 0)) ⟨rfl, rfl, rfl, rfl, rfl, trivial⟩ ?_ ?_
  · exact ⟨Nat.zero_le _, Nat.le_refl _, hb32, hB34, hB36, hB29, (by simpa using hR41)⟩
  · rintro x w42 ⟨hk, hBw, hb43, hB44, hB45, hB46, ho47⟩
    skip
    refine WC.seq ?_
    refine WC.seq ?_
    refine WC.region ?_
    refine WL.mv rfl rfl rfl rfl rfl ?_
    refine WL.val _ rfl rfl rfl (fun za zC zh zk => fld_30_1 rfl (zh.ev rfl) zk) ?_
    refine WL.val _ rfl rfl rfl (fun za zC zh zk => ld_28 rfl (zh.ev rfl) ((hB44.cell 1).trans rfl) zk) ?_
    refine WL.val (.int .i64 (((l.length : Nat) : Int))) rfl rfl rfl (fun za zC zh zk => len_28 rfl (zh.ev rfl) zk) ?_
    refine WL.val (.bool ((decide ((((x.2.2 : Nat) : Int) : Int) < (((l.length : Nat) : Int) : Int))))) rfl rfl rfl (fun za zC zh zk => lss_3 rfl (zh.ev rfl) (zh.ev rfl) zk) ?_
    refine WL.nil ?_
    refine WE.next ?_
    refine WC.cond rfl (fun h48 => ?_) (fun h48 => ?_)
    · have h48 : (((x.2.2 : Nat) : Int) : Int) < (((l.length : Nat) : Int) : Int) := by simpa using h48
      refine WC.skip ?_
      refine WE.next ?_
      refine WC.seq ?_
      refine WC.block ?_
      obtain ⟨b49, o50, A51, C52, ha53, hc54⟩ := IsTs.open hl
      have hSlt : ∀ b, (fun b => b = g18 ∨ (Value.slice x.1 x.2.2 x.2.1).ownBlock = some b) b → b < w42.heap.size := fun b h => h.elim (fun e => e ▸ hB46.lt) (fun h => (ho47.lt b h).2)
      have hSlo : ∀ b, (fun b => b = g18 ∨ (Value.slice x.1 x.2.2 x.2.1).ownBlock = some b) b → b = g18 ∨ (w27.heap.size ≤ b ∧ b < w42.heap.size) := fun b h => h.imp id (fun h => ho47.lt b h)
      have hBW : w27.heap.size ≤ w42.heap.size := by have z1 := hBw; omega
      have hlL : x.2.2 = ((l.take x.2.2)).length := ho47.len
      refine WC.tail2 (S := ((fun b => b = g18 ∨ (Value.slice x.1 x.2.2 x.2.1).ownBlock = some b))) [(true, .val (.pointer (some ⟨g18, 1, none⟩))), (true, .val (.slice x.1 x.2.2 x.2.1)), (true, .val (.pointer (some ⟨g2, 1, none⟩))), (true, .val (.slice a l.length c)), (true, .val (.int .i64 (((x.2.2 : Nat) : Int)))), (true, .val (.pointer (some ⟨b49, o50 + x.2.2 * 2, none⟩))), (true, .val (.agg #[.int .i64 ((tget l x.2.2).f), .slice ((A51 x.2.2)) ((tget l x.2.2).args.length) ((C52 x.2.2))])), (true, .mem (fun v w' => NewT w42 w' ((tget l x.2.2)) v) (fun v w w' hc h => InT.chg h hc (fun b hb hs => by have z := hSlt b hs; omega))), (true, .mem (fun v w' => OneRow eltT w42 30 ((tget l x.2.2)) v w') (fun v w w' hc h => h.chg hc hSlt)), (true, .val undef), (true, .val (.pointer (some ⟨g18, 1, none⟩))), (true, .val undef)] [(0, .agg #[.int .i64 f, .slice a l.length c]), (1, .pointer (some ⟨g2, 0, none⟩)), (2, .pointer (some ⟨g9, 0, none⟩)), (3, .pointer (some ⟨g18, 0, none⟩)), (4, .int .i64 (((x.2.2 : Nat) : Int))), (12, .bool ((decide ((((x.2.2 : Nat) : Int) : Int) < (((l.length : Nat) : Int) : Int)))))] 9 11 ((x.2.2 + 1)) 24 (fun ra rc wz => RowE eltT wz w27.heap.size 30 ra rc (x.2.2 + 1) ((l.take x.2.2 ++ [tget l x.2.2])) ∧ Blk wz g18 30 #[.int .i64 f, .slice x.1 x.2.2 x.2.1]) (fun ra rc wz => RowE eltT wz w27.heap.size 30 ra rc (x.2.2 + 1) ((l.take x.2.2 ++ [tget l x.2.2])) ∧ Blk wz g18 30 #[.int .i64 f, .slice ra ((x.2.2 + 1)) rc]) (by decide) (fun ra rc w w' hb h => ⟨h.1.below hb, h.2.below hb⟩) (fun ra rc w w' hb h => ⟨h.1.below hb, h.2.below hb⟩) ⟨rfl, rfl, rfl, rfl, rfl, rfl, trivial⟩ (by kernel_rfl) (by kernel_rfl) (by kernel_rfl) (by kernel_rfl) (by kernel_rfl) ?_ ?_
      · refine ⟨.inl ⟨rfl, true, .none rfl, (fun gg b h => by cases h), fun h w => optUndef h, fun zβ za zw zc => ?_⟩, ?_⟩
        · exact fld_30_1 rfl (zc.kn.ev rfl) ⟨_, rfl, Below.refl _ _, optDef zβ rfl⟩
        refine ⟨.inl ⟨rfl, true, .none rfl, (fun gg b h => by cases h), fun h w => optUndef h, fun zβ za zw zc => ?_⟩, ?_⟩
        · exact ld_28 rfl ((evt za 15).trans (optSVal (zc.dep 0 15 (by kernel_rfl) (by decide)) rfl rfl)) (bkeeps (zc.early (by kernel_rfl)) _ _ ((hB46.cell 1).trans rfl)) ⟨_, rfl, Below.refl _ _, optDef zβ rfl⟩
        refine ⟨.inl ⟨rfl, true, .none rfl, (fun gg b h => by cases h), fun h w => optUndef h, fun zβ za zw zc => ?_⟩, ?_⟩
        · exact fld_30_1 rfl (zc.kn.ev rfl) ⟨_, rfl, Below.refl _ _, optDef zβ rfl⟩
        refine ⟨.inl ⟨rfl, true, .none rfl, (fun gg b h => by cases h), fun h w => optUndef h, fun zβ za zw zc => ?_⟩, ?_⟩
        · exact ld_28 rfl ((evt za 17).trans (optSVal (zc.dep 2 17 (by kernel_rfl) (by decide)) rfl rfl)) (bkeeps (zc.early (by kernel_rfl)) _ _ ((hB44.cell 1).trans rfl)) ⟨_, rfl, Below.refl _ _, optDef zβ rfl⟩
        refine ⟨.inl ⟨rfl, true, .none rfl, (fun gg b h => by cases h), fun h w => optUndef h, fun zβ za zw zc => ?_⟩, ?_⟩
        · exact wp_move rfl (zc.kn.ev rfl) ⟨_, rfl, Below.refl _ _, optDef zβ rfl⟩
        refine ⟨.inl ⟨rfl, true, .none rfl, (fun gg b h => by cases h), fun h w => optUndef h, fun zβ za zw zc => ?_⟩, ?_⟩
        · exact ix_28 (k := x.2.2) rfl ((evt za 18).trans (optSVal (zc.dep 3 18 (by kernel_rfl) (by decide)) rfl rfl)) (ha53 x.2.2 (by first | omega | (simp; omega))) ((evt za 19).trans (optSVal (zc.dep 4 19 (by kernel_rfl) (by decide)) rfl rfl)) (by first | omega | (simp; omega)) ⟨_, rfl, Below.refl _ _, optDef zβ rfl⟩
        refine ⟨.inl ⟨rfl, true, .none rfl, (fun gg b h => by cases h), fun h w => optUndef h, fun zβ za zw zc => ?_⟩, ?_⟩
        · exact ld_30 rfl ((evt za 20).trans (optSVal (zc.dep 5 20 (by kernel_rfl) (by decide)) rfl rfl)) (bkeeps (bstep hb43 (zc.early (by kernel_rfl))) _ _ (hc54 x.2.2 (by first | omega | (simp; omega))).1) (bkeeps (bstep hb43 (zc.early (by kernel_rfl))) _ _ (hc54 x.2.2 (by first | omega | (simp; omega))).2.1) ⟨_, rfl, Below.refl _ _, optDef zβ rfl⟩
        refine ⟨.inl ⟨rfl, true, .none rfl, (fun gg b h => by cases h), fun h w => optUndef h, fun zβ za zw zc => ?_⟩, ?_⟩
        · exact wp_call (by kernel_rfl) rfl (hv1 ((evt za 21).trans (optSVal (zc.dep 6 21 (by kernel_rfl) (by decide)) rfl rfl))) (ih _ (tget_mem (by omega)) _ _ (size_at (by omega) hz) (IsT.below (bstep hb43 (zc.early (by kernel_rfl))) (hc54 x.2.2 (by first | omega | (simp; omega))).2.2)) (fun v w' h => ⟨v, rfl, h.2, optDef zβ (InT.mono (fun b hb _ => Nat.le_trans (zc.early (by kernel_rfl)).size hb) h.1)⟩)
        refine ⟨.inl ⟨rfl, true, .none rfl, (fun gg b h => by cases h), fun h w => optUndef h, fun zβ za zw zc => ?_⟩, ?_⟩
        · have zv := (optSMem (zc.dep 7 22 (by kernel_rfl) (by decide)) rfl rfl)
          obtain ⟨_, a1, c1, e1, _⟩ := zv.form
          rw [e1] at zv
          exact row_28_1 rfl ((evt za 22).trans e1) ⟨_, rfl, balloc _ _, optDef zβ ⟨_, _, rfl, zc.chg.size, Blk.new' rfl, _, _, rfl, zv.below (balloc _ _)⟩⟩
        refine ⟨.inr (.inl ⟨rfl, rfl, fun za zw zc => ?_⟩), ?_⟩
        · obtain ⟨g1, cs, e1, hg1, hB1, hin⟩ := (optSMem (zc.dep 8 23 (by kernel_rfl) (by decide)) rfl rfl)
          exact wp_appE (E := eltT) (size := 2) (bytes := 32) (z := .agg #[.int .i64 0, .slice none 0 0]) rfl Try.underlying28 (by kernel_rfl) rfl (by decide) rfl ((evt za 16).trans (optSVal (zc.dep 1 16 (by kernel_rfl) (by decide)) rfl rfl)) ((evt za 23).trans e1) (ho47.below zc.below) hB1 (eltT.mono (fun b hb _ => ⟨by omega, fun e => by have z := (ho47.lt b e).2; omega⟩) hin) (by omega) (by omega) (by have z := zc.below.size; omega) (fun ra rc w' h1 h2 _ => ⟨ra, rc, rfl, ⟨h1, chg_blk (hB46.below zc.below) h2 (fun e => by have z := (ho47.lt _ e).1; omega)⟩, h2.mono (fun b hb => .inr hb)⟩)
        refine ⟨.inl ⟨rfl, true, .none rfl, (fun gg b h => by cases h), fun h w => optUndef h, fun zβ za zw zc => ?_⟩, ?_⟩
        · exact fld_30_1 rfl (zc.kn.ev rfl) ⟨_, rfl, Below.refl _ _, optDef zβ rfl⟩
        refine ⟨.inr (.inr ⟨rfl, rfl, 24, by kernel_rfl, fun za zw ra rc zk zd zv zg => ?_⟩), ?_⟩
        · exact st_28 rfl ((evt za 25).trans (optSVal (zd 10 25 (by kernel_rfl) (by decide)) rfl rfl)) ((evt za 24).trans zv) zg.2 (by first | decide | simp) (fun v => ⟨v, rfl, ⟨zg.1.upd (Upd.at_ _ _ _ _) (by omega), zg.2.set_ 1 _⟩, .ofUpd (Upd.at_ _ _ _ _) (.inl rfl)⟩)
        exact trivial
      · intro za w55 ra58 rc59 zh zv hG56 hc57 zu
        have hb60 := chg_below hb43 hc57 (fun b hb => (fun h => by rcases hSlo _ h with h | h <;> omega))
        have hB61 := chg_blk hB44 hc57 (fun h => by rcases hSlo _ h with h | h <;> omega)
        have hB62 := chg_blk hB45 hc57 (fun h => by rcases hSlo _ h with h | h <;> omega)
        clear zu
        refine WE.go zh ?_
        refine WE.blockNormal ?_
        refine WE.next ?_
        refine WC.region ?_
        refine WL.mv rfl rfl rfl rfl rfl ?_
        refine WL.val (.int .i64 ((((x.2.2 + 1) : Nat) : Int))) rfl rfl rfl (fun za zC zh zk => addb_3 rfl (zh.ev rfl) (zh.ev rfl) (wrap_eq (by omega) (by omega) (by omega)) zk) ?_
        refine WL.asg rfl rfl rfl rfl rfl ?_
        refine WL.nil ?_
        refine WE.round ((ra58, rc59, x.2.2 + 1)) ⟨rfl, rfl, rfl, rfl, rfl, trivial⟩ ?_ ?_
        · exact ⟨by (try dsimp only at *); omega, (Nat.le_trans hBw hc57.size), hb60, hB61, hB62, hG56.2, (by rw [← take_snocT (by omega)]; exact hG56.1)⟩
        · dsimp only; omega
    · have h48 : ¬ ((((x.2.2 : Nat) : Int) : Int) < (((l.length : Nat) : Int) : Int)) := by simpa using h48
      refine WC.exit ?_
      refine WE.thenExit ?_
      refine WE.thenExit ?_
      refine WE.blockIs rfl ?_
      refine WE.next ?_
      refine WC.seq ?_
      refine WC.region ?_
      refine WL.val _ rfl rfl rfl (fun za zC zh zk => ld_30 rfl (zh.ev rfl) ((hB46.cell 0).trans rfl) ((hB46.cell 1).trans rfl) zk) ?_
      refine WL.step (post := fun _ w' => Upd g9 w42 w' ∧ Blk w' g9 30 #[.int .i64 f, .slice x.1 x.2.2 x.2.1]) rfl rfl rfl (fun za zC zh zk => st_30 rfl (zh.ev rfl) (zh.ev rfl) rfl rfl hB45 (by first | decide | simp) (fun v => zk v _ ⟨(Upd.at_ _ _ _ _).trans (Upd.at_ _ _ _ _), (hB45.set_ 0 _).set_ 1 _⟩)) ?_
      rintro v66 w63 ⟨hu64, hB65⟩
      have hb67 := upd_below hb43 hu64 (by omega)
      have hB68 := upd_blk hB44 hu64 (by omega)
      have hB69 := upd_blk hB46 hu64 (by omega)
      have ho70 := ho47.upd hu64 (by omega)
      refine WL.nil ?_
      refine WE.next ?_
      refine WC.ret ?_
      refine WE.retAny (v := .agg #[.int .i64 f, .slice x.1 x.2.2 x.2.1]) (fun za zh => ?_) ?_
      · have z0 : za.tmps[2]?.getD undef = .pointer (some ⟨g9, 0, none⟩) := by rw [← Array.getD_eq_getD_getElem?]; exact zh.knows 2 _ rfl
        have y0 : w63.cell? ⟨g9, 0, none⟩ = some (.int .i64 f) := ((hB65.cell 0).trans rfl)
        have y1 : w63.cell? ⟨g9, 1, none⟩ = some (.slice x.1 x.2.2 x.2.1) := ((hB65.cell 1).trans rfl)
        simp [results, Try.results55, z0, y0, y1, go_sem]
      · refine ⟨_, rfl, ?_, hb67⟩
        have z := ho70
        rw [List.take_of_length_le (by omega)] at z
        exact newT_row hf z (by omega)
end Go.Proofs.Ytmdpiafeiopimaa

/- Substitutions: how they lie in memory. -/
namespace Go.Proofs.Ytmdpiafeiopimaa
open Go.RowKit Go
set_option linter.unusedVariables false
set_option linter.unusedSimpArgs false
structure Bd where
  var : Int
  t : T
instance : Inhabited Bd := ⟨⟨0, .mk 0 []⟩⟩
def eltB : Elt Bd where
  k := 3
  In := fun S w x cs => ∃ u v, cs = [.int .i64 x.var, u, v] ∧ I64 x.var ∧ InT S w x.t (.agg #[u, v])
  keep := fun hb ⟨u, v, e, h0, h⟩ => ⟨u, v, e, h0, h.keep hb⟩
  mono := fun hb ⟨u, v, e, h0, h⟩ => ⟨u, v, e, h0, h.mono hb⟩
  len := fun ⟨_, _, e, _⟩ => by rw [e]; rfl
  one := fun ⟨u, v, e, _, h⟩ x hx => by
    obtain ⟨_, a, c, e2, _⟩ := h.form
    simp only [Value.agg.injEq, Array.mk.injEq, List.cons.injEq, and_true] at e2
    rw [e] at hx
    simp only [List.mem_cons, List.not_mem_nil, or_false] at hx
    rcases hx with rfl | rfl | rfl
    · rfl
    · rw [e2.1]; rfl
    · rw [e2.2]; rfl
def dget (l : List Bd) (k : Nat) : Bd := l.getD k default
theorem dget_lt {l : List Bd} {k : Nat} (h : k < l.length) : dget l k = l[k] := by simp [dget, h]
theorem dget_mem {l : List Bd} {k : Nat} (h : k < l.length) : dget l k ∈ l := by rw [dget_lt h]; exact List.getElem_mem h
/-- A substitution that came in. -/
abbrev IsBs (w : World) (l : List Bd) (a : Option Addr) : Prop := InRow eltB (fun _ => True) w l a
theorem InRow.openB {S : Nat → Prop} {w : World} {l : List Bd} {a : Option Addr} (h : InRow eltB S w l a) : ∃ (b o : Nat) (A : Nat → Option Addr) (C : Nat → Nat), (∀ k, k < l.length → a = some ⟨b, o, none⟩) ∧
    ∀ k, k < l.length → w.cell? ⟨b, o + k * 3, none⟩ = some (.int .i64 (dget l k).var) ∧ w.cell? ⟨b, o + k * 3 + 1, none⟩ = some (.int .i64 (dget l k).t.f) ∧ w.cell? ⟨b, o + k * 3 + 2, none⟩ = some (.slice (A k) (dget l k).t.args.length (C k)) ∧
      InT S w (dget l k).t (.agg #[.int .i64 (dget l k).t.f, .slice (A k) (dget l k).t.args.length (C k)]) ∧ I64 (dget l k).var := by
  rcases Nat.eq_zero_or_pos l.length with h0 | h0
  · exact ⟨0, 0, fun _ => none, fun _ => 0, fun k hk => by omega, fun k hk => by omega⟩
  · obtain ⟨b, o, _, ha, _⟩ := h 0 h0
    have key : ∀ k, k < l.length → ∃ p : Option Addr × Nat, w.cell? ⟨b, o + k * 3, none⟩ = some (.int .i64 (dget l k).var) ∧ w.cell? ⟨b, o + k * 3 + 1, none⟩ = some (.int .i64 (dget l k).t.f) ∧ w.cell? ⟨b, o + k * 3 + 2, none⟩ = some (.slice p.1 (dget l k).t.args.length p.2) ∧
      InT S w (dget l k).t (.agg #[.int .i64 (dget l k).t.f, .slice p.1 (dget l k).t.args.length p.2]) ∧ I64 (dget l k).var := by
      intro k hk
      obtain ⟨b', o', cs, ha', _, ⟨u, v, rfl, h1, h2⟩, h3⟩ := h k hk
      rw [ha] at ha'
      simp only [Option.some.injEq, Addr.mk.injEq, and_true] at ha'
      obtain ⟨rfl, rfl⟩ := ha'
      obtain ⟨_, p, c, e, _, _, _⟩ := h2.form
      simp only [Value.agg.injEq, Array.mk.injEq, List.cons.injEq, and_true] at e
      obtain ⟨rfl, rfl⟩ := e
      rw [dget_lt hk]
      have c0 := h3 0 (by decide)
      have c1 := h3 1 (by decide)
      have c2 := h3 2 (by decide)
      exact ⟨(p, c), c0, c1, c2, h2, h1⟩
    have : Inhabited (Option Addr × Nat) := ⟨(none, 0)⟩
    obtain ⟨F, hF⟩ := Go.Deep.choose_lt key
    exact ⟨b, o, fun k => (F k).1, fun k => (F k).2, fun _ _ => ha, hF⟩
/-- A pointer to a term. -/
def IsTp (w : World) (t : T) (v : Value) : Prop := ∃ (b o : Nat) (a : Option Addr) (c : Nat), v = .pointer (some ⟨b, o, none⟩) ∧ w.cell? ⟨b, o, none⟩ = some (.int .i64 t.f) ∧ w.cell? ⟨b, o + 1, none⟩ = some (.slice a t.args.length c) ∧ IsT w t (.agg #[.int .i64 t.f, .slice a t.args.length c])
theorem IsTp.below {w w' : World} {t : T} {v : Value} (hb : Below w.heap.size w w') (h : IsTp w t v) : IsTp w' t v := by
  obtain ⟨b, o, a, c, e, h1, h2, h3⟩ := h
  exact ⟨b, o, a, c, e, bkeeps hb _ _ h1, bkeeps hb _ _ h2, IsT.below hb h3⟩
/-- A pointer to a term, or none. -/
def IsTo (w : World) (t : Option T) (v : Value) : Prop := match t with | none => v = .pointer none | some t => IsTp w t v
theorem IsTo.below {w w' : World} {t : Option T} {v : Value} (hb : Below w.heap.size w w') (h : IsTo w t v) : IsTo w' t v := by
  cases t with
  | none => exact h
  | some t => exact IsTp.below hb h
def Bd.itself (b : Bd) : Bool := decide (b.t.f = -1 - b.var) && decide (b.t.args.length = 0)
def subOk : Int → List Bd → Bool
  | _, [] => true
  | last, b :: r => if b.var ≤ last ∨ b.itself = true then false else subOk b.var r
def subCheck (l : List Bd) : Int := if subOk (-1) l then 0 else 2
def subFind (l : List Bd) (v : Int) : Option T := (l.find? fun b => decide (b.var = v)).map (·.t)
end Go.Proofs.Ytmdpiafeiopimaa

/- What a variable is bound to. -/
namespace Go.Proofs.Ytmdpiafeiopimaa
open Go.RowKit Go
set_option linter.unusedVariables false
set_option linter.unusedSimpArgs false
/-- The value is the binding. -/
def IsBd (w : World) (x : Bd) (v : Value) : Prop := ∃ a c, v = .agg #[.int .i64 x.var, .int .i64 x.t.f, .slice a x.t.args.length c] ∧ I64 x.var ∧ IsT w x.t (.agg #[.int .i64 x.t.f, .slice a x.t.args.length c])
theorem IsBd.below {w w' : World} {x : Bd} {v : Value} (hb : Below w.heap.size w w') (h : IsBd w x v) : IsBd w' x v := by
 obtain ⟨a, c, e, h1, h2⟩ := h; exact ⟨a, c, e, h1, IsT.below hb h2⟩
set_option maxRecDepth 100000 in
theorem ritself_any (x : Bd) (w : World) (v : Value) (hi : I64 x.var) (hv : IsT w x.t v) : Calls Try.prog 19 #[v, .int .i64 x.var] w (Ret fun v' w' => v' = .bool x.itself ∧ Below w.heap.size w w') := by
 obtain ⟨hf, a, c, rfl, hc, hm, hl⟩ := hv.form
 unfold I64 at hi
 refine Calls.walk (l := [.agg #[.int .i64 x.t.f, .slice a x.t.args.length c], .int .i64 x.var]) Try.func19 rfl (by kernel_rfl) ?_
 refine WC.sub (K' := [(0, .agg #[.int .i64 x.t.f, .slice a x.t.args.length c]), (1, .int .i64 x.var)]) ⟨rfl, rfl, trivial⟩ ?_
 refine WC.seq (WC.region ?_)
 refine WL.step (post := NewBlk w 30 #[.int .i64 x.t.f, .slice a x.t.args.length c]) rfl rfl rfl (fun za zC zh zk => box_30 rfl (zh.ev rfl) (zk _ _ (newBlk _ _ _))) ?_
 rintro _ w1 ⟨g2, rfl, hg3, hB4, hb5, hz6⟩
 have hl7 : w.heap.size ≤ g2 := by omega
 refine WL.asg rfl rfl rfl rfl rfl (WL.nil (WE.next (WC.seq ?_)))
 refine WC.opt [(true, .val (.pointer (some ⟨g2, 0, none⟩))), (true, .val (.int .i64 x.t.f)), (true, .val (.int .i64 x.var)), (true, .val (.int .i64 ((-1 - x.var)))), (true, .val (.bool (((x.t.f : Int) == ((-1 - x.var) : Int))))), (true, .val (.bool (((x.t.f : Int) == ((-1 - x.var) : Int))))), ((true && ((x.t.f : Int) == ((-1 - x.var) : Int))), .val (.pointer (some ⟨g2, 1, none⟩))), ((true && ((x.t.f : Int) == ((-1 - x.var) : Int))), .val (.slice a x.t.args.length c)), ((true && ((x.t.f : Int) == ((-1 - x.var) : Int))), .val (.int .i64 (((x.t.args.length : Nat) : Int)))), ((true && ((x.t.f : Int) == ((-1 - x.var) : Int))), .val (.bool (((((x.t.args.length : Nat) : Int) : Int) == (0 : Int))))), (true, .val (.bool ((((x.t.f : Int) == ((-1 - x.var) : Int)) && ((((x.t.args.length : Nat) : Int) : Int) == (0 : Int)))))), (true, .val (.bool ((((x.t.f : Int) == ((-1 - x.var) : Int)) && ((((x.t.args.length : Nat) : Int) : Int) == (0 : Int))))))] [(0, .agg #[.int .i64 x.t.f, .slice a x.t.args.length c]), (1, .int .i64 x.var), (2, .pointer (some ⟨g2, 0, none⟩))] ⟨rfl, rfl, rfl, trivial⟩ (by kernel_rfl) (by kernel_rfl) (by kernel_rfl) ?_ ?_
 ·refine ⟨⟨true, .none rfl, fun h w => optUndef h, fun zβ za zw zc => ?_⟩, ?_⟩
  ·exact fld_30_0 rfl (zc.kn.ev rfl) ⟨_, rfl, Below.refl _ _, optDef zβ rfl⟩
  refine ⟨⟨true, .none rfl, fun h w => optUndef h, fun zβ za zw zc => ?_⟩, ?_⟩
  ·exact ld_3 rfl ((evt za 5).trans (optVal (zc.dep 0 5 (by kernel_rfl)) rfl rfl)) (bkeeps zc.below _ _ ((hB4.cell 0).trans rfl)) ⟨_, rfl, Below.refl _ _, optDef zβ rfl⟩
  refine ⟨⟨true, .none rfl, fun h w => optUndef h, fun zβ za zw zc => ?_⟩, ?_⟩
  ·exact wp_move rfl (zc.kn.ev rfl) ⟨_, rfl, Below.refl _ _, optDef zβ rfl⟩
  refine ⟨⟨true, .none rfl, fun h w => optUndef h, fun zβ za zw zc => ?_⟩, ?_⟩
  ·exact subb_3 rfl (zc.kn.ev rfl) ((evt za 7).trans (optVal (zc.dep 2 7 (by kernel_rfl)) rfl rfl)) (wrap_eq rfl (by omega) (by omega)) ⟨_, rfl, Below.refl _ _, optDef zβ rfl⟩
  refine ⟨⟨true, .none rfl, fun h w => optUndef h, fun zβ za zw zc => ?_⟩, ?_⟩
  ·exact eql_3 rfl ((evt za 6).trans (optVal (zc.dep 1 6 (by kernel_rfl)) rfl rfl)) ((evt za 8).trans (optVal (zc.dep 3 8 (by kernel_rfl)) rfl rfl)) ⟨_, rfl, Below.refl _ _, optDef zβ rfl⟩
  refine ⟨⟨true, .none rfl, fun h w => optUndef h, fun zβ za zw zc => ?_⟩, ?_⟩
  ·exact wp_move rfl ((evt za 9).trans (optVal (zc.dep 4 9 (by kernel_rfl)) rfl rfl)) ⟨_, rfl, Below.refl _ _, optDef zβ rfl⟩
  refine ⟨⟨_, .yes (c := ((x.t.f : Int) == ((-1 - x.var) : Int))) (d := true) rfl (fun v w h => h), fun h w => optUndef h, fun zβ za zw zc => ?_⟩, ?_⟩
  ·exact fld_30_1 rfl (zc.kn.ev rfl) ⟨_, rfl, Below.refl _ _, optDef zβ rfl⟩
  refine ⟨⟨_, .yes (c := ((x.t.f : Int) == ((-1 - x.var) : Int))) (d := true) rfl (fun v w h => h), fun h w => optUndef h, fun zβ za zw zc => ?_⟩, ?_⟩
  ·exact ld_28 rfl ((evt za 11).trans (optVal (zc.dep 6 11 (by kernel_rfl)) rfl zβ)) (bkeeps zc.below _ _ ((hB4.cell 1).trans rfl)) ⟨_, rfl, Below.refl _ _, optDef zβ rfl⟩
  refine ⟨⟨_, .yes (c := ((x.t.f : Int) == ((-1 - x.var) : Int))) (d := true) rfl (fun v w h => h), fun h w => optUndef h, fun zβ za zw zc => ?_⟩, ?_⟩
  ·exact len_28 rfl ((evt za 12).trans (optVal (zc.dep 7 12 (by kernel_rfl)) rfl zβ)) ⟨_, rfl, Below.refl _ _, optDef zβ rfl⟩
  refine ⟨⟨_, .yes (c := ((x.t.f : Int) == ((-1 - x.var) : Int))) (d := true) rfl (fun v w h => h), fun h w => optUndef h, fun zβ za zw zc => ?_⟩, ?_⟩
  ·exact eql_3 rfl ((evt za 13).trans (optVal (zc.dep 8 13 (by kernel_rfl)) rfl zβ)) (zc.kn.ev rfl) ⟨_, rfl, Below.refl _ _, optDef zβ rfl⟩
  refine ⟨⟨true, .none rfl, fun h w => optUndef h, fun zβ za zw zc => ?_⟩, ?_⟩
  ·exact wp_and rfl ((evt za 10).trans (optVal (zc.dep 5 10 (by kernel_rfl)) rfl rfl)) (fun hp => ((evt za 14).trans (optVal (zc.dep 9 14 (by kernel_rfl)) rfl (bMk zβ hp)))) ⟨_, rfl, Below.refl _ _, optDef zβ rfl⟩
  refine ⟨⟨true, .none rfl, fun h w => optUndef h, fun zβ za zw zc => ?_⟩, ?_⟩
  ·exact wp_assign rfl ((evt za 15).trans (optVal (zc.dep 10 15 (by kernel_rfl)) rfl rfl)) ⟨_, rfl, Below.refl _ _, optDef zβ rfl⟩
  exact trivial
 ·intro za w8 zh hb9 zu
  have zh := zh.cons (d := 4) (v := .bool ((((x.t.f : Int) == ((-1 - x.var) : Int)) && ((((x.t.args.length : Nat) : Int) : Int) == (0 : Int))))) (optVal (zu 11 4 (by kernel_rfl)) rfl rfl)
  clear zu
  refine WE.go zh ?_
  refine WE.next (WC.ret (WE.ret1 rfl rfl ?_))
  have hb10 : Below w.heap.size w w8 := (bstep hb5 hb9)
  exact ⟨_, rfl, congrArg Value.bool (by unfold Bd.itself; rw [Bool.eq_iff_iff]; simp), hb10⟩
theorem subCheck_of {l : List Bd} {b : Bool} (h : subOk (-1) l = b) : subCheck l = if b then 0 else 2 := by unfold subCheck; rw [h]
theorem subFind_none {l : List Bd} {m : Int} (h : ∀ k, k < l.length → (dget l k).var ≠ m) : subFind l m = none := by
 unfold subFind
 rw [List.find?_eq_none.2 (fun x hx => ?_)]; rfl
 obtain ⟨k, hk, rfl⟩ := List.getElem_of_mem hx
 have := h k hk
 rw [dget_lt hk] at this
 simpa using this
theorem subFind_at : ∀ {l : List Bd} {m : Int} {i : Nat}, i < l.length → (dget l i).var = m → (∀ k, k < i → (dget l k).var ≠ m) → subFind l m = some (dget l i).t
 | [], _, i, h, _, _ => by simp at h
 | b :: r, m, 0, _, h1, _ => by
  have e : b.var = m := h1
  unfold subFind
  rw [List.find?_cons_of_pos (by simpa using e)]; rfl
 | b :: r, m, i + 1, h, h1, h2 => by
  have e : b.var ≠ m := h2 0 (by omega)
  have := subFind_at (l := r) (m := m) (i := i) (by simpa using h) h1 (fun k hk => h2 (k + 1) (by omega))
  unfold subFind at this ⊢
  rw [List.find?_cons_of_neg (by simpa using e)]; exact this
theorem ne_step {l : List Bd} {m : Int} {k : Nat} (h : ∀ i, i < k → (dget l i).var ≠ m) (hk : ¬ (dget l k).var = m) : ∀ i, i < k + 1 → (dget l i).var ≠ m := fun i hi => by
 rcases Nat.lt_or_ge i k with q | q
 ·exact h i q
 ·obtain rfl : i = k := by omega
  exact hk
end Go.Proofs.Ytmdpiafeiopimaa

namespace Go.Proofs.Ytmdpiafeiopimaa
open Go.RowKit Go
set_option linter.unusedVariables false
set_option linter.unusedSimpArgs false
mutual
def T.app (s : List Bd) : T → T
  | .mk f l => match (if f < 0 then subFind s (-1 - f) else none) with
    | some t => t
    | none => .mk f (T.appL s l)
def T.appL (s : List Bd) : List T → List T
  | [] => []
  | t :: r => t.app s :: T.appL s r
end
theorem T.appL_eq (s : List Bd) : ∀ l : List T, T.appL s l = l.map (T.app s)
  | [] => rfl
  | t :: r => by rw [T.appL, T.appL_eq s r]; rfl
theorem app_some {s : List Bd} {f : Int} {l : List T} {t : T} (hf : f < 0) (h : subFind s (-1 - f) = some t) : (T.mk f l).app s = t := by
  simp only [T.app, if_pos hf, h]
theorem app_none {s : List Bd} {f : Int} {l : List T} (h : f < 0 → subFind s (-1 - f) = none) : (T.mk f l).app s = .mk f (l.map (T.app s)) := by
  have : (if f < 0 then subFind s (-1 - f) else none) = none := by
    split
    · exact h ‹_›
    · rfl
  simp only [T.app, this, T.appL_eq]
theorem take_map {s : List Bd} {l : List T} {k : Nat} (h : k < l.length) : (l.take k).map (T.app s) ++ [(tget l k).app s] = (l.take (k + 1)).map (T.app s) := by
  rw [List.take_succ_eq_append_getElem h, List.map_append, tget_lt h]; rfl
theorem subFind_mem {s : List Bd} {m : Int} {t : T} (h : subFind s m = some t) : ∃ b ∈ s, b.t = t := by
  unfold subFind at h
  obtain ⟨b, hb, rfl⟩ := Option.map_eq_some_iff.1 h
  exact ⟨b, List.mem_of_find?_eq_some hb, rfl⟩
/-- A substitution that came in: it lies in memory, is no longer than that, its terms are no larger. -/
structure IsSub (w : World) (s : List Bd) (a : Option Addr) (c : Nat) : Prop where
  rows : IsBs w s a
  len : s.length ≤ c
  cap : c ≤ maxLen
  small : s.length ≤ 4294967296
  parts : ∀ b ∈ s, b.t.size ≤ 4294967296
theorem IsSub.below {w w' : World} {s : List Bd} {a : Option Addr} {c : Nat} (h : IsSub w s a c) (hb : Below w.heap.size w w') : IsSub w' s a c := ⟨h.rows.below hb, h.len, h.cap, h.small, h.parts⟩
theorem IsSub.found {w : World} {s : List Bd} {a : Option Addr} {c : Nat} (h : IsSub w s a c) {m : Int} {t : T} (hf : subFind s m = some t) : t.size ≤ 4294967296 := by
  obtain ⟨b, hb, rfl⟩ := subFind_mem hf; exact h.parts b hb
end Go.Proofs.Ytmdpiafeiopimaa
