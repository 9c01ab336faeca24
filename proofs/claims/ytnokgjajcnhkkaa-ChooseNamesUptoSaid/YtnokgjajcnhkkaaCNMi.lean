/- What a variable is bound to. -/
import Derived.Test.YtnokgjajcnhkkaaCNMh
import Derived.Test.YtnokgjajcnhkkaaCNMc
import Derived.Test.YtnokgjajcnhkkaaCNMg
import Derived.Test.YtnokgjajcnhkkaaCNMa
import Derived.WalkKit
import Derived.Test.YtnokgjajcnhkkaaCNMb

/- Which literal is selected, and whether places may be; the program. -/
namespace Go.Proofs.Ytnokgjajcnhkkaa
open Go.RowKit Go
set_option linter.unusedVariables false
set_option linter.unusedSimpArgs false
/-- Which literal is selected. -/
def selK (o : Od) (k : Int) (l : List Li) : Int := if k = 1 then firstK l l.length else if k = 2 then pickK false l l.length else if k = 3 then pickK true l l.length else if k = 4 then (if oneB o l = true then -1 else pickK true l l.length) else -1
theorem selK_at (o : Od) (k : Int) (l : List Li) : selK o k l = -1 ∨ ∃ q, q < l.length ∧ selK o k l = (q : Int) ∧ (lget l q).neg = true := by
 unfold selK
 repeat' split
 ·exact firstK_in l _
 ·exact pickK_at _ l _
 ·exact pickK_at _ l _
 ·exact .inl rfl
 ·exact pickK_at _ l _
 ·exact .inl rfl
/-- What is told of the one that is selected. -/
def SelIs (w : World) (k : Int) (v : Value) : Prop := (k < 0 ∧ v = .slice none 0 0) ∨ (0 ≤ k ∧ ∃ g, v = .slice (some ⟨g, 0, none⟩) 1 1 ∧ Blk w g 3 #[.int .i64 k])
def selL (k : Int) : List Int := if k < 0 then [] else [k]
theorem isInts_1 {w : World} {g t : Nat} {k : Int} (hB : Blk w g t #[.int .i64 k]) (hk : I64 k) : IsInts w [k] (some ⟨g, 0, none⟩) := by
 intro i hi
 obtain rfl : i = 0 := by simpa using hi
 refine ⟨g, 0, [.int .i64 k], rfl, rfl, fun j hj => ?_, rfl, hk⟩
 obtain rfl : j = 0 := by omega
 exact hB.cell 0
theorem SelIs.row {w : World} {k : Int} {v : Value} (h : SelIs w k v) (hk : I64 k) : ∃ a c, v = .slice a (selL k).length c ∧ IsInts w (selL k) a := by
 rcases h with ⟨h1, rfl⟩ | ⟨h1, g, rfl, hB⟩
 ·exact ⟨_, _, by rw [selL, if_pos h1]; rfl, by rw [selL, if_pos h1]; intro i hi; simp at hi⟩
 ·refine ⟨_, _, by rw [selL, if_neg (by omega)]; rfl, ?_⟩
  rw [selL, if_neg (by omega)]
  exact isInts_1 hB hk
theorem isInts_take {w : World} {l : List Int} {a : Option Addr} (h : IsInts w l a) (n : Nat) : IsInts w (l.take n) a := by
 intro i hi
 have hi' : i < l.length := by rw [List.length_take] at hi; omega
 have := h i hi'
 rw [List.getElem_take]; exact this
def indexK (l : List Int) (x : Int) : Nat → Int
 | 0 => -1
 | k + 1 => if 0 ≤ indexK l x k then indexK l x k else if iget l k = x then (k : Int) else -1
theorem indexK_none {l : List Int} {x : Int} : ∀ {k : Nat}, (∀ q, q < k → iget l q ≠ x) → indexK l x k = -1
 | 0, _ => rfl
 | k + 1, h => by unfold indexK; rw [indexK_none (fun q hq => h q (by omega)), if_neg (by omega), if_neg (h k (by omega))]
theorem indexK_at {l : List Int} {x : Int} {k : Nat} (h0 : ∀ q, q < k → iget l q ≠ x) (h : iget l k = x) : ∀ {n : Nat}, k < n → indexK l x n = (k : Int)
 | 0, hn => absurd hn (Nat.not_lt_zero _)
 | n + 1, hn => by
  unfold indexK
  by_cases e : k = n
  ·subst e
   rw [indexK_none h0, if_neg (by omega), if_pos h]
  ·rw [indexK_at h0 h (show k < n by omega), if_pos (by omega)]
theorem indexK_in (l : List Int) (x : Int) (n : Nat) : decide ((0 : Int) ≤ indexK l x n) = (List.range n).any fun q => decide (iget l q = x) := by
 induction n with
 | zero => simp [indexK]
 | succ n ih =>
  rw [List.range_succ, List.any_append, ← ih]
  rw [show indexK l x (n + 1) = if 0 ≤ indexK l x n then indexK l x n else if iget l n = x then (n : Int) else -1 from rfl]
  by_cases h : 0 ≤ indexK l x n
  ·rw [if_pos h]; simp [h]
  ·rw [if_neg h]
   by_cases e : iget l n = x
   ·rw [if_pos e]; simp [e]
   ·rw [if_neg e]; simp [h, e]
set_option maxRecDepth 100000 in
theorem index_any (l : List Int) (x : Int) (w : World) (a : Option Addr) (c : Nat) (hl : IsInts w l a) (hz : l.length ≤ 4294967296) : Calls Try.prog 34 #[.slice a l.length c, .int .i64 x] w (Ret fun v' w' => v' = .int .i64 (indexK l x l.length) ∧ Below w.heap.size w w') := by
 refine Calls.walk (l := [.slice a l.length c, .int .i64 x]) Try.func34 rfl (by kernel_rfl) ?_
 refine WC.sub (K' := [(0, .slice a l.length c), (1, .int .i64 x)]) ⟨rfl, rfl, trivial⟩ ?_
 refine WC.seq (WC.region (WL.asg rfl rfl rfl rfl rfl (WL.nil (WE.next (WC.seq (WC.seq (WC.region (WL.mv rfl rfl rfl rfl rfl ?_))))))))
 refine WL.val (.int .i64 (((l.length : Nat) : Int))) rfl rfl rfl (fun za zC zh zk => len_22 rfl (zh.ev rfl) zk) ?_
 refine WL.mv rfl rfl rfl rfl rfl (WL.nil (WE.next (WC.block ?_)))
 refine WC.loop (X := Nat) (fun k => l.length - k) (fun k => [(0, .slice a l.length c), (1, .int .i64 x), (7, .int .i64 (((l.length : Nat) : Int))), (8, .int .i64 (((k : Nat) : Int)))]) (fun k w1 => k ≤ l.length ∧ (∀ q, q < k → iget l q ≠ x) ∧ Below w.heap.size w w1) 0 ⟨rfl, rfl, rfl, rfl, trivial⟩ ?_ ?_
 ·exact ⟨Nat.zero_le _, fun q h => absurd h (Nat.not_lt_zero q), (Below.refl _ _)⟩
 ·rintro k w1 ⟨hk, hall, hb2⟩
  refine WC.seq (WC.region ?_)
  refine WL.val (.bool ((decide ((((k : Nat) : Int) : Int) < (((l.length : Nat) : Int) : Int))))) rfl rfl rfl (fun za zC zh zk => lss_3 rfl (zh.ev rfl) (zh.ev rfl) zk) ?_
  refine WL.nil (WE.next (WC.seq ?_))
  refine WC.cond rfl (fun h3 => ?_) (fun h3 => ?_)
  ·have h3 : (((k : Nat) : Int) : Int) < (((l.length : Nat) : Int) : Int) := by simpa using h3
   refine WC.skip (WE.next (WC.seq (WC.block (WC.seq (WC.region (WL.mv rfl rfl rfl rfl rfl (WL.asg rfl rfl rfl rfl rfl (WL.nil (WE.next (WC.seq (WC.region (WL.mv rfl rfl rfl rfl rfl (WL.mv rfl rfl rfl rfl rfl (WL.mv rfl rfl rfl rfl rfl ?_))))))))))))))
   obtain ⟨b4, o5, ha6, hc7⟩ := IsInts.open hl
   refine WL.val _ rfl rfl rfl (fun za zC zh zk => ix_22 (k := k) rfl (zh.ev rfl) (ha6 k (by first | omega | (simp; omega))) (zh.ev rfl) (by first | omega | (simp; omega)) zk) ?_
   refine WL.val _ rfl rfl rfl (fun za zC zh zk => ld_3 rfl (zh.ev rfl) (bkeeps hb2 _ _ (hc7 k (by first | omega | (simp; omega)))) zk) ?_
   refine WL.val (.bool (((x : Int) == ((iget l k) : Int)))) rfl rfl rfl (fun za zC zh zk => eql_3 rfl (zh.ev rfl) (zh.ev rfl) zk) ?_
   refine WL.nil (WE.next ?_)
   refine WC.cond rfl (fun h8 => ?_) (fun h8 => ?_)
   ·have h8 : (x : Int) = ((iget l k) : Int) := by simpa using h8
    refine WC.seq (WC.region (WL.mv rfl rfl rfl rfl rfl (WL.asg rfl rfl rfl rfl rfl (WL.nil (WE.next (WC.ret (WE.blockRet (WE.thenRet (WE.thenRet (WE.blockRet (WE.thenRet (WE.ret1 rfl rfl ?_))))))))))))
    exact ⟨_, rfl, by rw [indexK_at hall h8.symm (by omega)], hb2⟩
   ·have h8 : ¬ ((x : Int) = ((iget l k) : Int)) := by simpa using h8
    refine WC.skip (WE.blockNormal (WE.next (WC.region ?_)))
    refine WL.val (.int .i64 ((((k + 1) : Nat) : Int))) rfl rfl rfl (fun za zC zh zk => addb_3 rfl (zh.ev rfl) (zh.ev rfl) (wrap_eq (by omega) (by omega) (by omega)) zk) ?_
    refine WL.mv rfl rfl rfl rfl rfl (WL.nil ?_)
    refine WE.round (k + 1) ⟨rfl, rfl, rfl, rfl, trivial⟩ ?_ ?_
    ·exact ⟨by omega, fun q hq => by
       by_cases e : q = k
       ·rw [e]; exact fun z => h8 z.symm
       ·exact hall q (by omega), hb2⟩
    ·omega
  ·have h3 : ¬ ((((k : Nat) : Int) : Int) < (((l.length : Nat) : Int) : Int)) := by simpa using h3
   refine WC.exit (WE.thenExit (WE.thenExit (WE.blockIs rfl (WE.next (WC.seq (WC.region (WL.asg rfl rfl rfl rfl rfl (WL.nil (WE.next (WC.ret (WE.ret1 rfl rfl ?_)))))))))))
   exact ⟨_, rfl, by rw [indexK_none (fun q hq => hall q (by omega))], hb2⟩
def inB (l : List Int) (x : Int) (n : Nat) : Bool := (List.range n).any fun q => decide (iget l q = x)
theorem iget_take {l : List Int} {n q : Nat} (h : q < n) : iget (l.take n) q = iget l q := by
 unfold iget
 rw [List.getD_eq_getElem?_getD, List.getD_eq_getElem?_getD, List.getElem?_take_of_lt h]
theorem inB_take {l : List Int} {x : Int} {n : Nat} (h : n ≤ l.length) : inB (l.take n) x (l.take n).length = inB l x n := by
 unfold inB
 rw [List.length_take, Nat.min_eq_left h]
 rw [Bool.eq_iff_iff, List.any_eq_true, List.any_eq_true]
 constructor
 ·rintro ⟨q, h1, h2⟩; rw [iget_take (List.mem_range.1 h1)] at h2; exact ⟨q, h1, h2⟩
 ·rintro ⟨q, h1, h2⟩; rw [← iget_take (l := l) (List.mem_range.1 h1)] at h2; exact ⟨q, h1, h2⟩
set_option maxRecDepth 100000 in
theorem cont_any (l : List Int) (x : Int) (w : World) (a : Option Addr) (c : Nat) (hl : IsInts w l a) (hz : l.length ≤ 4294967296) : Calls Try.prog 27 #[.slice a l.length c, .int .i64 x] w (Ret fun v' w' => v' = .bool (inB l x l.length) ∧ Below w.heap.size w w') := by
 refine Calls.walk (l := [.slice a l.length c, .int .i64 x]) Try.func27 rfl (by kernel_rfl) ?_
 refine WC.sub (K' := [(0, .slice a l.length c), (1, .int .i64 x)]) ⟨rfl, rfl, trivial⟩ ?_
 refine WC.seq (WC.region (WL.asg rfl rfl rfl rfl rfl (WL.nil (WE.next (WC.seq (WC.region (WL.mv rfl rfl rfl rfl rfl (WL.mv rfl rfl rfl rfl rfl ?_))))))))
 refine WL.call rfl rfl rfl (fun za zh zC => wp_call (by kernel_rfl) rfl (hv2 (zh.ev rfl) (zh.ev rfl))) (index_any l x _ _ _ (IsInts.below (Below.refl _ _) hl) hz) ?_
 rintro _ w2 ⟨rfl, hq1⟩
 refine WL.val (.bool ((decide ((0 : Int) ≤ ((indexK l x l.length) : Int))))) rfl rfl rfl (fun za zC zh zk => geq_3 rfl (zh.ev rfl) (zh.ev rfl) zk) ?_
 refine WL.asg rfl rfl rfl rfl rfl (WL.nil (WE.next (WC.ret (WE.ret1 rfl rfl ?_))))
 exact ⟨_, rfl, congrArg Value.bool (indexK_in l x l.length), hq1⟩
theorem contT_any (l : List Int) (x : Int) (n : Nat) (w : World) (a : Option Addr) (c : Nat) (hl : IsInts w l a) (hz : l.length ≤ 4294967296) (hn : n ≤ l.length) : Calls Try.prog 27 #[.slice a n c, .int .i64 x] w (Ret fun v' w' => v' = .bool (inB l x n) ∧ Below w.heap.size w w') := by
 have h := cont_any (l.take n) x w a c (isInts_take hl n) (by rw [List.length_take]; omega)
 rw [inB_take hn, List.length_take, Nat.min_eq_left hn] at h
 exact h
/-- May the i-th place be? -/
def soundAt (l : List Li) (sel : List Int) (i : Nat) : Bool := !(decide (iget sel i < 0) || decide ((l.length : Int) ≤ iget sel i) || !(lget l (iget sel i).toNat).neg || inB sel (iget sel i) i)
def soundB (l : List Li) (sel : List Int) : Bool := (List.range sel.length).all (soundAt l sel)
theorem soundB_no {l : List Li} {sel : List Int} {k : Nat} (hk : k < sel.length) (h : soundAt l sel k = false) : soundB l sel = false := by
 unfold soundB; rw [List.all_eq_false]; exact ⟨k, List.mem_range.2 hk, by rw [h]; simp⟩
theorem soundB_yes {l : List Li} {sel : List Int} (h : ∀ k, k < sel.length → soundAt l sel k = true) : soundB l sel = true := by
 unfold soundB; rw [List.all_eq_true]; exact fun k hk => h k (List.mem_range.1 hk)
set_option maxRecDepth 100000 in
theorem sound_any (l : List Li) (sel : List Int) (w : World) (a a2 : Option Addr) (c c2 : Nat) (hl : IsCl w l a c) (hs : IsInts w sel a2) (hlz : l.length ≤ 1048576) (hz : sel.length ≤ 4294967296) (hc2 : sel.length ≤ c2) (hm2 : c2 ≤ maxLen) : Calls Try.prog 8 #[.slice a l.length c, .slice a2 sel.length c2] w (Ret fun v' w' => v' = .bool (soundB l sel) ∧ Below w.heap.size w w') := by
 have hr := hl.rows
 unfold maxLen at hm2
 refine Calls.walk (l := [.slice a l.length c, .slice a2 sel.length c2]) Try.func8 rfl (by kernel_rfl) ?_
 refine WC.sub (K' := [(0, .slice a l.length c), (1, .slice a2 sel.length c2)]) ⟨rfl, rfl, trivial⟩ ?_
 refine WC.seq (WC.region (WL.asg rfl rfl rfl rfl rfl (WL.nil (WE.next (WC.seq (WC.seq (WC.region (WL.mv rfl rfl rfl rfl rfl ?_))))))))
 refine WL.val (.int .i64 (((sel.length : Nat) : Int))) rfl rfl rfl (fun za zC zh zk => len_22 rfl (zh.ev rfl) zk) ?_
 refine WL.mv rfl rfl rfl rfl rfl (WL.nil (WE.next (WC.block ?_)))
 refine WC.loop (X := Nat) (fun k => sel.length - k) (fun k => [(0, .slice a l.length c), (1, .slice a2 sel.length c2), (7, .slice a2 sel.length c2), (8, .int .i64 (((sel.length : Nat) : Int))), (9, .int .i64 (((k : Nat) : Int)))]) (fun k w1 => k ≤ sel.length ∧ (∀ q, q < k → soundAt l sel q = true) ∧ Below w.heap.size w w1) 0 ⟨rfl, rfl, rfl, rfl, rfl, trivial⟩ ?_ ?_
 ·exact ⟨Nat.zero_le _, fun q h => absurd h (Nat.not_lt_zero q), (Below.refl _ _)⟩
 ·rintro k w1 ⟨hk, hall, hb2⟩
  refine WC.seq (WC.region ?_)
  refine WL.val (.bool ((decide ((((k : Nat) : Int) : Int) < (((sel.length : Nat) : Int) : Int))))) rfl rfl rfl (fun za zC zh zk => lss_3 rfl (zh.ev rfl) (zh.ev rfl) zk) ?_
  refine WL.nil (WE.next (WC.seq ?_))
  refine WC.cond rfl (fun h3 => ?_) (fun h3 => ?_)
  ·have h3 : (((k : Nat) : Int) : Int) < (((sel.length : Nat) : Int) : Int) := by simpa using h3
   refine WC.skip (WE.next (WC.seq (WC.block (WC.seq (WC.region (WL.mv rfl rfl rfl rfl rfl ?_))))))
   obtain ⟨b4, o5, ha6, hc7⟩ := IsInts.open hs
   refine WL.val _ rfl rfl rfl (fun za zC zh zk => ix_22 (k := k) rfl (zh.ev rfl) (ha6 k (by first | omega | (simp; omega))) (zh.ev rfl) (by first | omega | (simp; omega)) zk) ?_
   refine WL.val _ rfl rfl rfl (fun za zC zh zk => ld_3 rfl (zh.ev rfl) (bkeeps hb2 _ _ (hc7 k (by first | omega | (simp; omega)))) zk) ?_
   refine WL.asg rfl rfl rfl rfl rfl (WL.asg rfl rfl rfl rfl rfl (WL.nil (WE.next (WC.seq ?_))))
   obtain ⟨b8, o9, A10, C11, A12, C13, ha14, hc15⟩ := InRow.openL hr
   refine WC.opt [(true, .val (.int .i64 ((iget sel k)))), (true, .val (.bool ((decide (((iget sel k) : Int) < (0 : Int)))))), (true, .val (.bool ((decide (((iget sel k) : Int) < (0 : Int)))))), ((true && !(decide (((iget sel k) : Int) < (0 : Int)))), .val (.int .i64 ((iget sel k)))), ((true && !(decide (((iget sel k) : Int) < (0 : Int)))), .val (.slice a l.length c)), ((true && !(decide (((iget sel k) : Int) < (0 : Int)))), .val (.int .i64 (((l.length : Nat) : Int)))), ((true && !(decide (((iget sel k) : Int) < (0 : Int)))), .val (.bool ((decide ((((l.length : Nat) : Int) : Int) ≤ ((iget sel k) : Int)))))), (true, .val (.bool (((decide (((iget sel k) : Int) < (0 : Int))) || (decide ((((l.length : Nat) : Int) : Int) ≤ ((iget sel k) : Int))))))), (true, .val (.bool (((decide (((iget sel k) : Int) < (0 : Int))) || (decide ((((l.length : Nat) : Int) : Int) ≤ ((iget sel k) : Int))))))), ((true && !((decide (((iget sel k) : Int) < (0 : Int))) || (decide ((((l.length : Nat) : Int) : Int) ≤ ((iget sel k) : Int))))), .val (.slice a l.length c)), ((true && !((decide (((iget sel k) : Int) < (0 : Int))) || (decide ((((l.length : Nat) : Int) : Int) ≤ ((iget sel k) : Int))))), .val (.int .i64 ((iget sel k)))), ((true && !((decide (((iget sel k) : Int) < (0 : Int))) || (decide ((((l.length : Nat) : Int) : Int) ≤ ((iget sel k) : Int))))), .val (.pointer (some ⟨b8, o9 + (((iget sel k)).toNat) * 5, none⟩))), ((true && !((decide (((iget sel k) : Int) < (0 : Int))) || (decide ((((l.length : Nat) : Int) : Int) ≤ ((iget sel k) : Int))))), .val (.pointer (some ⟨b8, o9 + (((iget sel k)).toNat) * 5, none⟩))), ((true && !((decide (((iget sel k) : Int) < (0 : Int))) || (decide ((((l.length : Nat) : Int) : Int) ≤ ((iget sel k) : Int))))), .val (.bool ((lget l (((iget sel k)).toNat)).neg))), ((true && !((decide (((iget sel k) : Int) < (0 : Int))) || (decide ((((l.length : Nat) : Int) : Int) ≤ ((iget sel k) : Int))))), .val (.bool ((!(lget l (((iget sel k)).toNat)).neg)))), (true, .val (.bool ((((decide (((iget sel k) : Int) < (0 : Int))) || (decide ((((l.length : Nat) : Int) : Int) ≤ ((iget sel k) : Int)))) || (!(lget l (((iget sel k)).toNat)).neg))))), (true, .val (.bool ((((decide (((iget sel k) : Int) < (0 : Int))) || (decide ((((l.length : Nat) : Int) : Int) ≤ ((iget sel k) : Int)))) || (!(lget l (((iget sel k)).toNat)).neg))))), ((true && !(((decide (((iget sel k) : Int) < (0 : Int))) || (decide ((((l.length : Nat) : Int) : Int) ≤ ((iget sel k) : Int)))) || (!(lget l (((iget sel k)).toNat)).neg))), .val (.slice a2 sel.length c2)), ((true && !(((decide (((iget sel k) : Int) < (0 : Int))) || (decide ((((l.length : Nat) : Int) : Int) ≤ ((iget sel k) : Int)))) || (!(lget l (((iget sel k)).toNat)).neg))), .val (.int .i64 (((k : Nat) : Int)))), ((true && !(((decide (((iget sel k) : Int) < (0 : Int))) || (decide ((((l.length : Nat) : Int) : Int) ≤ ((iget sel k) : Int)))) || (!(lget l (((iget sel k)).toNat)).neg))), .val (.slice a2 k c2)), ((true && !(((decide (((iget sel k) : Int) < (0 : Int))) || (decide ((((l.length : Nat) : Int) : Int) ≤ ((iget sel k) : Int)))) || (!(lget l (((iget sel k)).toNat)).neg))), .val (.int .i64 ((iget sel k)))), ((true && !(((decide (((iget sel k) : Int) < (0 : Int))) || (decide ((((l.length : Nat) : Int) : Int) ≤ ((iget sel k) : Int)))) || (!(lget l (((iget sel k)).toNat)).neg))), .val (.bool ((inB sel ((iget sel k)) k)))), (true, .val (.bool (((((decide (((iget sel k) : Int) < (0 : Int))) || (decide ((((l.length : Nat) : Int) : Int) ≤ ((iget sel k) : Int)))) || (!(lget l (((iget sel k)).toNat)).neg)) || (inB sel ((iget sel k)) k)))))] [(0, .slice a l.length c), (1, .slice a2 sel.length c2), (5, .int .i64 (((k : Nat) : Int))), (6, .int .i64 ((iget sel k))), (7, .slice a2 sel.length c2), (8, .int .i64 (((sel.length : Nat) : Int))), (9, .int .i64 (((k : Nat) : Int))), (10, .bool ((decide ((((k : Nat) : Int) : Int) < (((sel.length : Nat) : Int) : Int)))))] ⟨rfl, rfl, rfl, rfl, rfl, rfl, rfl, rfl, trivial⟩ (by kernel_rfl) (by kernel_rfl) (by kernel_rfl) ?_ ?_
   ·refine ⟨⟨true, .none rfl, fun h w => optUndef h, fun zβ za zw zc => ?_⟩, ?_⟩
    ·exact wp_move rfl (zc.kn.ev rfl) ⟨_, rfl, Below.refl _ _, optDef zβ rfl⟩
    refine ⟨⟨true, .none rfl, fun h w => optUndef h, fun zβ za zw zc => ?_⟩, ?_⟩
    ·exact lss_3 rfl ((evt za 14).trans (optVal (zc.dep 0 14 (by kernel_rfl)) rfl rfl)) (zc.kn.ev rfl) ⟨_, rfl, Below.refl _ _, optDef zβ rfl⟩
    refine ⟨⟨true, .none rfl, fun h w => optUndef h, fun zβ za zw zc => ?_⟩, ?_⟩
    ·exact wp_move rfl ((evt za 15).trans (optVal (zc.dep 1 15 (by kernel_rfl)) rfl rfl)) ⟨_, rfl, Below.refl _ _, optDef zβ rfl⟩
    refine ⟨⟨_, .no (c := (decide (((iget sel k) : Int) < (0 : Int)))) (d := true) rfl (fun v w h => h), fun h w => optUndef h, fun zβ za zw zc => ?_⟩, ?_⟩
    ·exact wp_move rfl (zc.kn.ev rfl) ⟨_, rfl, Below.refl _ _, optDef zβ rfl⟩
    refine ⟨⟨_, .no (c := (decide (((iget sel k) : Int) < (0 : Int)))) (d := true) rfl (fun v w h => h), fun h w => optUndef h, fun zβ za zw zc => ?_⟩, ?_⟩
    ·exact wp_move rfl (zc.kn.ev rfl) ⟨_, rfl, Below.refl _ _, optDef zβ rfl⟩
    refine ⟨⟨_, .no (c := (decide (((iget sel k) : Int) < (0 : Int)))) (d := true) rfl (fun v w h => h), fun h w => optUndef h, fun zβ za zw zc => ?_⟩, ?_⟩
    ·exact len_27 rfl ((evt za 18).trans (optVal (zc.dep 4 18 (by kernel_rfl)) rfl zβ)) ⟨_, rfl, Below.refl _ _, optDef zβ rfl⟩
    refine ⟨⟨_, .no (c := (decide (((iget sel k) : Int) < (0 : Int)))) (d := true) rfl (fun v w h => h), fun h w => optUndef h, fun zβ za zw zc => ?_⟩, ?_⟩
    ·exact geq_3 rfl ((evt za 17).trans (optVal (zc.dep 3 17 (by kernel_rfl)) rfl zβ)) ((evt za 19).trans (optVal (zc.dep 5 19 (by kernel_rfl)) rfl zβ)) ⟨_, rfl, Below.refl _ _, optDef zβ rfl⟩
    refine ⟨⟨true, .none rfl, fun h w => optUndef h, fun zβ za zw zc => ?_⟩, ?_⟩
    ·exact wp_or rfl ((evt za 16).trans (optVal (zc.dep 2 16 (by kernel_rfl)) rfl rfl)) (fun hp => ((evt za 20).trans (optVal (zc.dep 6 20 (by kernel_rfl)) rfl (bMkN zβ hp)))) ⟨_, rfl, Below.refl _ _, optDef zβ rfl⟩
    refine ⟨⟨true, .none rfl, fun h w => optUndef h, fun zβ za zw zc => ?_⟩, ?_⟩
    ·exact wp_move rfl ((evt za 21).trans (optVal (zc.dep 7 21 (by kernel_rfl)) rfl rfl)) ⟨_, rfl, Below.refl _ _, optDef zβ rfl⟩
    refine ⟨⟨_, .no (c := ((decide (((iget sel k) : Int) < (0 : Int))) || (decide ((((l.length : Nat) : Int) : Int) ≤ ((iget sel k) : Int))))) (d := true) rfl (fun v w h => h), fun h w => optUndef h, fun zβ za zw zc => ?_⟩, ?_⟩
    ·exact wp_move rfl (zc.kn.ev rfl) ⟨_, rfl, Below.refl _ _, optDef zβ rfl⟩
    refine ⟨⟨_, .no (c := ((decide (((iget sel k) : Int) < (0 : Int))) || (decide ((((l.length : Nat) : Int) : Int) ≤ ((iget sel k) : Int))))) (d := true) rfl (fun v w h => h), fun h w => optUndef h, fun zβ za zw zc => ?_⟩, ?_⟩
    ·exact wp_move rfl (zc.kn.ev rfl) ⟨_, rfl, Below.refl _ _, optDef zβ rfl⟩
    refine ⟨⟨_, .no (c := ((decide (((iget sel k) : Int) < (0 : Int))) || (decide ((((l.length : Nat) : Int) : Int) ≤ ((iget sel k) : Int))))) (d := true) rfl (fun v w h => h), fun h w => optUndef h, fun zβ za zw zc => ?_⟩, ?_⟩
    ·exact ix_27 (k := ((iget sel k)).toNat) rfl ((evt za 23).trans (optVal (zc.dep 9 23 (by kernel_rfl)) rfl zβ)) (ha14 (((iget sel k)).toNat) (by first | omega | (have zz := zβ; simp only [Bool.and_eq_true, Bool.or_eq_true, Bool.true_and, Bool.not_eq_true', Bool.or_eq_false_iff, Bool.and_eq_false_iff, beq_eq_false_iff_ne, ne_eq, beq_iff_eq, decide_eq_true_eq, decide_eq_false_iff_not, bne_iff_ne, bne_eq_false_iff_eq] at zz; omega))) (((evt za 24).trans (optVal (zc.dep 10 24 (by kernel_rfl)) rfl zβ)).trans (congrArg (Value.int .i64) (by have zz := zβ; simp only [Bool.and_eq_true, Bool.true_and, Bool.not_eq_true', Bool.or_eq_false_iff, decide_eq_true_eq, decide_eq_false_iff_not] at zz; omega))) (by first | omega | (have zz := zβ; simp only [Bool.and_eq_true, Bool.or_eq_true, Bool.true_and, Bool.not_eq_true', Bool.or_eq_false_iff, Bool.and_eq_false_iff, beq_eq_false_iff_ne, ne_eq, beq_iff_eq, decide_eq_true_eq, decide_eq_false_iff_not, bne_iff_ne, bne_eq_false_iff_eq] at zz; omega)) ⟨_, rfl, Below.refl _ _, optDef zβ rfl⟩
    refine ⟨⟨_, .no (c := ((decide (((iget sel k) : Int) < (0 : Int))) || (decide ((((l.length : Nat) : Int) : Int) ≤ ((iget sel k) : Int))))) (d := true) rfl (fun v w h => h), fun h w => optUndef h, fun zβ za zw zc => ?_⟩, ?_⟩
    ·exact fld_36_0 rfl ((evt za 25).trans (optVal (zc.dep 11 25 (by kernel_rfl)) rfl zβ)) ⟨_, rfl, Below.refl _ _, optDef zβ rfl⟩
    refine ⟨⟨_, .no (c := ((decide (((iget sel k) : Int) < (0 : Int))) || (decide ((((l.length : Nat) : Int) : Int) ≤ ((iget sel k) : Int))))) (d := true) rfl (fun v w h => h), fun h w => optUndef h, fun zβ za zw zc => ?_⟩, ?_⟩
    ·exact ld_4 rfl ((evt za 26).trans (optVal (zc.dep 12 26 (by kernel_rfl)) rfl zβ)) (bkeeps (bstep hb2 zc.below) _ _ (hc15 (((iget sel k)).toNat) (by first | omega | (have zz := zβ; simp only [Bool.and_eq_true, Bool.or_eq_true, Bool.true_and, Bool.not_eq_true', Bool.or_eq_false_iff, Bool.and_eq_false_iff, beq_eq_false_iff_ne, ne_eq, beq_iff_eq, decide_eq_true_eq, decide_eq_false_iff_not, bne_iff_ne, bne_eq_false_iff_eq] at zz; omega))).1) ⟨_, rfl, Below.refl _ _, optDef zβ rfl⟩
    refine ⟨⟨_, .no (c := ((decide (((iget sel k) : Int) < (0 : Int))) || (decide ((((l.length : Nat) : Int) : Int) ≤ ((iget sel k) : Int))))) (d := true) rfl (fun v w h => h), fun h w => optUndef h, fun zβ za zw zc => ?_⟩, ?_⟩
    ·exact wp_not rfl ((evt za 27).trans (optVal (zc.dep 13 27 (by kernel_rfl)) rfl zβ)) ⟨_, rfl, Below.refl _ _, optDef zβ rfl⟩
    refine ⟨⟨true, .none rfl, fun h w => optUndef h, fun zβ za zw zc => ?_⟩, ?_⟩
    ·exact wp_or rfl ((evt za 22).trans (optVal (zc.dep 8 22 (by kernel_rfl)) rfl rfl)) (fun hp => ((evt za 28).trans (optVal (zc.dep 14 28 (by kernel_rfl)) rfl (bMkN zβ hp)))) ⟨_, rfl, Below.refl _ _, optDef zβ rfl⟩
    refine ⟨⟨true, .none rfl, fun h w => optUndef h, fun zβ za zw zc => ?_⟩, ?_⟩
    ·exact wp_move rfl ((evt za 29).trans (optVal (zc.dep 15 29 (by kernel_rfl)) rfl rfl)) ⟨_, rfl, Below.refl _ _, optDef zβ rfl⟩
    refine ⟨⟨_, .no (c := (((decide (((iget sel k) : Int) < (0 : Int))) || (decide ((((l.length : Nat) : Int) : Int) ≤ ((iget sel k) : Int)))) || (!(lget l (((iget sel k)).toNat)).neg))) (d := true) rfl (fun v w h => h), fun h w => optUndef h, fun zβ za zw zc => ?_⟩, ?_⟩
    ·exact wp_move rfl (zc.kn.ev rfl) ⟨_, rfl, Below.refl _ _, optDef zβ rfl⟩
    refine ⟨⟨_, .no (c := (((decide (((iget sel k) : Int) < (0 : Int))) || (decide ((((l.length : Nat) : Int) : Int) ≤ ((iget sel k) : Int)))) || (!(lget l (((iget sel k)).toNat)).neg))) (d := true) rfl (fun v w h => h), fun h w => optUndef h, fun zβ za zw zc => ?_⟩, ?_⟩
    ·exact wp_move rfl (zc.kn.ev rfl) ⟨_, rfl, Below.refl _ _, optDef zβ rfl⟩
    refine ⟨⟨_, .no (c := (((decide (((iget sel k) : Int) < (0 : Int))) || (decide ((((l.length : Nat) : Int) : Int) ≤ ((iget sel k) : Int)))) || (!(lget l (((iget sel k)).toNat)).neg))) (d := true) rfl (fun v w h => h), fun h w => optUndef h, fun zβ za zw zc => ?_⟩, ?_⟩
    ·exact shi_22 (k := k) rfl ((evt za 31).trans (optVal (zc.dep 17 31 (by kernel_rfl)) rfl zβ)) ((evt za 32).trans (optVal (zc.dep 18 32 (by kernel_rfl)) rfl zβ)) (by omega) ⟨_, rfl, Below.refl _ _, optDef zβ rfl⟩
    refine ⟨⟨_, .no (c := (((decide (((iget sel k) : Int) < (0 : Int))) || (decide ((((l.length : Nat) : Int) : Int) ≤ ((iget sel k) : Int)))) || (!(lget l (((iget sel k)).toNat)).neg))) (d := true) rfl (fun v w h => h), fun h w => optUndef h, fun zβ za zw zc => ?_⟩, ?_⟩
    ·exact wp_move rfl (zc.kn.ev rfl) ⟨_, rfl, Below.refl _ _, optDef zβ rfl⟩
    refine ⟨⟨_, .no (c := (((decide (((iget sel k) : Int) < (0 : Int))) || (decide ((((l.length : Nat) : Int) : Int) ≤ ((iget sel k) : Int)))) || (!(lget l (((iget sel k)).toNat)).neg))) (d := true) rfl (fun v w h => h), fun h w => optUndef h, fun zβ za zw zc => ?_⟩, ?_⟩
    ·exact wp_call (by kernel_rfl) rfl (hv2 ((evt za 33).trans (optVal (zc.dep 19 33 (by kernel_rfl)) rfl zβ)) ((evt za 34).trans (optVal (zc.dep 20 34 (by kernel_rfl)) rfl zβ))) (contT_any sel ((iget sel k)) k _ _ _ (IsInts.below (bstep hb2 zc.below) hs) hz (by omega)) (fun v w' h => ⟨v, rfl, h.2, optDef zβ h.1⟩)
    refine ⟨⟨true, .none rfl, fun h w => optUndef h, fun zβ za zw zc => ?_⟩, ?_⟩
    ·exact wp_or rfl ((evt za 30).trans (optVal (zc.dep 16 30 (by kernel_rfl)) rfl rfl)) (fun hp => ((evt za 35).trans (optVal (zc.dep 21 35 (by kernel_rfl)) rfl (bMkN zβ hp)))) ⟨_, rfl, Below.refl _ _, optDef zβ rfl⟩
    exact trivial
   ·intro za w17 zh hb18 zu
    have zh := zh.cons (d := 36) (v := .bool (((((decide (((iget sel k) : Int) < (0 : Int))) || (decide ((((l.length : Nat) : Int) : Int) ≤ ((iget sel k) : Int)))) || (!(lget l (((iget sel k)).toNat)).neg)) || (inB sel ((iget sel k)) k)))) (optVal (zu 22 36 (by kernel_rfl)) rfl rfl)
    clear zu
    refine WE.go zh ?_
    refine WE.next ?_
    refine WC.cond rfl (fun h19 => ?_) (fun h19 => ?_)
    ·have h19 : (((((iget sel k) : Int) < (0 : Int)) ∨ ((((l.length : Nat) : Int) : Int) ≤ ((iget sel k) : Int))) ∨ (¬ ((lget l (((iget sel k)).toNat)).neg = true))) ∨ ((inB sel ((iget sel k)) k) = true) := by simpa using h19
     refine WC.seq (WC.region (WL.asg rfl rfl rfl rfl rfl (WL.nil (WE.next (WC.ret (WE.blockRet (WE.thenRet (WE.thenRet (WE.blockRet (WE.thenRet (WE.ret1 rfl rfl ?_)))))))))))
     have hb20 : Below w.heap.size w w17 := (bstep hb2 hb18)
     exact ⟨_, rfl, by rw [soundB_no (k := k) (by omega) (by have z := h19; unfold soundAt; simp only [Bool.not_eq_false', Bool.or_eq_true, decide_eq_true_eq, Bool.not_eq_true']; simpa using z)], hb20⟩
    ·have h19 : ¬ ((((((iget sel k) : Int) < (0 : Int)) ∨ ((((l.length : Nat) : Int) : Int) ≤ ((iget sel k) : Int))) ∨ (¬ ((lget l (((iget sel k)).toNat)).neg = true))) ∨ ((inB sel ((iget sel k)) k) = true)) := by simpa using h19
     refine WC.skip (WE.blockNormal (WE.next (WC.region ?_)))
     refine WL.val (.int .i64 ((((k + 1) : Nat) : Int))) rfl rfl rfl (fun za zC zh zk => addb_3 rfl (zh.ev rfl) (zh.ev rfl) (wrap_eq (by omega) (by omega) (by omega)) zk) ?_
     refine WL.mv rfl rfl rfl rfl rfl (WL.nil ?_)
     refine WE.round (k + 1) ⟨rfl, rfl, rfl, rfl, rfl, trivial⟩ ?_ ?_
     ·have hb21 : Below w.heap.size w w17 := (bstep hb2 hb18)
      exact ⟨by omega, fun q hq => by
        by_cases e : q = k
        ·rw [e]; have z := h19; unfold soundAt; simpa using z
        ·exact hall q (by omega), hb21⟩
     ·omega
  ·have h3 : ¬ ((((k : Nat) : Int) : Int) < (((sel.length : Nat) : Int) : Int)) := by simpa using h3
   refine WC.exit (WE.thenExit (WE.thenExit (WE.blockIs rfl (WE.next (WC.seq (WC.region (WL.asg rfl rfl rfl rfl rfl (WL.nil (WE.next (WC.ret (WE.ret1 rfl rfl ?_)))))))))))
   exact ⟨_, rfl, by rw [soundB_yes (fun q hq => hall q (by omega))], hb2⟩
set_option maxRecDepth 100000 in
theorem way1_any (l : List Li) (w : World) (a : Option Addr) (c : Nat) (hl : IsCl w l a c) (hlz : l.length ≤ 1048576) (g : Nat) (hB : Blk w g 27 #[.slice a l.length c]) : Calls Try.prog 15 #[.pointer (some ⟨g, 0, none⟩)] w (Ret fun v' w' => v' = .int .i64 (firstK l l.length) ∧ Below w.heap.size w w') := by
 refine Calls.walk (l := [.pointer (some ⟨g, 0, none⟩)]) Try.func15 rfl (by kernel_rfl) ?_
 refine WC.sub (K' := [(0, .pointer (some ⟨g, 0, none⟩))]) ⟨rfl, trivial⟩ ?_
 refine WC.seq (WC.region (WL.asg rfl rfl rfl rfl rfl (WL.nil (WE.next (WC.seq (WC.region ?_))))))
 refine WL.val _ rfl rfl rfl (fun za zC zh zk => ld_27 rfl (zh.ev rfl) ((hB.cell 0).trans rfl) zk) ?_
 refine WL.call rfl rfl rfl (fun za zh zC => wp_call (by kernel_rfl) rfl (hv2 (zh.ev rfl) (zh.ev rfl))) (first_any l _ _ _ (hl.below (Below.refl _ _)) hlz) ?_
 rintro _ w2 ⟨rfl, hq1⟩
 refine WL.asg rfl rfl rfl rfl rfl (WL.nil (WE.next (WC.ret (WE.ret1 rfl rfl ?_))))
 exact ⟨_, rfl, rfl, hq1⟩
set_option maxRecDepth 100000 in
theorem way2_any (l : List Li) (w : World) (a : Option Addr) (c : Nat) (hl : IsCl w l a c) (hlz : l.length ≤ 1048576) (g : Nat) (hB : Blk w g 27 #[.slice a l.length c]) : Calls Try.prog 18 #[.pointer (some ⟨g, 0, none⟩)] w (Ret fun v' w' => v' = .int .i64 (pickK true l l.length) ∧ Below w.heap.size w w') := by
 refine Calls.walk (l := [.pointer (some ⟨g, 0, none⟩)]) Try.func18 rfl (by kernel_rfl) ?_
 refine WC.sub (K' := [(0, .pointer (some ⟨g, 0, none⟩))]) ⟨rfl, trivial⟩ ?_
 refine WC.seq (WC.region (WL.asg rfl rfl rfl rfl rfl (WL.nil (WE.next (WC.seq (WC.region ?_))))))
 refine WL.val _ rfl rfl rfl (fun za zC zh zk => ld_27 rfl (zh.ev rfl) ((hB.cell 0).trans rfl) zk) ?_
 refine WL.call rfl rfl rfl (fun za zh zC => wp_call (by kernel_rfl) rfl (hv3 (zh.ev rfl) (zh.ev rfl) (zh.ev rfl))) (pickS_any l _ _ _ (hl.below (Below.refl _ _)) hlz) ?_
 rintro _ w2 ⟨rfl, hq1⟩
 refine WL.asg rfl rfl rfl rfl rfl (WL.nil (WE.next (WC.ret (WE.ret1 rfl rfl ?_))))
 exact ⟨_, rfl, rfl, hq1⟩
set_option maxRecDepth 100000 in
theorem way4_any (l : List Li) (w : World) (a : Option Addr) (c : Nat) (hl : IsCl w l a c) (hlz : l.length ≤ 1048576) (g : Nat) (hB : Blk w g 27 #[.slice a l.length c]) : Calls Try.prog 23 #[.pointer (some ⟨g, 0, none⟩)] w (Ret fun v' w' => v' = .int .i64 (pickK false l l.length) ∧ Below w.heap.size w w') := by
 refine Calls.walk (l := [.pointer (some ⟨g, 0, none⟩)]) Try.func23 rfl (by kernel_rfl) ?_
 refine WC.sub (K' := [(0, .pointer (some ⟨g, 0, none⟩))]) ⟨rfl, trivial⟩ ?_
 refine WC.seq (WC.region (WL.asg rfl rfl rfl rfl rfl (WL.nil (WE.next (WC.seq (WC.region ?_))))))
 refine WL.val _ rfl rfl rfl (fun za zC zh zk => ld_27 rfl (zh.ev rfl) ((hB.cell 0).trans rfl) zk) ?_
 refine WL.call rfl rfl rfl (fun za zh zC => wp_call (by kernel_rfl) rfl (hv3 (zh.ev rfl) (zh.ev rfl) (zh.ev rfl))) (pickL_any l _ _ _ (hl.below (Below.refl _ _)) hlz) ?_
 rintro _ w2 ⟨rfl, hq1⟩
 refine WL.asg rfl rfl rfl rfl rfl (WL.nil (WE.next (WC.ret (WE.ret1 rfl rfl ?_))))
 exact ⟨_, rfl, rfl, hq1⟩
set_option maxRecDepth 100000 in
theorem way3_any (w : World) : Calls Try.prog 22 #[] w (Ret fun v' w' => v' = .int .i64 (-1) ∧ Below w.heap.size w w') := by
 refine Calls.walk (l := []) Try.func22 rfl (by kernel_rfl) ?_
 refine WC.sub (K' := []) trivial ?_
 refine WC.seq (WC.region (WL.asg rfl rfl rfl rfl rfl (WL.nil (WE.next (WC.seq (WC.region (WL.asg rfl rfl rfl rfl rfl (WL.nil (WE.next (WC.ret (WE.ret1 rfl rfl ?_)))))))))))
 exact ⟨_, rfl, rfl, (Below.refl _ _)⟩
set_option maxRecDepth 100000 in
theorem way5_any (o : Od) (l : List Li) (w : World) (a : Option Addr) (c : Nat) (hl : IsCl w l a c) (hlz : l.length ≤ 1048576) (p1 p2 : Option Addr) (k1 k2 : Nat) (ho : IsOd w o (.agg #[.bool o.lpo, .slice p1 o.prec.length k1, .slice p2 o.weights.length k2, .int .i64 o.var])) (go g gs : Nat) (hO : Blk w go 24 #[.bool o.lpo, .slice p1 o.prec.length k1, .slice p2 o.weights.length k2, .int .i64 o.var]) (hB : Blk w g 27 #[.slice a l.length c]) (hS : Blk w gs 48 #[.func (.func 18) #[] #[.pointer (some ⟨g, 0, none⟩)]]) : Calls Try.prog 25 #[.pointer (some ⟨go, 0, none⟩), .pointer (some ⟨g, 0, none⟩), .pointer (some ⟨gs, 0, none⟩)] w (Ret fun v' w' => v' = .int .i64 (if oneB o l = true then -1 else pickK true l l.length) ∧ Below w.heap.size w w') := by
 refine Calls.walk (l := [.pointer (some ⟨go, 0, none⟩), .pointer (some ⟨g, 0, none⟩), .pointer (some ⟨gs, 0, none⟩)]) Try.func25 rfl (by kernel_rfl) ?_
 refine WC.sub (K' := [(0, .pointer (some ⟨go, 0, none⟩)), (1, .pointer (some ⟨g, 0, none⟩)), (2, .pointer (some ⟨gs, 0, none⟩))]) ⟨rfl, rfl, rfl, trivial⟩ ?_
 refine WC.seq (WC.region (WL.asg rfl rfl rfl rfl rfl (WL.nil (WE.next (WC.seq (WC.seq (WC.region ?_)))))))
 refine WL.val _ rfl rfl rfl (fun za zC zh zk => ld_24 rfl (zh.ev rfl) ((hO.cell 0).trans rfl) ((hO.cell 1).trans rfl) ((hO.cell 2).trans rfl) ((hO.cell 3).trans rfl) zk) ?_
 refine WL.val _ rfl rfl rfl (fun za zC zh zk => ld_27 rfl (zh.ev rfl) ((hB.cell 0).trans rfl) zk) ?_
 refine WL.call rfl rfl rfl (fun za zh zC => wp_call (by kernel_rfl) rfl (hv2 (zh.ev rfl) (zh.ev rfl))) (one_any o l _ _ _ _ (ho.below (Below.refl _ _)) (hl.below (Below.refl _ _))) ?_
 rintro _ w2 ⟨rfl, hq1⟩
 refine WL.nil (WE.next ?_)
 refine WC.cond rfl (fun h3 => ?_) (fun h3 => ?_)
 ·skip
  refine WC.seq (WC.region (WL.asg rfl rfl rfl rfl rfl (WL.nil (WE.next (WC.ret (WE.thenRet (WE.ret1 rfl rfl ?_)))))))
  exact ⟨_, rfl, congrArg (Value.int .i64) (by rw [if_pos h3]), hq1⟩
 ·skip
  refine WC.skip (WE.next (WC.seq (WC.region ?_)))
  have hB4 := hS.below hq1
  refine WL.val _ rfl rfl rfl (fun za zC zh zk => ld_48 rfl (zh.ev rfl) ((hB4.cell 0).trans rfl) zk) ?_
  have hB5 := hB.below hq1
  refine WL.call rfl rfl rfl (fun za zh zC => wp_callv (by kernel_rfl) rfl (zh.ev rfl) (hv0)) (way2_any l _ _ _ (hl.below hq1) hlz g hB5) ?_
  rintro _ w7 ⟨rfl, hq6⟩
  refine WL.asg rfl rfl rfl rfl rfl (WL.nil (WE.next (WC.ret (WE.ret1 rfl rfl ?_))))
  have hb8 : Below w.heap.size w w7 := (bstep hq1 hq6)
  exact ⟨_, rfl, congrArg (Value.int .i64) (by rw [if_neg (by rw [h3]; exact Bool.false_ne_true)]), hb8⟩
set_option maxRecDepth 100000 in
theorem sel_0 (o : Od) (l : List Li) (w : World) (a : Option Addr) (c : Nat) (hl : IsCl w l a c) (hlz : l.length ≤ 1048576) (vo : Value) (ho : IsOd w o vo) : Calls Try.prog 7 #[vo, .int .i64 0, .slice a l.length c] w (Ret fun v' w' => SelIs w' ((-1)) v' ∧ Below w.heap.size w w') := by
 have hot := ho
 obtain ⟨p1, p2, k1, k2, rfl, _⟩ := ho
 refine Calls.walk (l := [.agg #[.bool o.lpo, .slice p1 o.prec.length k1, .slice p2 o.weights.length k2, .int .i64 o.var], .int .i64 0, .slice a l.length c]) Try.func7 rfl (by kernel_rfl) ?_
 refine WC.sub (K' := [(0, .agg #[.bool o.lpo, .slice p1 o.prec.length k1, .slice p2 o.weights.length k2, .int .i64 o.var]), (1, .int .i64 0), (2, .slice a l.length c)]) ⟨rfl, rfl, rfl, trivial⟩ ?_
 refine WC.seq (WC.region ?_)
 refine WL.step (post := NewBlk w 24 #[.bool o.lpo, .slice p1 o.prec.length k1, .slice p2 o.weights.length k2, .int .i64 o.var]) rfl rfl rfl (fun za zC zh zk => box_24 rfl (zh.ev rfl) (zk _ _ (newBlk _ _ _))) ?_
 rintro _ w1 ⟨g2, rfl, hg3, hB4, hb5, hz6⟩
 have hl7 : w.heap.size ≤ g2 := by omega
 refine WL.step (post := NewBlk w1 27 #[.slice a l.length c]) rfl rfl rfl (fun za zC zh zk => box_27 rfl (zh.ev rfl) (zk _ _ (newBlk _ _ _))) ?_
 rintro _ w8 ⟨g9, rfl, hg10, hB11, hb12, hz13⟩
 have hl14 : g2 < g9 := by have z1 := hB4.lt; omega
 have hl15 : w.heap.size ≤ g9 := by have z2 := (hb5).size; omega
 refine WL.asg rfl rfl rfl rfl rfl (WL.nil (WE.next (WC.seq (WC.region ?_))))
 refine WL.val (.func (Fn.func 15) #[] #[.pointer (some ⟨g9, 0, none⟩)]) rfl rfl rfl (fun za zC zh zk => mkfn rfl (hv0) (hv1 (zh.ev rfl)) zk) ?_
 refine WL.asg rfl rfl rfl rfl rfl (WL.nil (WE.next (WC.seq (WC.region ?_))))
 refine WL.val (.func (Fn.func 18) #[] #[.pointer (some ⟨g9, 0, none⟩)]) rfl rfl rfl (fun za zC zh zk => mkfn rfl (hv0) (hv1 (zh.ev rfl)) zk) ?_
 refine WL.step (post := NewBlk w8 48 #[.nilFunc]) rfl rfl rfl (fun za zC zh zk => alloc_48 rfl (zk _ _ (newBlk _ _ _))) ?_
 rintro _ w16 ⟨g17, rfl, hg18, hB19, hb20, hz21⟩
 have hl22 : g2 < g17 := by have z1 := hB4.lt; have z2 := (hb12).size; omega
 have hl23 : g9 < g17 := by have z1 := hB11.lt; omega
 have hb24 : Below w.heap.size w w8 := (bstep hb5 hb12)
 have hl25 : w.heap.size ≤ g17 := by have z2 := (hb24).size; omega
 refine WL.step (post := fun _ w' => Upd g17 w16 w' ∧ Blk w' g17 48 #[.func (Fn.func 18) #[] #[.pointer (some ⟨g9, 0, none⟩)]]) rfl rfl rfl (fun za zC zh zk => st_48 rfl (zh.ev rfl) (zh.ev rfl) hB19 (by first | decide | simp) (fun v => zk v _ ⟨Upd.at_ _ _ _ _, hB19.set_ 0 _⟩)) ?_
 rintro v29 w26 ⟨hu27, hB28⟩
 have hb30 : Below w.heap.size w w16 := (bstep hb24 hb20)
 have hb31 := upd_below hb30 hu27 (by omega)
 have hb33 : Below w1.heap.size w1 w16 := (bstep hb12 hb20)
 have hB32 := hB4.below hb33
 have hB34 := upd_blk hB32 hu27 (by omega)
 have hB35 := hB11.below hb20
 have hB36 := upd_blk hB35 hu27 (by omega)
 refine WL.nil (WE.next (WC.seq (WC.region (WL.mv rfl rfl rfl rfl rfl ?_))))
 refine WL.val (.func (Fn.func 23) #[] #[.pointer (some ⟨g9, 0, none⟩)]) rfl rfl rfl (fun za zC zh zk => mkfn rfl (hv0) (hv1 (zh.ev rfl)) zk) ?_
 refine WL.val _ rfl rfl rfl (fun za zC zh zk => ld_48 rfl (zh.ev rfl) ((hB28.cell 0).trans rfl) zk) ?_
 refine WL.val (.func (Fn.func 25) #[] #[.pointer (some ⟨g2, 0, none⟩), .pointer (some ⟨g9, 0, none⟩), .pointer (some ⟨g17, 0, none⟩)]) rfl rfl rfl (fun za zC zh zk => mkfn rfl (hv0) (hv3 (zh.ev rfl) (zh.ev rfl) (zh.ev rfl)) zk) ?_
 refine WL.val (.agg #[.func (.func 22) #[] #[], .func (Fn.func 15) #[] #[.pointer (some ⟨g9, 0, none⟩)], .func (Fn.func 23) #[] #[.pointer (some ⟨g9, 0, none⟩)], .func (Fn.func 18) #[] #[.pointer (some ⟨g9, 0, none⟩)], .func (Fn.func 25) #[] #[.pointer (some ⟨g2, 0, none⟩), .pointer (some ⟨g9, 0, none⟩), .pointer (some ⟨g17, 0, none⟩)]]) rfl rfl rfl (fun za zC zh zk => build_53_0_1_2_3_4 rfl (zh.ev rfl) (zh.ev rfl) (zh.ev rfl) (zh.ev rfl) (zh.ev rfl) zk) ?_
 refine WL.step (post := NewBlk w26 53 #[.nilFunc, .nilFunc, .nilFunc, .nilFunc, .nilFunc]) rfl rfl rfl (fun za zC zh zk => alloc_53 rfl (zk _ _ (newBlk _ _ _))) ?_
 rintro _ w37 ⟨g38, rfl, hg39, hB40, hb41, hz42⟩
 have hl43 : g2 < g38 := by have z1 := hB34.lt; omega
 have hl44 : g9 < g38 := by have z1 := hB36.lt; omega
 have hl45 : g17 < g38 := by have z1 := hB28.lt; omega
 have hl46 : w.heap.size ≤ g38 := by have z2 := (hb31).size; omega
 refine WL.step (post := fun _ w' => Upd g38 w37 w' ∧ Blk w' g38 53 #[.func (.func 22) #[] #[], .func (Fn.func 15) #[] #[.pointer (some ⟨g9, 0, none⟩)], .func (Fn.func 23) #[] #[.pointer (some ⟨g9, 0, none⟩)], .func (Fn.func 18) #[] #[.pointer (some ⟨g9, 0, none⟩)], .func (Fn.func 25) #[] #[.pointer (some ⟨g2, 0, none⟩), .pointer (some ⟨g9, 0, none⟩), .pointer (some ⟨g17, 0, none⟩)]]) rfl rfl rfl (fun za zC zh zk => st_53 rfl (zh.ev rfl) (zh.ev rfl) rfl rfl rfl rfl rfl hB40 (by first | decide | simp) (fun v => zk v _ ⟨((((Upd.at_ _ _ _ _).trans (Upd.at_ _ _ _ _)).trans (Upd.at_ _ _ _ _)).trans (Upd.at_ _ _ _ _)).trans (Upd.at_ _ _ _ _), ((((hB40.set_ 0 _).set_ 1 _).set_ 2 _).set_ 3 _).set_ 4 _⟩)) ?_
 rintro v50 w47 ⟨hu48, hB49⟩
 have hb51 : Below w.heap.size w w37 := (bstep hb31 hb41)
 have hb52 := upd_below hb51 hu48 (by omega)
 have hB53 := hB34.below hb41
 have hB54 := upd_blk hB53 hu48 (by omega)
 have hB55 := hB36.below hb41
 have hB56 := upd_blk hB55 hu48 (by omega)
 have hB57 := hB28.below hb41
 have hB58 := upd_blk hB57 hu48 (by omega)
 refine WL.nil (WE.next (WC.seq (WC.seq (WC.region (WL.mv rfl rfl rfl rfl rfl ?_)))))
 refine WL.val (.bool false) rfl rfl rfl (fun za zC zh zk => lss_25 rfl (zh.ev rfl) (zh.ev rfl) zk) ?_
 refine WL.mv rfl rfl rfl rfl rfl ?_
 refine WL.want (d := 20) rfl rfl rfl ?_
 refine WL.mv rfl rfl rfl rfl rfl ?_
 refine WL.want (d := 20) rfl rfl rfl ?_
 refine WL.val (.bool false) rfl rfl rfl (fun za zC zh zk => geq_3 rfl (zh.ev rfl) (zh.ev rfl) zk) ?_
 refine WL.val (.bool false) rfl rfl rfl (fun za zC zh zk => wp_pickF rfl (zh.ev rfl) (zh.ev rfl) zk) ?_
 refine WL.nil (WE.next ?_)
 refine WC.condF rfl rfl ?_
 refine WC.skip (WE.next (WC.seq (WC.seq (WC.region (WL.mv rfl rfl rfl rfl rfl ?_)))))
 refine WL.val _ rfl rfl rfl (fun za zC zh zk => ixa_53 (k := 0) rfl (zh.ev rfl) (zh.ev rfl) (by decide) zk) ?_
 refine WL.val _ rfl rfl rfl (fun za zC zh zk => ld_48 rfl (zh.ev rfl) ((hB49.cell 0).trans rfl) zk) ?_
 refine WL.call rfl rfl rfl (fun za zh zC => wp_callv (by kernel_rfl) rfl (zh.ev rfl) (hv0)) (way3_any _) ?_
 rintro _ w60 ⟨rfl, hq59⟩
 refine WL.asg rfl rfl rfl rfl rfl ?_
 refine WL.nil (WE.sub (K' := [(0, .agg #[.bool o.lpo, .slice p1 o.prec.length k1, .slice p2 o.weights.length k2, .int .i64 o.var]), (1, .int .i64 0), (2, .slice a l.length c), (3, .pointer (some ⟨g2, 0, none⟩)), (5, .pointer (some ⟨g9, 0, none⟩)), (6, .slice none 0 0), (7, .func (Fn.func 15) #[] #[.pointer (some ⟨g9, 0, none⟩)]), (8, .pointer (some ⟨g17, 0, none⟩)), (9, .pointer (some ⟨g38, 0, none⟩)), (10, .int .i64 ((-1))), (23, .bool false)]) ⟨rfl, rfl, rfl, rfl, rfl, rfl, rfl, rfl, rfl, rfl, rfl, trivial⟩ ?_)
 refine WE.next (WC.seq (WC.region (WL.mv rfl rfl rfl rfl rfl ?_)))
 refine WL.val (.bool false) rfl rfl rfl (fun za zC zh zk => geq_3 rfl (zh.ev rfl) (zh.ev rfl) zk) ?_
 refine WL.nil (WE.next ?_)
 refine WC.condF rfl rfl ?_
 refine WC.skip (WE.next (WC.seq (WC.region (WL.asg rfl rfl rfl rfl rfl (WL.nil (WE.next (WC.ret (WE.ret1 rfl rfl ?_))))))))
 have hb61 : Below w.heap.size w w60 := (bstep hb52 hq59)
 exact ⟨_, rfl, .inl ⟨by omega, rfl⟩, hb61⟩
set_option maxRecDepth 100000 in
theorem sel_1 (o : Od) (l : List Li) (w : World) (a : Option Addr) (c : Nat) (hl : IsCl w l a c) (hlz : l.length ≤ 1048576) (vo : Value) (ho : IsOd w o vo) : Calls Try.prog 7 #[vo, .int .i64 1, .slice a l.length c] w (Ret fun v' w' => SelIs w' ((firstK l l.length)) v' ∧ Below w.heap.size w w') := by
 have hot := ho
 obtain ⟨p1, p2, k1, k2, rfl, _⟩ := ho
 refine Calls.walk (l := [.agg #[.bool o.lpo, .slice p1 o.prec.length k1, .slice p2 o.weights.length k2, .int .i64 o.var], .int .i64 1, .slice a l.length c]) Try.func7 rfl (by kernel_rfl) ?_
 refine WC.sub (K' := [(0, .agg #[.bool o.lpo, .slice p1 o.prec.length k1, .slice p2 o.weights.length k2, .int .i64 o.var]), (1, .int .i64 1), (2, .slice a l.length c)]) ⟨rfl, rfl, rfl, trivial⟩ ?_
 refine WC.seq (WC.region ?_)
 refine WL.step (post := NewBlk w 24 #[.bool o.lpo, .slice p1 o.prec.length k1, .slice p2 o.weights.length k2, .int .i64 o.var]) rfl rfl rfl (fun za zC zh zk => box_24 rfl (zh.ev rfl) (zk _ _ (newBlk _ _ _))) ?_
 rintro _ w1 ⟨g2, rfl, hg3, hB4, hb5, hz6⟩
 have hl7 : w.heap.size ≤ g2 := by omega
 refine WL.step (post := NewBlk w1 27 #[.slice a l.length c]) rfl rfl rfl (fun za zC zh zk => box_27 rfl (zh.ev rfl) (zk _ _ (newBlk _ _ _))) ?_
 rintro _ w8 ⟨g9, rfl, hg10, hB11, hb12, hz13⟩
 have hl14 : g2 < g9 := by have z1 := hB4.lt; omega
 have hl15 : w.heap.size ≤ g9 := by have z2 := (hb5).size; omega
 refine WL.asg rfl rfl rfl rfl rfl (WL.nil (WE.next (WC.seq (WC.region ?_))))
 refine WL.val (.func (Fn.func 15) #[] #[.pointer (some ⟨g9, 0, none⟩)]) rfl rfl rfl (fun za zC zh zk => mkfn rfl (hv0) (hv1 (zh.ev rfl)) zk) ?_
 refine WL.asg rfl rfl rfl rfl rfl (WL.nil (WE.next (WC.seq (WC.region ?_))))
 refine WL.val (.func (Fn.func 18) #[] #[.pointer (some ⟨g9, 0, none⟩)]) rfl rfl rfl (fun za zC zh zk => mkfn rfl (hv0) (hv1 (zh.ev rfl)) zk) ?_
 refine WL.step (post := NewBlk w8 48 #[.nilFunc]) rfl rfl rfl (fun za zC zh zk => alloc_48 rfl (zk _ _ (newBlk _ _ _))) ?_
 rintro _ w16 ⟨g17, rfl, hg18, hB19, hb20, hz21⟩
 have hl22 : g2 < g17 := by have z1 := hB4.lt; have z2 := (hb12).size; omega
 have hl23 : g9 < g17 := by have z1 := hB11.lt; omega
 have hb24 : Below w.heap.size w w8 := (bstep hb5 hb12)
 have hl25 : w.heap.size ≤ g17 := by have z2 := (hb24).size; omega
 refine WL.step (post := fun _ w' => Upd g17 w16 w' ∧ Blk w' g17 48 #[.func (Fn.func 18) #[] #[.pointer (some ⟨g9, 0, none⟩)]]) rfl rfl rfl (fun za zC zh zk => st_48 rfl (zh.ev rfl) (zh.ev rfl) hB19 (by first | decide | simp) (fun v => zk v _ ⟨Upd.at_ _ _ _ _, hB19.set_ 0 _⟩)) ?_
 rintro v29 w26 ⟨hu27, hB28⟩
 have hb30 : Below w.heap.size w w16 := (bstep hb24 hb20)
 have hb31 := upd_below hb30 hu27 (by omega)
 have hb33 : Below w1.heap.size w1 w16 := (bstep hb12 hb20)
 have hB32 := hB4.below hb33
 have hB34 := upd_blk hB32 hu27 (by omega)
 have hB35 := hB11.below hb20
 have hB36 := upd_blk hB35 hu27 (by omega)
 refine WL.nil (WE.next (WC.seq (WC.region (WL.mv rfl rfl rfl rfl rfl ?_))))
 refine WL.val (.func (Fn.func 23) #[] #[.pointer (some ⟨g9, 0, none⟩)]) rfl rfl rfl (fun za zC zh zk => mkfn rfl (hv0) (hv1 (zh.ev rfl)) zk) ?_
 refine WL.val _ rfl rfl rfl (fun za zC zh zk => ld_48 rfl (zh.ev rfl) ((hB28.cell 0).trans rfl) zk) ?_
 refine WL.val (.func (Fn.func 25) #[] #[.pointer (some ⟨g2, 0, none⟩), .pointer (some ⟨g9, 0, none⟩), .pointer (some ⟨g17, 0, none⟩)]) rfl rfl rfl (fun za zC zh zk => mkfn rfl (hv0) (hv3 (zh.ev rfl) (zh.ev rfl) (zh.ev rfl)) zk) ?_
 refine WL.val (.agg #[.func (.func 22) #[] #[], .func (Fn.func 15) #[] #[.pointer (some ⟨g9, 0, none⟩)], .func (Fn.func 23) #[] #[.pointer (some ⟨g9, 0, none⟩)], .func (Fn.func 18) #[] #[.pointer (some ⟨g9, 0, none⟩)], .func (Fn.func 25) #[] #[.pointer (some ⟨g2, 0, none⟩), .pointer (some ⟨g9, 0, none⟩), .pointer (some ⟨g17, 0, none⟩)]]) rfl rfl rfl (fun za zC zh zk => build_53_0_1_2_3_4 rfl (zh.ev rfl) (zh.ev rfl) (zh.ev rfl) (zh.ev rfl) (zh.ev rfl) zk) ?_
 refine WL.step (post := NewBlk w26 53 #[.nilFunc, .nilFunc, .nilFunc, .nilFunc, .nilFunc]) rfl rfl rfl (fun za zC zh zk => alloc_53 rfl (zk _ _ (newBlk _ _ _))) ?_
 rintro _ w37 ⟨g38, rfl, hg39, hB40, hb41, hz42⟩
 have hl43 : g2 < g38 := by have z1 := hB34.lt; omega
 have hl44 : g9 < g38 := by have z1 := hB36.lt; omega
 have hl45 : g17 < g38 := by have z1 := hB28.lt; omega
 have hl46 : w.heap.size ≤ g38 := by have z2 := (hb31).size; omega
 refine WL.step (post := fun _ w' => Upd g38 w37 w' ∧ Blk w' g38 53 #[.func (.func 22) #[] #[], .func (Fn.func 15) #[] #[.pointer (some ⟨g9, 0, none⟩)], .func (Fn.func 23) #[] #[.pointer (some ⟨g9, 0, none⟩)], .func (Fn.func 18) #[] #[.pointer (some ⟨g9, 0, none⟩)], .func (Fn.func 25) #[] #[.pointer (some ⟨g2, 0, none⟩), .pointer (some ⟨g9, 0, none⟩), .pointer (some ⟨g17, 0, none⟩)]]) rfl rfl rfl (fun za zC zh zk => st_53 rfl (zh.ev rfl) (zh.ev rfl) rfl rfl rfl rfl rfl hB40 (by first | decide | simp) (fun v => zk v _ ⟨((((Upd.at_ _ _ _ _).trans (Upd.at_ _ _ _ _)).trans (Upd.at_ _ _ _ _)).trans (Upd.at_ _ _ _ _)).trans (Upd.at_ _ _ _ _), ((((hB40.set_ 0 _).set_ 1 _).set_ 2 _).set_ 3 _).set_ 4 _⟩)) ?_
 rintro v50 w47 ⟨hu48, hB49⟩
 have hb51 : Below w.heap.size w w37 := (bstep hb31 hb41)
 have hb52 := upd_below hb51 hu48 (by omega)
 have hB53 := hB34.below hb41
 have hB54 := upd_blk hB53 hu48 (by omega)
 have hB55 := hB36.below hb41
 have hB56 := upd_blk hB55 hu48 (by omega)
 have hB57 := hB28.below hb41
 have hB58 := upd_blk hB57 hu48 (by omega)
 refine WL.nil (WE.next (WC.seq (WC.seq (WC.region (WL.mv rfl rfl rfl rfl rfl ?_)))))
 refine WL.val (.bool false) rfl rfl rfl (fun za zC zh zk => lss_25 rfl (zh.ev rfl) (zh.ev rfl) zk) ?_
 refine WL.mv rfl rfl rfl rfl rfl ?_
 refine WL.want (d := 20) rfl rfl rfl ?_
 refine WL.mv rfl rfl rfl rfl rfl ?_
 refine WL.want (d := 20) rfl rfl rfl ?_
 refine WL.val (.bool false) rfl rfl rfl (fun za zC zh zk => geq_3 rfl (zh.ev rfl) (zh.ev rfl) zk) ?_
 refine WL.val (.bool false) rfl rfl rfl (fun za zC zh zk => wp_pickF rfl (zh.ev rfl) (zh.ev rfl) zk) ?_
 refine WL.nil (WE.next ?_)
 refine WC.condF rfl rfl ?_
 refine WC.skip (WE.next (WC.seq (WC.seq (WC.region (WL.mv rfl rfl rfl rfl rfl ?_)))))
 refine WL.val _ rfl rfl rfl (fun za zC zh zk => ixa_53 (k := 1) rfl (zh.ev rfl) (zh.ev rfl) (by decide) zk) ?_
 refine WL.val _ rfl rfl rfl (fun za zC zh zk => ld_48 rfl (zh.ev rfl) ((hB49.cell 1).trans rfl) zk) ?_
 refine WL.call rfl rfl rfl (fun za zh zC => wp_callv (by kernel_rfl) rfl (zh.ev rfl) (hv0)) (way1_any l _ _ _ (hl.below hb52) hlz g9 hB56) ?_
 rintro _ w60 ⟨rfl, hq59⟩
 refine WL.asg rfl rfl rfl rfl rfl ?_
 refine WL.nil (WE.sub (K' := [(0, .agg #[.bool o.lpo, .slice p1 o.prec.length k1, .slice p2 o.weights.length k2, .int .i64 o.var]), (1, .int .i64 1), (2, .slice a l.length c), (3, .pointer (some ⟨g2, 0, none⟩)), (5, .pointer (some ⟨g9, 0, none⟩)), (6, .slice none 0 0), (7, .func (Fn.func 15) #[] #[.pointer (some ⟨g9, 0, none⟩)]), (8, .pointer (some ⟨g17, 0, none⟩)), (9, .pointer (some ⟨g38, 0, none⟩)), (10, .int .i64 ((firstK l l.length))), (23, .bool false)]) ⟨rfl, rfl, rfl, rfl, rfl, rfl, rfl, rfl, rfl, rfl, rfl, trivial⟩ ?_)
 refine WE.next (WC.seq (WC.region (WL.mv rfl rfl rfl rfl rfl ?_)))
 refine WL.val (.bool ((decide ((0 : Int) ≤ ((firstK l l.length) : Int))))) rfl rfl rfl (fun za zC zh zk => geq_3 rfl (zh.ev rfl) (zh.ev rfl) zk) ?_
 refine WL.nil (WE.next ?_)
 refine WC.cond rfl (fun h61 => ?_) (fun h61 => ?_)
 ·have h61 : (0 : Int) ≤ ((firstK l l.length) : Int) := by simpa using h61
  refine WC.seq (WC.region (WL.mv rfl rfl rfl rfl rfl ?_))
  refine WL.step (post := NewRow w60 3 #[.int .i64 ((firstK l l.length))] 1) rfl rfl rfl (fun za zC zh zk => row_22_1 rfl (zh.ev rfl) (zk _ _ (newRow _ _ _ _))) ?_
  rintro _ w62 ⟨g63, rfl, hg64, hB65, hb66, hz67⟩
  have hl68 : g2 < g63 := by have z1 := hB54.lt; have z2 := (hq59).size; omega
  have hl69 : g9 < g63 := by have z1 := hB56.lt; have z2 := (hq59).size; omega
  have hl70 : g17 < g63 := by have z1 := hB58.lt; have z2 := (hq59).size; omega
  have hl71 : g38 < g63 := by have z1 := hB49.lt; have z2 := (hq59).size; omega
  have hb72 : Below w.heap.size w w60 := (bstep hb52 hq59)
  have hl73 : w.heap.size ≤ g63 := by have z2 := (hb72).size; omega
  refine WL.asg rfl rfl rfl rfl rfl (WL.nil (WE.next (WC.ret (WE.thenRet (WE.ret1 rfl rfl ?_)))))
  have hb74 : Below w.heap.size w w62 := (bstep hb72 hb66)
  exact ⟨_, rfl, .inr ⟨by have z := h61; omega, g63, rfl, hB65⟩, hb74⟩
 ·have h61 : ¬ ((0 : Int) ≤ ((firstK l l.length) : Int)) := by simpa using h61
  refine WC.skip (WE.next (WC.seq (WC.region (WL.asg rfl rfl rfl rfl rfl (WL.nil (WE.next (WC.ret (WE.ret1 rfl rfl ?_))))))))
  have hb75 : Below w.heap.size w w60 := (bstep hb52 hq59)
  exact ⟨_, rfl, .inl ⟨by have z := h61; omega, rfl⟩, hb75⟩
set_option maxRecDepth 100000 in
theorem sel_2 (o : Od) (l : List Li) (w : World) (a : Option Addr) (c : Nat) (hl : IsCl w l a c) (hlz : l.length ≤ 1048576) (vo : Value) (ho : IsOd w o vo) : Calls Try.prog 7 #[vo, .int .i64 2, .slice a l.length c] w (Ret fun v' w' => SelIs w' ((pickK false l l.length)) v' ∧ Below w.heap.size w w') := by
 have hot := ho
 obtain ⟨p1, p2, k1, k2, rfl, _⟩ := ho
 refine Calls.walk (l := [.agg #[.bool o.lpo, .slice p1 o.prec.length k1, .slice p2 o.weights.length k2, .int .i64 o.var], .int .i64 2, .slice a l.length c]) Try.func7 rfl (by kernel_rfl) ?_
 refine WC.sub (K' := [(0, .agg #[.bool o.lpo, .slice p1 o.prec.length k1, .slice p2 o.weights.length k2, .int .i64 o.var]), (1, .int .i64 2), (2, .slice a l.length c)]) ⟨rfl, rfl, rfl, trivial⟩ ?_
 refine WC.seq (WC.region ?_)
 refine WL.step (post := NewBlk w 24 #[.bool o.lpo, .slice p1 o.prec.length k1, .slice p2 o.weights.length k2, .int .i64 o.var]) rfl rfl rfl (fun za zC zh zk => box_24 rfl (zh.ev rfl) (zk _ _ (newBlk _ _ _))) ?_
 rintro _ w1 ⟨g2, rfl, hg3, hB4, hb5, hz6⟩
 have hl7 : w.heap.size ≤ g2 := by omega
 refine WL.step (post := NewBlk w1 27 #[.slice a l.length c]) rfl rfl rfl (fun za zC zh zk => box_27 rfl (zh.ev rfl) (zk _ _ (newBlk _ _ _))) ?_
 rintro _ w8 ⟨g9, rfl, hg10, hB11, hb12, hz13⟩
 have hl14 : g2 < g9 := by have z1 := hB4.lt; omega
 have hl15 : w.heap.size ≤ g9 := by have z2 := (hb5).size; omega
 refine WL.asg rfl rfl rfl rfl rfl (WL.nil (WE.next (WC.seq (WC.region ?_))))
 refine WL.val (.func (Fn.func 15) #[] #[.pointer (some ⟨g9, 0, none⟩)]) rfl rfl rfl (fun za zC zh zk => mkfn rfl (hv0) (hv1 (zh.ev rfl)) zk) ?_
 refine WL.asg rfl rfl rfl rfl rfl (WL.nil (WE.next (WC.seq (WC.region ?_))))
 refine WL.val (.func (Fn.func 18) #[] #[.pointer (some ⟨g9, 0, none⟩)]) rfl rfl rfl (fun za zC zh zk => mkfn rfl (hv0) (hv1 (zh.ev rfl)) zk) ?_
 refine WL.step (post := NewBlk w8 48 #[.nilFunc]) rfl rfl rfl (fun za zC zh zk => alloc_48 rfl (zk _ _ (newBlk _ _ _))) ?_
 rintro _ w16 ⟨g17, rfl, hg18, hB19, hb20, hz21⟩
 have hl22 : g2 < g17 := by have z1 := hB4.lt; have z2 := (hb12).size; omega
 have hl23 : g9 < g17 := by have z1 := hB11.lt; omega
 have hb24 : Below w.heap.size w w8 := (bstep hb5 hb12)
 have hl25 : w.heap.size ≤ g17 := by have z2 := (hb24).size; omega
 refine WL.step (post := fun _ w' => Upd g17 w16 w' ∧ Blk w' g17 48 #[.func (Fn.func 18) #[] #[.pointer (some ⟨g9, 0, none⟩)]]) rfl rfl rfl (fun za zC zh zk => st_48 rfl (zh.ev rfl) (zh.ev rfl) hB19 (by first | decide | simp) (fun v => zk v _ ⟨Upd.at_ _ _ _ _, hB19.set_ 0 _⟩)) ?_
 rintro v29 w26 ⟨hu27, hB28⟩
 have hb30 : Below w.heap.size w w16 := (bstep hb24 hb20)
 have hb31 := upd_below hb30 hu27 (by omega)
 have hb33 : Below w1.heap.size w1 w16 := (bstep hb12 hb20)
 have hB32 := hB4.below hb33
 have hB34 := upd_blk hB32 hu27 (by omega)
 have hB35 := hB11.below hb20
 have hB36 := upd_blk hB35 hu27 (by omega)
 refine WL.nil (WE.next (WC.seq (WC.region (WL.mv rfl rfl rfl rfl rfl ?_))))
 refine WL.val (.func (Fn.func 23) #[] #[.pointer (some ⟨g9, 0, none⟩)]) rfl rfl rfl (fun za zC zh zk => mkfn rfl (hv0) (hv1 (zh.ev rfl)) zk) ?_
 refine WL.val _ rfl rfl rfl (fun za zC zh zk => ld_48 rfl (zh.ev rfl) ((hB28.cell 0).trans rfl) zk) ?_
 refine WL.val (.func (Fn.func 25) #[] #[.pointer (some ⟨g2, 0, none⟩), .pointer (some ⟨g9, 0, none⟩), .pointer (some ⟨g17, 0, none⟩)]) rfl rfl rfl (fun za zC zh zk => mkfn rfl (hv0) (hv3 (zh.ev rfl) (zh.ev rfl) (zh.ev rfl)) zk) ?_
 refine WL.val (.agg #[.func (.func 22) #[] #[], .func (Fn.func 15) #[] #[.pointer (some ⟨g9, 0, none⟩)], .func (Fn.func 23) #[] #[.pointer (some ⟨g9, 0, none⟩)], .func (Fn.func 18) #[] #[.pointer (some ⟨g9, 0, none⟩)], .func (Fn.func 25) #[] #[.pointer (some ⟨g2, 0, none⟩), .pointer (some ⟨g9, 0, none⟩), .pointer (some ⟨g17, 0, none⟩)]]) rfl rfl rfl (fun za zC zh zk => build_53_0_1_2_3_4 rfl (zh.ev rfl) (zh.ev rfl) (zh.ev rfl) (zh.ev rfl) (zh.ev rfl) zk) ?_
 refine WL.step (post := NewBlk w26 53 #[.nilFunc, .nilFunc, .nilFunc, .nilFunc, .nilFunc]) rfl rfl rfl (fun za zC zh zk => alloc_53 rfl (zk _ _ (newBlk _ _ _))) ?_
 rintro _ w37 ⟨g38, rfl, hg39, hB40, hb41, hz42⟩
 have hl43 : g2 < g38 := by have z1 := hB34.lt; omega
 have hl44 : g9 < g38 := by have z1 := hB36.lt; omega
 have hl45 : g17 < g38 := by have z1 := hB28.lt; omega
 have hl46 : w.heap.size ≤ g38 := by have z2 := (hb31).size; omega
 refine WL.step (post := fun _ w' => Upd g38 w37 w' ∧ Blk w' g38 53 #[.func (.func 22) #[] #[], .func (Fn.func 15) #[] #[.pointer (some ⟨g9, 0, none⟩)], .func (Fn.func 23) #[] #[.pointer (some ⟨g9, 0, none⟩)], .func (Fn.func 18) #[] #[.pointer (some ⟨g9, 0, none⟩)], .func (Fn.func 25) #[] #[.pointer (some ⟨g2, 0, none⟩), .pointer (some ⟨g9, 0, none⟩), .pointer (some ⟨g17, 0, none⟩)]]) rfl rfl rfl (fun za zC zh zk => st_53 rfl (zh.ev rfl) (zh.ev rfl) rfl rfl rfl rfl rfl hB40 (by first | decide | simp) (fun v => zk v _ ⟨((((Upd.at_ _ _ _ _).trans (Upd.at_ _ _ _ _)).trans (Upd.at_ _ _ _ _)).trans (Upd.at_ _ _ _ _)).trans (Upd.at_ _ _ _ _), ((((hB40.set_ 0 _).set_ 1 _).set_ 2 _).set_ 3 _).set_ 4 _⟩)) ?_
 rintro v50 w47 ⟨hu48, hB49⟩
 have hb51 : Below w.heap.size w w37 := (bstep hb31 hb41)
 have hb52 := upd_below hb51 hu48 (by omega)
 have hB53 := hB34.below hb41
 have hB54 := upd_blk hB53 hu48 (by omega)
 have hB55 := hB36.below hb41
 have hB56 := upd_blk hB55 hu48 (by omega)
 have hB57 := hB28.below hb41
 have hB58 := upd_blk hB57 hu48 (by omega)
 refine WL.nil (WE.next (WC.seq (WC.seq (WC.region (WL.mv rfl rfl rfl rfl rfl ?_)))))
 refine WL.val (.bool false) rfl rfl rfl (fun za zC zh zk => lss_25 rfl (zh.ev rfl) (zh.ev rfl) zk) ?_
 refine WL.mv rfl rfl rfl rfl rfl ?_
 refine WL.want (d := 20) rfl rfl rfl ?_
 refine WL.mv rfl rfl rfl rfl rfl ?_
 refine WL.want (d := 20) rfl rfl rfl ?_
 refine WL.val (.bool false) rfl rfl rfl (fun za zC zh zk => geq_3 rfl (zh.ev rfl) (zh.ev rfl) zk) ?_
 refine WL.val (.bool false) rfl rfl rfl (fun za zC zh zk => wp_pickF rfl (zh.ev rfl) (zh.ev rfl) zk) ?_
 refine WL.nil (WE.next ?_)
 refine WC.condF rfl rfl ?_
 refine WC.skip (WE.next (WC.seq (WC.seq (WC.region (WL.mv rfl rfl rfl rfl rfl ?_)))))
 refine WL.val _ rfl rfl rfl (fun za zC zh zk => ixa_53 (k := 2) rfl (zh.ev rfl) (zh.ev rfl) (by decide) zk) ?_
 refine WL.val _ rfl rfl rfl (fun za zC zh zk => ld_48 rfl (zh.ev rfl) ((hB49.cell 2).trans rfl) zk) ?_
 refine WL.call rfl rfl rfl (fun za zh zC => wp_callv (by kernel_rfl) rfl (zh.ev rfl) (hv0)) (way4_any l _ _ _ (hl.below hb52) hlz g9 hB56) ?_
 rintro _ w60 ⟨rfl, hq59⟩
 refine WL.asg rfl rfl rfl rfl rfl ?_
 refine WL.nil (WE.sub (K' := [(0, .agg #[.bool o.lpo, .slice p1 o.prec.length k1, .slice p2 o.weights.length k2, .int .i64 o.var]), (1, .int .i64 2), (2, .slice a l.length c), (3, .pointer (some ⟨g2, 0, none⟩)), (5, .pointer (some ⟨g9, 0, none⟩)), (6, .slice none 0 0), (7, .func (Fn.func 15) #[] #[.pointer (some ⟨g9, 0, none⟩)]), (8, .pointer (some ⟨g17, 0, none⟩)), (9, .pointer (some ⟨g38, 0, none⟩)), (10, .int .i64 ((pickK false l l.length))), (23, .bool false)]) ⟨rfl, rfl, rfl, rfl, rfl, rfl, rfl, rfl, rfl, rfl, rfl, trivial⟩ ?_)
 refine WE.next (WC.seq (WC.region (WL.mv rfl rfl rfl rfl rfl ?_)))
 refine WL.val (.bool ((decide ((0 : Int) ≤ ((pickK false l l.length) : Int))))) rfl rfl rfl (fun za zC zh zk => geq_3 rfl (zh.ev rfl) (zh.ev rfl) zk) ?_
 refine WL.nil (WE.next ?_)
 refine WC.cond rfl (fun h61 => ?_) (fun h61 => ?_)
 ·have h61 : (0 : Int) ≤ ((pickK false l l.length) : Int) := by simpa using h61
  refine WC.seq (WC.region (WL.mv rfl rfl rfl rfl rfl ?_))
  refine WL.step (post := NewRow w60 3 #[.int .i64 ((pickK false l l.length))] 1) rfl rfl rfl (fun za zC zh zk => row_22_1 rfl (zh.ev rfl) (zk _ _ (newRow _ _ _ _))) ?_
  rintro _ w62 ⟨g63, rfl, hg64, hB65, hb66, hz67⟩
  have hl68 : g2 < g63 := by have z1 := hB54.lt; have z2 := (hq59).size; omega
  have hl69 : g9 < g63 := by have z1 := hB56.lt; have z2 := (hq59).size; omega
  have hl70 : g17 < g63 := by have z1 := hB58.lt; have z2 := (hq59).size; omega
  have hl71 : g38 < g63 := by have z1 := hB49.lt; have z2 := (hq59).size; omega
  have hb72 : Below w.heap.size w w60 := (bstep hb52 hq59)
  have hl73 : w.heap.size ≤ g63 := by have z2 := (hb72).size; omega
  refine WL.asg rfl rfl rfl rfl rfl (WL.nil (WE.next (WC.ret (WE.thenRet (WE.ret1 rfl rfl ?_)))))
  have hb74 : Below w.heap.size w w62 := (bstep hb72 hb66)
  exact ⟨_, rfl, .inr ⟨by have z := h61; omega, g63, rfl, hB65⟩, hb74⟩
 ·have h61 : ¬ ((0 : Int) ≤ ((pickK false l l.length) : Int)) := by simpa using h61
  refine WC.skip (WE.next (WC.seq (WC.region (WL.asg rfl rfl rfl rfl rfl (WL.nil (WE.next (WC.ret (WE.ret1 rfl rfl ?_))))))))
  have hb75 : Below w.heap.size w w60 := (bstep hb52 hq59)
  exact ⟨_, rfl, .inl ⟨by have z := h61; omega, rfl⟩, hb75⟩
set_option maxRecDepth 100000 in
theorem sel_3 (o : Od) (l : List Li) (w : World) (a : Option Addr) (c : Nat) (hl : IsCl w l a c) (hlz : l.length ≤ 1048576) (vo : Value) (ho : IsOd w o vo) : Calls Try.prog 7 #[vo, .int .i64 3, .slice a l.length c] w (Ret fun v' w' => SelIs w' ((pickK true l l.length)) v' ∧ Below w.heap.size w w') := by
 have hot := ho
 obtain ⟨p1, p2, k1, k2, rfl, _⟩ := ho
 refine Calls.walk (l := [.agg #[.bool o.lpo, .slice p1 o.prec.length k1, .slice p2 o.weights.length k2, .int .i64 o.var], .int .i64 3, .slice a l.length c]) Try.func7 rfl (by kernel_rfl) ?_
 refine WC.sub (K' := [(0, .agg #[.bool o.lpo, .slice p1 o.prec.length k1, .slice p2 o.weights.length k2, .int .i64 o.var]), (1, .int .i64 3), (2, .slice a l.length c)]) ⟨rfl, rfl, rfl, trivial⟩ ?_
 refine WC.seq (WC.region ?_)
 refine WL.step (post := NewBlk w 24 #[.bool o.lpo, .slice p1 o.prec.length k1, .slice p2 o.weights.length k2, .int .i64 o.var]) rfl rfl rfl (fun za zC zh zk => box_24 rfl (zh.ev rfl) (zk _ _ (newBlk _ _ _))) ?_
 rintro _ w1 ⟨g2, rfl, hg3, hB4, hb5, hz6⟩
 have hl7 : w.heap.size ≤ g2 := by omega
 refine WL.step (post := NewBlk w1 27 #[.slice a l.length c]) rfl rfl rfl (fun za zC zh zk => box_27 rfl (zh.ev rfl) (zk _ _ (newBlk _ _ _))) ?_
 rintro _ w8 ⟨g9, rfl, hg10, hB11, hb12, hz13⟩
 have hl14 : g2 < g9 := by have z1 := hB4.lt; omega
 have hl15 : w.heap.size ≤ g9 := by have z2 := (hb5).size; omega
 refine WL.asg rfl rfl rfl rfl rfl (WL.nil (WE.next (WC.seq (WC.region ?_))))
 refine WL.val (.func (Fn.func 15) #[] #[.pointer (some ⟨g9, 0, none⟩)]) rfl rfl rfl (fun za zC zh zk => mkfn rfl (hv0) (hv1 (zh.ev rfl)) zk) ?_
 refine WL.asg rfl rfl rfl rfl rfl (WL.nil (WE.next (WC.seq (WC.region ?_))))
 refine WL.val (.func (Fn.func 18) #[] #[.pointer (some ⟨g9, 0, none⟩)]) rfl rfl rfl (fun za zC zh zk => mkfn rfl (hv0) (hv1 (zh.ev rfl)) zk) ?_
 refine WL.step (post := NewBlk w8 48 #[.nilFunc]) rfl rfl rfl (fun za zC zh zk => alloc_48 rfl (zk _ _ (newBlk _ _ _))) ?_
 rintro _ w16 ⟨g17, rfl, hg18, hB19, hb20, hz21⟩
 have hl22 : g2 < g17 := by have z1 := hB4.lt; have z2 := (hb12).size; omega
 have hl23 : g9 < g17 := by have z1 := hB11.lt; omega
 have hb24 : Below w.heap.size w w8 := (bstep hb5 hb12)
 have hl25 : w.heap.size ≤ g17 := by have z2 := (hb24).size; omega
 refine WL.step (post := fun _ w' => Upd g17 w16 w' ∧ Blk w' g17 48 #[.func (Fn.func 18) #[] #[.pointer (some ⟨g9, 0, none⟩)]]) rfl rfl rfl (fun za zC zh zk => st_48 rfl (zh.ev rfl) (zh.ev rfl) hB19 (by first | decide | simp) (fun v => zk v _ ⟨Upd.at_ _ _ _ _, hB19.set_ 0 _⟩)) ?_
 rintro v29 w26 ⟨hu27, hB28⟩
 have hb30 : Below w.heap.size w w16 := (bstep hb24 hb20)
 have hb31 := upd_below hb30 hu27 (by omega)
 have hb33 : Below w1.heap.size w1 w16 := (bstep hb12 hb20)
 have hB32 := hB4.below hb33
 have hB34 := upd_blk hB32 hu27 (by omega)
 have hB35 := hB11.below hb20
 have hB36 := upd_blk hB35 hu27 (by omega)
 refine WL.nil (WE.next (WC.seq (WC.region (WL.mv rfl rfl rfl rfl rfl ?_))))
 refine WL.val (.func (Fn.func 23) #[] #[.pointer (some ⟨g9, 0, none⟩)]) rfl rfl rfl (fun za zC zh zk => mkfn rfl (hv0) (hv1 (zh.ev rfl)) zk) ?_
 refine WL.val _ rfl rfl rfl (fun za zC zh zk => ld_48 rfl (zh.ev rfl) ((hB28.cell 0).trans rfl) zk) ?_
 refine WL.val (.func (Fn.func 25) #[] #[.pointer (some ⟨g2, 0, none⟩), .pointer (some ⟨g9, 0, none⟩), .pointer (some ⟨g17, 0, none⟩)]) rfl rfl rfl (fun za zC zh zk => mkfn rfl (hv0) (hv3 (zh.ev rfl) (zh.ev rfl) (zh.ev rfl)) zk) ?_
 refine WL.val (.agg #[.func (.func 22) #[] #[], .func (Fn.func 15) #[] #[.pointer (some ⟨g9, 0, none⟩)], .func (Fn.func 23) #[] #[.pointer (some ⟨g9, 0, none⟩)], .func (Fn.func 18) #[] #[.pointer (some ⟨g9, 0, none⟩)], .func (Fn.func 25) #[] #[.pointer (some ⟨g2, 0, none⟩), .pointer (some ⟨g9, 0, none⟩), .pointer (some ⟨g17, 0, none⟩)]]) rfl rfl rfl (fun za zC zh zk => build_53_0_1_2_3_4 rfl (zh.ev rfl) (zh.ev rfl) (zh.ev rfl) (zh.ev rfl) (zh.ev rfl) zk) ?_
 refine WL.step (post := NewBlk w26 53 #[.nilFunc, .nilFunc, .nilFunc, .nilFunc, .nilFunc]) rfl rfl rfl (fun za zC zh zk => alloc_53 rfl (zk _ _ (newBlk _ _ _))) ?_
 rintro _ w37 ⟨g38, rfl, hg39, hB40, hb41, hz42⟩
 have hl43 : g2 < g38 := by have z1 := hB34.lt; omega
 have hl44 : g9 < g38 := by have z1 := hB36.lt; omega
 have hl45 : g17 < g38 := by have z1 := hB28.lt; omega
 have hl46 : w.heap.size ≤ g38 := by have z2 := (hb31).size; omega
 refine WL.step (post := fun _ w' => Upd g38 w37 w' ∧ Blk w' g38 53 #[.func (.func 22) #[] #[], .func (Fn.func 15) #[] #[.pointer (some ⟨g9, 0, none⟩)], .func (Fn.func 23) #[] #[.pointer (some ⟨g9, 0, none⟩)], .func (Fn.func 18) #[] #[.pointer (some ⟨g9, 0, none⟩)], .func (Fn.func 25) #[] #[.pointer (some ⟨g2, 0, none⟩), .pointer (some ⟨g9, 0, none⟩), .pointer (some ⟨g17, 0, none⟩)]]) rfl rfl rfl (fun za zC zh zk => st_53 rfl (zh.ev rfl) (zh.ev rfl) rfl rfl rfl rfl rfl hB40 (by first | decide | simp) (fun v => zk v _ ⟨((((Upd.at_ _ _ _ _).trans (Upd.at_ _ _ _ _)).trans (Upd.at_ _ _ _ _)).trans (Upd.at_ _ _ _ _)).trans (Upd.at_ _ _ _ _), ((((hB40.set_ 0 _).set_ 1 _).set_ 2 _).set_ 3 _).set_ 4 _⟩)) ?_
 rintro v50 w47 ⟨hu48, hB49⟩
 have hb51 : Below w.heap.size w w37 := (bstep hb31 hb41)
 have hb52 := upd_below hb51 hu48 (by omega)
 have hB53 := hB34.below hb41
 have hB54 := upd_blk hB53 hu48 (by omega)
 have hB55 := hB36.below hb41
 have hB56 := upd_blk hB55 hu48 (by omega)
 have hB57 := hB28.below hb41
 have hB58 := upd_blk hB57 hu48 (by omega)
 refine WL.nil (WE.next (WC.seq (WC.seq (WC.region (WL.mv rfl rfl rfl rfl rfl ?_)))))
 refine WL.val (.bool false) rfl rfl rfl (fun za zC zh zk => lss_25 rfl (zh.ev rfl) (zh.ev rfl) zk) ?_
 refine WL.mv rfl rfl rfl rfl rfl ?_
 refine WL.want (d := 20) rfl rfl rfl ?_
 refine WL.mv rfl rfl rfl rfl rfl ?_
 refine WL.want (d := 20) rfl rfl rfl ?_
 refine WL.val (.bool false) rfl rfl rfl (fun za zC zh zk => geq_3 rfl (zh.ev rfl) (zh.ev rfl) zk) ?_
 refine WL.val (.bool false) rfl rfl rfl (fun za zC zh zk => wp_pickF rfl (zh.ev rfl) (zh.ev rfl) zk) ?_
 refine WL.nil (WE.next ?_)
 refine WC.condF rfl rfl ?_
 refine WC.skip (WE.next (WC.seq (WC.seq (WC.region (WL.mv rfl rfl rfl rfl rfl ?_)))))
 refine WL.val _ rfl rfl rfl (fun za zC zh zk => ixa_53 (k := 3) rfl (zh.ev rfl) (zh.ev rfl) (by decide) zk) ?_
 refine WL.val _ rfl rfl rfl (fun za zC zh zk => ld_48 rfl (zh.ev rfl) ((hB49.cell 3).trans rfl) zk) ?_
 refine WL.call rfl rfl rfl (fun za zh zC => wp_callv (by kernel_rfl) rfl (zh.ev rfl) (hv0)) (way2_any l _ _ _ (hl.below hb52) hlz g9 hB56) ?_
 rintro _ w60 ⟨rfl, hq59⟩
 refine WL.asg rfl rfl rfl rfl rfl ?_
 refine WL.nil (WE.sub (K' := [(0, .agg #[.bool o.lpo, .slice p1 o.prec.length k1, .slice p2 o.weights.length k2, .int .i64 o.var]), (1, .int .i64 3), (2, .slice a l.length c), (3, .pointer (some ⟨g2, 0, none⟩)), (5, .pointer (some ⟨g9, 0, none⟩)), (6, .slice none 0 0), (7, .func (Fn.func 15) #[] #[.pointer (some ⟨g9, 0, none⟩)]), (8, .pointer (some ⟨g17, 0, none⟩)), (9, .pointer (some ⟨g38, 0, none⟩)), (10, .int .i64 ((pickK true l l.length))), (23, .bool false)]) ⟨rfl, rfl, rfl, rfl, rfl, rfl, rfl, rfl, rfl, rfl, rfl, trivial⟩ ?_)
 refine WE.next (WC.seq (WC.region (WL.mv rfl rfl rfl rfl rfl ?_)))
 refine WL.val (.bool ((decide ((0 : Int) ≤ ((pickK true l l.length) : Int))))) rfl rfl rfl (fun za zC zh zk => geq_3 rfl (zh.ev rfl) (zh.ev rfl) zk) ?_
 refine WL.nil (WE.next ?_)
 refine WC.cond rfl (fun h61 => ?_) (fun h61 => ?_)
 ·have h61 : (0 : Int) ≤ ((pickK true l l.length) : Int) := by simpa using h61
  refine WC.seq (WC.region (WL.mv rfl rfl rfl rfl rfl ?_))
  refine WL.step (post := NewRow w60 3 #[.int .i64 ((pickK true l l.length))] 1) rfl rfl rfl (fun za zC zh zk => row_22_1 rfl (zh.ev rfl) (zk _ _ (newRow _ _ _ _))) ?_
  rintro _ w62 ⟨g63, rfl, hg64, hB65, hb66, hz67⟩
  have hl68 : g2 < g63 := by have z1 := hB54.lt; have z2 := (hq59).size; omega
  have hl69 : g9 < g63 := by have z1 := hB56.lt; have z2 := (hq59).size; omega
  have hl70 : g17 < g63 := by have z1 := hB58.lt; have z2 := (hq59).size; omega
  have hl71 : g38 < g63 := by have z1 := hB49.lt; have z2 := (hq59).size; omega
  have hb72 : Below w.heap.size w w60 := (bstep hb52 hq59)
  have hl73 : w.heap.size ≤ g63 := by have z2 := (hb72).size; omega
  refine WL.asg rfl rfl rfl rfl rfl (WL.nil (WE.next (WC.ret (WE.thenRet (WE.ret1 rfl rfl ?_)))))
  have hb74 : Below w.heap.size w w62 := (bstep hb72 hb66)
  exact ⟨_, rfl, .inr ⟨by have z := h61; omega, g63, rfl, hB65⟩, hb74⟩
 ·have h61 : ¬ ((0 : Int) ≤ ((pickK true l l.length) : Int)) := by simpa using h61
  refine WC.skip (WE.next (WC.seq (WC.region (WL.asg rfl rfl rfl rfl rfl (WL.nil (WE.next (WC.ret (WE.ret1 rfl rfl ?_))))))))
  have hb75 : Below w.heap.size w w60 := (bstep hb52 hq59)
  exact ⟨_, rfl, .inl ⟨by have z := h61; omega, rfl⟩, hb75⟩
set_option maxRecDepth 100000 in
theorem sel_4 (o : Od) (l : List Li) (w : World) (a : Option Addr) (c : Nat) (hl : IsCl w l a c) (hlz : l.length ≤ 1048576) (vo : Value) (ho : IsOd w o vo) : Calls Try.prog 7 #[vo, .int .i64 4, .slice a l.length c] w (Ret fun v' w' => SelIs w' ((if oneB o l = true then -1 else pickK true l l.length)) v' ∧ Below w.heap.size w w') := by
 have hot := ho
 obtain ⟨p1, p2, k1, k2, rfl, _⟩ := ho
 refine Calls.walk (l := [.agg #[.bool o.lpo, .slice p1 o.prec.length k1, .slice p2 o.weights.length k2, .int .i64 o.var], .int .i64 4, .slice a l.length c]) Try.func7 rfl (by kernel_rfl) ?_
 refine WC.sub (K' := [(0, .agg #[.bool o.lpo, .slice p1 o.prec.length k1, .slice p2 o.weights.length k2, .int .i64 o.var]), (1, .int .i64 4), (2, .slice a l.length c)]) ⟨rfl, rfl, rfl, trivial⟩ ?_
 refine WC.seq (WC.region ?_)
 refine WL.step (post := NewBlk w 24 #[.bool o.lpo, .slice p1 o.prec.length k1, .slice p2 o.weights.length k2, .int .i64 o.var]) rfl rfl rfl (fun za zC zh zk => box_24 rfl (zh.ev rfl) (zk _ _ (newBlk _ _ _))) ?_
 rintro _ w1 ⟨g2, rfl, hg3, hB4, hb5, hz6⟩
 have hl7 : w.heap.size ≤ g2 := by omega
 refine WL.step (post := NewBlk w1 27 #[.slice a l.length c]) rfl rfl rfl (fun za zC zh zk => box_27 rfl (zh.ev rfl) (zk _ _ (newBlk _ _ _))) ?_
 rintro _ w8 ⟨g9, rfl, hg10, hB11, hb12, hz13⟩
 have hl14 : g2 < g9 := by have z1 := hB4.lt; omega
 have hl15 : w.heap.size ≤ g9 := by have z2 := (hb5).size; omega
 refine WL.asg rfl rfl rfl rfl rfl (WL.nil (WE.next (WC.seq (WC.region ?_))))
 refine WL.val (.func (Fn.func 15) #[] #[.pointer (some ⟨g9, 0, none⟩)]) rfl rfl rfl (fun za zC zh zk => mkfn rfl (hv0) (hv1 (zh.ev rfl)) zk) ?_
 refine WL.asg rfl rfl rfl rfl rfl (WL.nil (WE.next (WC.seq (WC.region ?_))))
 refine WL.val (.func (Fn.func 18) #[] #[.pointer (some ⟨g9, 0, none⟩)]) rfl rfl rfl (fun za zC zh zk => mkfn rfl (hv0) (hv1 (zh.ev rfl)) zk) ?_
 refine WL.step (post := NewBlk w8 48 #[.nilFunc]) rfl rfl rfl (fun za zC zh zk => alloc_48 rfl (zk _ _ (newBlk _ _ _))) ?_
 rintro _ w16 ⟨g17, rfl, hg18, hB19, hb20, hz21⟩
 have hl22 : g2 < g17 := by have z1 := hB4.lt; have z2 := (hb12).size; omega
 have hl23 : g9 < g17 := by have z1 := hB11.lt; omega
 have hb24 : Below w.heap.size w w8 := (bstep hb5 hb12)
 have hl25 : w.heap.size ≤ g17 := by have z2 := (hb24).size; omega
 refine WL.step (post := fun _ w' => Upd g17 w16 w' ∧ Blk w' g17 48 #[.func (Fn.func 18) #[] #[.pointer (some ⟨g9, 0, none⟩)]]) rfl rfl rfl (fun za zC zh zk => st_48 rfl (zh.ev rfl) (zh.ev rfl) hB19 (by first | decide | simp) (fun v => zk v _ ⟨Upd.at_ _ _ _ _, hB19.set_ 0 _⟩)) ?_
 rintro v29 w26 ⟨hu27, hB28⟩
 have hb30 : Below w.heap.size w w16 := (bstep hb24 hb20)
 have hb31 := upd_below hb30 hu27 (by omega)
 have hb33 : Below w1.heap.size w1 w16 := (bstep hb12 hb20)
 have hB32 := hB4.below hb33
 have hB34 := upd_blk hB32 hu27 (by omega)
 have hB35 := hB11.below hb20
 have hB36 := upd_blk hB35 hu27 (by omega)
 refine WL.nil (WE.next (WC.seq (WC.region (WL.mv rfl rfl rfl rfl rfl ?_))))
 refine WL.val (.func (Fn.func 23) #[] #[.pointer (some ⟨g9, 0, none⟩)]) rfl rfl rfl (fun za zC zh zk => mkfn rfl (hv0) (hv1 (zh.ev rfl)) zk) ?_
 refine WL.val _ rfl rfl rfl (fun za zC zh zk => ld_48 rfl (zh.ev rfl) ((hB28.cell 0).trans rfl) zk) ?_
 refine WL.val (.func (Fn.func 25) #[] #[.pointer (some ⟨g2, 0, none⟩), .pointer (some ⟨g9, 0, none⟩), .pointer (some ⟨g17, 0, none⟩)]) rfl rfl rfl (fun za zC zh zk => mkfn rfl (hv0) (hv3 (zh.ev rfl) (zh.ev rfl) (zh.ev rfl)) zk) ?_
 refine WL.val (.agg #[.func (.func 22) #[] #[], .func (Fn.func 15) #[] #[.pointer (some ⟨g9, 0, none⟩)], .func (Fn.func 23) #[] #[.pointer (some ⟨g9, 0, none⟩)], .func (Fn.func 18) #[] #[.pointer (some ⟨g9, 0, none⟩)], .func (Fn.func 25) #[] #[.pointer (some ⟨g2, 0, none⟩), .pointer (some ⟨g9, 0, none⟩), .pointer (some ⟨g17, 0, none⟩)]]) rfl rfl rfl (fun za zC zh zk => build_53_0_1_2_3_4 rfl (zh.ev rfl) (zh.ev rfl) (zh.ev rfl) (zh.ev rfl) (zh.ev rfl) zk) ?_
 refine WL.step (post := NewBlk w26 53 #[.nilFunc, .nilFunc, .nilFunc, .nilFunc, .nilFunc]) rfl rfl rfl (fun za zC zh zk => alloc_53 rfl (zk _ _ (newBlk _ _ _))) ?_
 rintro _ w37 ⟨g38, rfl, hg39, hB40, hb41, hz42⟩
 have hl43 : g2 < g38 := by have z1 := hB34.lt; omega
 have hl44 : g9 < g38 := by have z1 := hB36.lt; omega
 have hl45 : g17 < g38 := by have z1 := hB28.lt; omega
 have hl46 : w.heap.size ≤ g38 := by have z2 := (hb31).size; omega
 refine WL.step (post := fun _ w' => Upd g38 w37 w' ∧ Blk w' g38 53 #[.func (.func 22) #[] #[], .func (Fn.func 15) #[] #[.pointer (some ⟨g9, 0, none⟩)], .func (Fn.func 23) #[] #[.pointer (some ⟨g9, 0, none⟩)], .func (Fn.func 18) #[] #[.pointer (some ⟨g9, 0, none⟩)], .func (Fn.func 25) #[] #[.pointer (some ⟨g2, 0, none⟩), .pointer (some ⟨g9, 0, none⟩), .pointer (some ⟨g17, 0, none⟩)]]) rfl rfl rfl (fun za zC zh zk => st_53 rfl (zh.ev rfl) (zh.ev rfl) rfl rfl rfl rfl rfl hB40 (by first | decide | simp) (fun v => zk v _ ⟨((((Upd.at_ _ _ _ _).trans (Upd.at_ _ _ _ _)).trans (Upd.at_ _ _ _ _)).trans (Upd.at_ _ _ _ _)).trans (Upd.at_ _ _ _ _), ((((hB40.set_ 0 _).set_ 1 _).set_ 2 _).set_ 3 _).set_ 4 _⟩)) ?_
 rintro v50 w47 ⟨hu48, hB49⟩
 have hb51 : Below w.heap.size w w37 := (bstep hb31 hb41)
 have hb52 := upd_below hb51 hu48 (by omega)
 have hB53 := hB34.below hb41
 have hB54 := upd_blk hB53 hu48 (by omega)
 have hB55 := hB36.below hb41
 have hB56 := upd_blk hB55 hu48 (by omega)
 have hB57 := hB28.below hb41
 have hB58 := upd_blk hB57 hu48 (by omega)
 refine WL.nil (WE.next (WC.seq (WC.seq (WC.region (WL.mv rfl rfl rfl rfl rfl ?_)))))
 refine WL.val (.bool false) rfl rfl rfl (fun za zC zh zk => lss_25 rfl (zh.ev rfl) (zh.ev rfl) zk) ?_
 refine WL.mv rfl rfl rfl rfl rfl ?_
 refine WL.want (d := 20) rfl rfl rfl ?_
 refine WL.mv rfl rfl rfl rfl rfl ?_
 refine WL.want (d := 20) rfl rfl rfl ?_
 refine WL.val (.bool false) rfl rfl rfl (fun za zC zh zk => geq_3 rfl (zh.ev rfl) (zh.ev rfl) zk) ?_
 refine WL.val (.bool false) rfl rfl rfl (fun za zC zh zk => wp_pickF rfl (zh.ev rfl) (zh.ev rfl) zk) ?_
 refine WL.nil (WE.next ?_)
 refine WC.condF rfl rfl ?_
 refine WC.skip (WE.next (WC.seq (WC.seq (WC.region (WL.mv rfl rfl rfl rfl rfl ?_)))))
 refine WL.val _ rfl rfl rfl (fun za zC zh zk => ixa_53 (k := 4) rfl (zh.ev rfl) (zh.ev rfl) (by decide) zk) ?_
 refine WL.val _ rfl rfl rfl (fun za zC zh zk => ld_48 rfl (zh.ev rfl) ((hB49.cell 4).trans rfl) zk) ?_
 refine WL.call rfl rfl rfl (fun za zh zC => wp_callv (by kernel_rfl) rfl (zh.ev rfl) (hv0)) (way5_any o l _ _ _ (hl.below hb52) hlz p1 p2 k1 k2 (hot.below hb52) g2 g9 g17 hB54 hB56 hB58) ?_
 rintro _ w60 ⟨rfl, hq59⟩
 refine WL.asg rfl rfl rfl rfl rfl ?_
 refine WL.nil (WE.sub (K' := [(0, .agg #[.bool o.lpo, .slice p1 o.prec.length k1, .slice p2 o.weights.length k2, .int .i64 o.var]), (1, .int .i64 4), (2, .slice a l.length c), (3, .pointer (some ⟨g2, 0, none⟩)), (5, .pointer (some ⟨g9, 0, none⟩)), (6, .slice none 0 0), (7, .func (Fn.func 15) #[] #[.pointer (some ⟨g9, 0, none⟩)]), (8, .pointer (some ⟨g17, 0, none⟩)), (9, .pointer (some ⟨g38, 0, none⟩)), (10, .int .i64 ((if oneB o l = true then -1 else pickK true l l.length))), (23, .bool false)]) ⟨rfl, rfl, rfl, rfl, rfl, rfl, rfl, rfl, rfl, rfl, rfl, trivial⟩ ?_)
 refine WE.next (WC.seq (WC.region (WL.mv rfl rfl rfl rfl rfl ?_)))
 refine WL.val (.bool ((decide ((0 : Int) ≤ ((if oneB o l = true then -1 else pickK true l l.length) : Int))))) rfl rfl rfl (fun za zC zh zk => geq_3 rfl (zh.ev rfl) (zh.ev rfl) zk) ?_
 refine WL.nil (WE.next ?_)
 refine WC.cond rfl (fun h61 => ?_) (fun h61 => ?_)
 ·have h61 : (0 : Int) ≤ ((if oneB o l = true then -1 else pickK true l l.length) : Int) := by simpa using h61
  refine WC.seq (WC.region (WL.mv rfl rfl rfl rfl rfl ?_))
  refine WL.step (post := NewRow w60 3 #[.int .i64 ((if oneB o l = true then -1 else pickK true l l.length))] 1) rfl rfl rfl (fun za zC zh zk => row_22_1 rfl (zh.ev rfl) (zk _ _ (newRow _ _ _ _))) ?_
  rintro _ w62 ⟨g63, rfl, hg64, hB65, hb66, hz67⟩
  have hl68 : g2 < g63 := by have z1 := hB54.lt; have z2 := (hq59).size; omega
  have hl69 : g9 < g63 := by have z1 := hB56.lt; have z2 := (hq59).size; omega
  have hl70 : g17 < g63 := by have z1 := hB58.lt; have z2 := (hq59).size; omega
  have hl71 : g38 < g63 := by have z1 := hB49.lt; have z2 := (hq59).size; omega
  have hb72 : Below w.heap.size w w60 := (bstep hb52 hq59)
  have hl73 : w.heap.size ≤ g63 := by have z2 := (hb72).size; omega
  refine WL.asg rfl rfl rfl rfl rfl (WL.nil (WE.next (WC.ret (WE.thenRet (WE.ret1 rfl rfl ?_)))))
  have hb74 : Below w.heap.size w w62 := (bstep hb72 hb66)
  exact ⟨_, rfl, .inr ⟨by have z := h61; omega, g63, rfl, hB65⟩, hb74⟩
 ·have h61 : ¬ ((0 : Int) ≤ ((if oneB o l = true then -1 else pickK true l l.length) : Int)) := by simpa using h61
  refine WC.skip (WE.next (WC.seq (WC.region (WL.asg rfl rfl rfl rfl rfl (WL.nil (WE.next (WC.ret (WE.ret1 rfl rfl ?_))))))))
  have hb75 : Below w.heap.size w w60 := (bstep hb52 hq59)
  exact ⟨_, rfl, .inl ⟨by have z := h61; omega, rfl⟩, hb75⟩
set_option maxRecDepth 100000 in
theorem sel_bad (o : Od) (k : Int) (hk : k < 0 ∨ 4 < k) (l : List Li) (w : World) (a : Option Addr) (c : Nat) (hl : IsCl w l a c) (hlz : l.length ≤ 1048576) (vo : Value) (ho : IsOd w o vo) : Calls Try.prog 7 #[vo, .int .i64 k, .slice a l.length c] w (Ret fun v' w' => SelIs w' (-1) v' ∧ Below w.heap.size w w') := by
 obtain ⟨p1, p2, k1, k2, rfl, _⟩ := ho
 refine Calls.walk (l := [.agg #[.bool o.lpo, .slice p1 o.prec.length k1, .slice p2 o.weights.length k2, .int .i64 o.var], .int .i64 k, .slice a l.length c]) Try.func7 rfl (by kernel_rfl) ?_
 refine WC.sub (K' := [(0, .agg #[.bool o.lpo, .slice p1 o.prec.length k1, .slice p2 o.weights.length k2, .int .i64 o.var]), (1, .int .i64 k), (2, .slice a l.length c)]) ⟨rfl, rfl, rfl, trivial⟩ ?_
 refine WC.seq (WC.region ?_)
 refine WL.step (post := NewBlk w 24 #[.bool o.lpo, .slice p1 o.prec.length k1, .slice p2 o.weights.length k2, .int .i64 o.var]) rfl rfl rfl (fun za zC zh zk => box_24 rfl (zh.ev rfl) (zk _ _ (newBlk _ _ _))) ?_
 rintro _ w1 ⟨g2, rfl, hg3, hB4, hb5, hz6⟩
 have hl7 : w.heap.size ≤ g2 := by omega
 refine WL.step (post := NewBlk w1 27 #[.slice a l.length c]) rfl rfl rfl (fun za zC zh zk => box_27 rfl (zh.ev rfl) (zk _ _ (newBlk _ _ _))) ?_
 rintro _ w8 ⟨g9, rfl, hg10, hB11, hb12, hz13⟩
 have hl14 : g2 < g9 := by have z1 := hB4.lt; omega
 have hl15 : w.heap.size ≤ g9 := by have z2 := (hb5).size; omega
 refine WL.asg rfl rfl rfl rfl rfl (WL.nil (WE.next (WC.seq (WC.region ?_))))
 refine WL.val (.func (Fn.func 15) #[] #[.pointer (some ⟨g9, 0, none⟩)]) rfl rfl rfl (fun za zC zh zk => mkfn rfl (hv0) (hv1 (zh.ev rfl)) zk) ?_
 refine WL.asg rfl rfl rfl rfl rfl (WL.nil (WE.next (WC.seq (WC.region ?_))))
 refine WL.val (.func (Fn.func 18) #[] #[.pointer (some ⟨g9, 0, none⟩)]) rfl rfl rfl (fun za zC zh zk => mkfn rfl (hv0) (hv1 (zh.ev rfl)) zk) ?_
 refine WL.step (post := NewBlk w8 48 #[.nilFunc]) rfl rfl rfl (fun za zC zh zk => alloc_48 rfl (zk _ _ (newBlk _ _ _))) ?_
 rintro _ w16 ⟨g17, rfl, hg18, hB19, hb20, hz21⟩
 have hl22 : g2 < g17 := by have z1 := hB4.lt; have z2 := (hb12).size; omega
 have hl23 : g9 < g17 := by have z1 := hB11.lt; omega
 have hb24 : Below w.heap.size w w8 := (bstep hb5 hb12)
 have hl25 : w.heap.size ≤ g17 := by have z2 := (hb24).size; omega
 refine WL.step (post := fun _ w' => Upd g17 w16 w' ∧ Blk w' g17 48 #[.func (Fn.func 18) #[] #[.pointer (some ⟨g9, 0, none⟩)]]) rfl rfl rfl (fun za zC zh zk => st_48 rfl (zh.ev rfl) (zh.ev rfl) hB19 (by first | decide | simp) (fun v => zk v _ ⟨Upd.at_ _ _ _ _, hB19.set_ 0 _⟩)) ?_
 rintro v29 w26 ⟨hu27, hB28⟩
 have hb30 : Below w.heap.size w w16 := (bstep hb24 hb20)
 have hb31 := upd_below hb30 hu27 (by omega)
 have hb33 : Below w1.heap.size w1 w16 := (bstep hb12 hb20)
 have hB32 := hB4.below hb33
 have hB34 := upd_blk hB32 hu27 (by omega)
 have hB35 := hB11.below hb20
 have hB36 := upd_blk hB35 hu27 (by omega)
 refine WL.nil (WE.next (WC.seq (WC.region (WL.mv rfl rfl rfl rfl rfl ?_))))
 refine WL.val (.func (Fn.func 23) #[] #[.pointer (some ⟨g9, 0, none⟩)]) rfl rfl rfl (fun za zC zh zk => mkfn rfl (hv0) (hv1 (zh.ev rfl)) zk) ?_
 refine WL.val _ rfl rfl rfl (fun za zC zh zk => ld_48 rfl (zh.ev rfl) ((hB28.cell 0).trans rfl) zk) ?_
 refine WL.val (.func (Fn.func 25) #[] #[.pointer (some ⟨g2, 0, none⟩), .pointer (some ⟨g9, 0, none⟩), .pointer (some ⟨g17, 0, none⟩)]) rfl rfl rfl (fun za zC zh zk => mkfn rfl (hv0) (hv3 (zh.ev rfl) (zh.ev rfl) (zh.ev rfl)) zk) ?_
 refine WL.val (.agg #[.func (.func 22) #[] #[], .func (Fn.func 15) #[] #[.pointer (some ⟨g9, 0, none⟩)], .func (Fn.func 23) #[] #[.pointer (some ⟨g9, 0, none⟩)], .func (Fn.func 18) #[] #[.pointer (some ⟨g9, 0, none⟩)], .func (Fn.func 25) #[] #[.pointer (some ⟨g2, 0, none⟩), .pointer (some ⟨g9, 0, none⟩), .pointer (some ⟨g17, 0, none⟩)]]) rfl rfl rfl (fun za zC zh zk => build_53_0_1_2_3_4 rfl (zh.ev rfl) (zh.ev rfl) (zh.ev rfl) (zh.ev rfl) (zh.ev rfl) zk) ?_
 refine WL.step (post := NewBlk w26 53 #[.nilFunc, .nilFunc, .nilFunc, .nilFunc, .nilFunc]) rfl rfl rfl (fun za zC zh zk => alloc_53 rfl (zk _ _ (newBlk _ _ _))) ?_
 rintro _ w37 ⟨g38, rfl, hg39, hB40, hb41, hz42⟩
 have hl43 : g2 < g38 := by have z1 := hB34.lt; omega
 have hl44 : g9 < g38 := by have z1 := hB36.lt; omega
 have hl45 : g17 < g38 := by have z1 := hB28.lt; omega
 have hl46 : w.heap.size ≤ g38 := by have z2 := (hb31).size; omega
 refine WL.step (post := fun _ w' => Upd g38 w37 w' ∧ Blk w' g38 53 #[.func (.func 22) #[] #[], .func (Fn.func 15) #[] #[.pointer (some ⟨g9, 0, none⟩)], .func (Fn.func 23) #[] #[.pointer (some ⟨g9, 0, none⟩)], .func (Fn.func 18) #[] #[.pointer (some ⟨g9, 0, none⟩)], .func (Fn.func 25) #[] #[.pointer (some ⟨g2, 0, none⟩), .pointer (some ⟨g9, 0, none⟩), .pointer (some ⟨g17, 0, none⟩)]]) rfl rfl rfl (fun za zC zh zk => st_53 rfl (zh.ev rfl) (zh.ev rfl) rfl rfl rfl rfl rfl hB40 (by first | decide | simp) (fun v => zk v _ ⟨((((Upd.at_ _ _ _ _).trans (Upd.at_ _ _ _ _)).trans (Upd.at_ _ _ _ _)).trans (Upd.at_ _ _ _ _)).trans (Upd.at_ _ _ _ _), ((((hB40.set_ 0 _).set_ 1 _).set_ 2 _).set_ 3 _).set_ 4 _⟩)) ?_
 rintro v50 w47 ⟨hu48, hB49⟩
 have hb51 : Below w.heap.size w w37 := (bstep hb31 hb41)
 have hb52 := upd_below hb51 hu48 (by omega)
 have hB53 := hB34.below hb41
 have hB54 := upd_blk hB53 hu48 (by omega)
 have hB55 := hB36.below hb41
 have hB56 := upd_blk hB55 hu48 (by omega)
 have hB57 := hB28.below hb41
 have hB58 := upd_blk hB57 hu48 (by omega)
 refine WL.nil (WE.next (WC.seq (WC.seq ?_)))
 refine WC.opt [(true, .val (.int .i64 k)), (true, .val (.bool ((decide ((k : Int) < (0 : Int)))))), (true, .val (.bool ((decide ((k : Int) < (0 : Int)))))), ((true && !(decide ((k : Int) < (0 : Int)))), .val (.int .i64 k)), ((true && !(decide ((k : Int) < (0 : Int)))), .val (.bool ((decide ((5 : Int) ≤ (k : Int)))))), (true, .val (.bool (((decide ((k : Int) < (0 : Int))) || (decide ((5 : Int) ≤ (k : Int)))))))] [(0, .agg #[.bool o.lpo, .slice p1 o.prec.length k1, .slice p2 o.weights.length k2, .int .i64 o.var]), (1, .int .i64 k), (2, .slice a l.length c), (3, .pointer (some ⟨g2, 0, none⟩)), (5, .pointer (some ⟨g9, 0, none⟩)), (6, .slice none 0 0), (7, .func (Fn.func 15) #[] #[.pointer (some ⟨g9, 0, none⟩)]), (8, .pointer (some ⟨g17, 0, none⟩)), (9, .pointer (some ⟨g38, 0, none⟩))] ⟨rfl, rfl, rfl, rfl, rfl, rfl, rfl, rfl, rfl, trivial⟩ (by kernel_rfl) (by kernel_rfl) (by kernel_rfl) ?_ ?_
 ·refine ⟨⟨true, .none rfl, fun h w => optUndef h, fun zβ za zw zc => ?_⟩, ?_⟩
  ·exact wp_move rfl (zc.kn.ev rfl) ⟨_, rfl, Below.refl _ _, optDef zβ rfl⟩
  refine ⟨⟨true, .none rfl, fun h w => optUndef h, fun zβ za zw zc => ?_⟩, ?_⟩
  ·exact lss_25 rfl ((evt za 18).trans (optVal (zc.dep 0 18 (by kernel_rfl)) rfl rfl)) (zc.kn.ev rfl) ⟨_, rfl, Below.refl _ _, optDef zβ rfl⟩
  refine ⟨⟨true, .none rfl, fun h w => optUndef h, fun zβ za zw zc => ?_⟩, ?_⟩
  ·exact wp_move rfl ((evt za 19).trans (optVal (zc.dep 1 19 (by kernel_rfl)) rfl rfl)) ⟨_, rfl, Below.refl _ _, optDef zβ rfl⟩
  refine ⟨⟨_, .no (c := (decide ((k : Int) < (0 : Int)))) (d := true) rfl (fun v w h => h), fun h w => optUndef h, fun zβ za zw zc => ?_⟩, ?_⟩
  ·exact wp_move rfl (zc.kn.ev rfl) ⟨_, rfl, Below.refl _ _, optDef zβ rfl⟩
  refine ⟨⟨_, .no (c := (decide ((k : Int) < (0 : Int)))) (d := true) rfl (fun v w h => h), fun h w => optUndef h, fun zβ za zw zc => ?_⟩, ?_⟩
  ·exact geq_3 rfl ((evt za 21).trans (optVal (zc.dep 3 21 (by kernel_rfl)) rfl zβ)) (zc.kn.ev rfl) ⟨_, rfl, Below.refl _ _, optDef zβ rfl⟩
  refine ⟨⟨true, .none rfl, fun h w => optUndef h, fun zβ za zw zc => ?_⟩, ?_⟩
  ·exact wp_or rfl ((evt za 20).trans (optVal (zc.dep 2 20 (by kernel_rfl)) rfl rfl)) (fun hp => ((evt za 22).trans (optVal (zc.dep 4 22 (by kernel_rfl)) rfl (bMkN zβ hp)))) ⟨_, rfl, Below.refl _ _, optDef zβ rfl⟩
  exact trivial
 ·intro za w59 zh hb60 zu
  have zh := zh.cons (d := 23) (v := .bool (((decide ((k : Int) < (0 : Int))) || (decide ((5 : Int) ≤ (k : Int)))))) (optVal (zu 5 23 (by kernel_rfl)) rfl rfl)
  clear zu
  refine WE.go zh ?_
  refine WE.next ?_
  refine WC.condT rfl (by simp; omega) ?_
  refine WC.seq (WC.region (WL.asg rfl rfl rfl rfl rfl (WL.nil (WE.next (WC.ret (WE.thenRet (WE.ret1 rfl rfl ?_)))))))
  have hb61 : Below w.heap.size w w59 := (bstep hb52 hb60)
  exact ⟨_, rfl, .inl ⟨by omega, rfl⟩, hb61⟩
theorem sel_any (o : Od) (k : Int) (l : List Li) (w : World) (a : Option Addr) (c : Nat) (hl : IsCl w l a c) (hlz : l.length ≤ 1048576) (vo : Value) (ho : IsOd w o vo) : Calls Try.prog 7 #[vo, .int .i64 k, .slice a l.length c] w (Ret fun v' w' => SelIs w' (selK o k l) v' ∧ Below w.heap.size w w') := by
 by_cases hk : k < 0 ∨ 4 < k
 ·have e : selK o k l = -1 := by unfold selK; rw [if_neg (by omega), if_neg (by omega), if_neg (by omega), if_neg (by omega)]
  rw [e]; exact sel_bad o k hk l w a c hl hlz vo ho
 ·rcases (show k = 0 ∨ k = 1 ∨ k = 2 ∨ k = 3 ∨ k = 4 by omega) with rfl | rfl | rfl | rfl | rfl
  ·exact sel_0 o l w a c hl hlz vo ho
  ·exact sel_1 o l w a c hl hlz vo ho
  ·exact sel_2 o l w a c hl hlz vo ho
  ·exact sel_3 o l w a c hl hlz vo ho
  ·exact sel_4 o l w a c hl hlz vo ho
end Go.Proofs.Ytnokgjajcnhkkaa

/- What the document says of three literals; the walk through the law: one is selected at the most, a negative one. -/
namespace Go.Proofs.Ytnokgjajcnhkkaa
open Go.RowKit Go
set_option linter.unusedVariables false
set_option linter.unusedSimpArgs false
set_option maxRecDepth 100000 in
theorem large_any (l : List Li) (w : World) (a : Option Addr) (c : Nat) (hl : IsCl w l a c) (hlz : l.length ≤ 1048576) : Calls Try.prog 5 #[.slice a l.length c] w (Ret fun v' w' => v' = .bool (decide ((20 : Int) < (l.length : Int)) || decide ((400 : Int) < (clSize l : Int))) ∧ Below w.heap.size w w') := by
 refine Calls.walk (l := [.slice a l.length c]) Try.func5 rfl (by kernel_rfl) ?_
 refine WC.sub (K' := [(0, .slice a l.length c)]) ⟨rfl, trivial⟩ ?_
 refine WC.seq (WC.region (WL.asg rfl rfl rfl rfl rfl (WL.nil (WE.next (WC.seq ?_)))))
 refine WC.opt [(true, .val (.slice a l.length c)), (true, .val (.int .i64 (((l.length : Nat) : Int)))), (true, .val (.bool ((decide ((20 : Int) < (((l.length : Nat) : Int) : Int)))))), (true, .val (.bool ((decide ((20 : Int) < (((l.length : Nat) : Int) : Int)))))), ((true && !(decide ((20 : Int) < (((l.length : Nat) : Int) : Int)))), .val (.slice a l.length c)), ((true && !(decide ((20 : Int) < (((l.length : Nat) : Int) : Int)))), .val (.int .i64 ((((clSize l) : Nat) : Int)))), ((true && !(decide ((20 : Int) < (((l.length : Nat) : Int) : Int)))), .val (.bool ((decide ((400 : Int) < ((((clSize l) : Nat) : Int) : Int)))))), (true, .val (.bool (((decide ((20 : Int) < (((l.length : Nat) : Int) : Int))) || (decide ((400 : Int) < ((((clSize l) : Nat) : Int) : Int))))))), (true, .val (.bool (((decide ((20 : Int) < (((l.length : Nat) : Int) : Int))) || (decide ((400 : Int) < ((((clSize l) : Nat) : Int) : Int)))))))] [(0, .slice a l.length c)] ⟨rfl, trivial⟩ (by kernel_rfl) (by kernel_rfl) (by kernel_rfl) ?_ ?_
 ·refine ⟨⟨true, .none rfl, fun h w => optUndef h, fun zβ za zw zc => ?_⟩, ?_⟩
  ·exact wp_move rfl (zc.kn.ev rfl) ⟨_, rfl, Below.refl _ _, optDef zβ rfl⟩
  refine ⟨⟨true, .none rfl, fun h w => optUndef h, fun zβ za zw zc => ?_⟩, ?_⟩
  ·exact len_27 rfl ((evt za 3).trans (optVal (zc.dep 0 3 (by kernel_rfl)) rfl rfl)) ⟨_, rfl, Below.refl _ _, optDef zβ rfl⟩
  refine ⟨⟨true, .none rfl, fun h w => optUndef h, fun zβ za zw zc => ?_⟩, ?_⟩
  ·exact gtr_3 rfl ((evt za 4).trans (optVal (zc.dep 1 4 (by kernel_rfl)) rfl rfl)) (zc.kn.ev rfl) ⟨_, rfl, Below.refl _ _, optDef zβ rfl⟩
  refine ⟨⟨true, .none rfl, fun h w => optUndef h, fun zβ za zw zc => ?_⟩, ?_⟩
  ·exact wp_move rfl ((evt za 5).trans (optVal (zc.dep 2 5 (by kernel_rfl)) rfl rfl)) ⟨_, rfl, Below.refl _ _, optDef zβ rfl⟩
  refine ⟨⟨_, .no (c := (decide ((20 : Int) < (((l.length : Nat) : Int) : Int)))) (d := true) rfl (fun v w h => h), fun h w => optUndef h, fun zβ za zw zc => ?_⟩, ?_⟩
  ·exact wp_move rfl (zc.kn.ev rfl) ⟨_, rfl, Below.refl _ _, optDef zβ rfl⟩
  refine ⟨⟨_, .no (c := (decide ((20 : Int) < (((l.length : Nat) : Int) : Int)))) (d := true) rfl (fun v w h => h), fun h w => optUndef h, fun zβ za zw zc => ?_⟩, ?_⟩
  ·exact wp_call (by kernel_rfl) rfl (hv1 ((evt za 7).trans (optVal (zc.dep 4 7 (by kernel_rfl)) rfl zβ))) (rsizec_any l _ _ _ (hl.below zc.below) hlz) (fun v w' h => ⟨v, rfl, h.2, optDef zβ h.1⟩)
  refine ⟨⟨_, .no (c := (decide ((20 : Int) < (((l.length : Nat) : Int) : Int)))) (d := true) rfl (fun v w h => h), fun h w => optUndef h, fun zβ za zw zc => ?_⟩, ?_⟩
  ·exact gtr_3 rfl ((evt za 8).trans (optVal (zc.dep 5 8 (by kernel_rfl)) rfl zβ)) (zc.kn.ev rfl) ⟨_, rfl, Below.refl _ _, optDef zβ rfl⟩
  refine ⟨⟨true, .none rfl, fun h w => optUndef h, fun zβ za zw zc => ?_⟩, ?_⟩
  ·exact wp_or rfl ((evt za 6).trans (optVal (zc.dep 3 6 (by kernel_rfl)) rfl rfl)) (fun hp => ((evt za 9).trans (optVal (zc.dep 6 9 (by kernel_rfl)) rfl (bMkN zβ hp)))) ⟨_, rfl, Below.refl _ _, optDef zβ rfl⟩
  refine ⟨⟨true, .none rfl, fun h w => optUndef h, fun zβ za zw zc => ?_⟩, ?_⟩
  ·exact wp_assign rfl ((evt za 10).trans (optVal (zc.dep 7 10 (by kernel_rfl)) rfl rfl)) ⟨_, rfl, Below.refl _ _, optDef zβ rfl⟩
  exact trivial
 ·intro za w2 zh hb3 zu
  have zh := zh.cons (d := 2) (v := .bool (((decide ((20 : Int) < (((l.length : Nat) : Int) : Int))) || (decide ((400 : Int) < ((((clSize l) : Nat) : Int) : Int)))))) (optVal (zu 8 2 (by kernel_rfl)) rfl rfl)
  clear zu
  refine WE.go zh ?_
  refine WE.next (WC.ret (WE.ret1 rfl rfl ?_))
  exact ⟨_, rfl, by rfl, hb3⟩
def wkA : T := .mk 1 []
def wkB : T := .mk 2 []
def wkG : T := .mk 3 [.mk 1 []]
def wkC : List Li := [⟨false, wkA, wkB⟩, ⟨true, wkG, wkB⟩, ⟨true, wkA, wkB⟩]
def wkO : Od := ⟨false, [], [], 0⟩
theorem wk_sel2 : selK wkO 2 wkC = 1 := by decide +kernel
theorem wk_sel3 : selK wkO 3 wkC = 2 := by decide +kernel
theorem wk_sound1 : soundB wkC [1] = true := by decide +kernel
theorem wk_sound0 : soundB wkC [0] = false := by decide +kernel
theorem wkO_is (w : World) : IsOd w wkO (.agg #[.bool false, .slice none 0 0, .slice none 0 0, .int .i64 0]) := ⟨none, none, 0, 0, rfl, Nat.le_refl _, Nat.zero_le _, Nat.le_refl _, Nat.zero_le _, fun i hi => by simp [wkO] at hi, fun i hi => by simp [wkO] at hi, by unfold I64; decide⟩
theorem SelIs.at_ {w : World} {k : Int} {v : Value} (h : SelIs w k v) (hk : 0 ≤ k) : ∃ g, v = .slice (some ⟨g, 0, none⟩) 1 1 ∧ Blk w g 3 #[.int .i64 k] := by
 rcases h with ⟨h1, _⟩ | ⟨_, h⟩
 ·omega
 ·exact h
theorem sound_wk0 {w : World} {a : Option Addr} {g : Nat} (hC : IsCl w wkC a 3) (hB : Blk w g 3 #[.int .i64 0]) : Calls Try.prog 8 #[.slice a 3 3, .slice (some ⟨g, 0, none⟩) 1 1] w (Ret fun v' w' => v' = .bool false ∧ Below w.heap.size w w') := by
 have z := sound_any wkC [0] w a _ 3 1 hC (isInts_1 hB (by unfold I64; decide)) (by decide) (by decide) (by decide) (by unfold maxLen; decide)
 rwa [wk_sound0] at z
theorem sound_wk1 {w : World} {a : Option Addr} {g : Nat} (hC : IsCl w wkC a 3) (hB : Blk w g 3 #[.int .i64 1]) : Calls Try.prog 8 #[.slice a 3 3, .slice (some ⟨g, 0, none⟩) 1 1] w (Ret fun v' w' => v' = .bool true ∧ Below w.heap.size w w') := by
 have z := sound_any wkC [1] w a _ 3 1 hC (isInts_1 hB (by unfold I64; decide)) (by decide) (by decide) (by decide) (by unfold maxLen; decide)
 rwa [wk_sound1] at z
set_option maxRecDepth 100000 in
theorem wakes_any (w : World) : Calls Try.prog 6 #[] w (Ret fun v' w' => v' = .bool true ∧ Below w.heap.size w w') := by
 refine Calls.walk (l := []) Try.func6 rfl (by kernel_rfl) ?_
 refine WC.sub (K' := []) trivial ?_
 refine WC.seq (WC.region (WL.asg rfl rfl rfl rfl rfl (WL.nil (WE.next (WC.seq (WC.region ?_))))))
 refine WL.val (.agg #[.int .i64 1, .slice none 0 0]) rfl rfl rfl (fun za zC zh zk => build_34_0 rfl (zh.ev rfl) zk) ?_
 refine WL.val (.agg #[.int .i64 2, .slice none 0 0]) rfl rfl rfl (fun za zC zh zk => build_34_0 rfl (zh.ev rfl) zk) ?_
 refine WL.step (post := NewBlk w 34 #[.int .i64 0, .slice none 0 0]) rfl rfl rfl (fun za zC zh zk => alloc_34 rfl (zk _ _ (newBlk _ _ _))) ?_
 rintro _ w1 ⟨g2, rfl, hg3, hB4, hb5, hz6⟩
 have hl7 : w.heap.size ≤ g2 := by omega
 refine WL.step (post := NewBlk w1 34 #[.int .i64 0, .slice none 0 0]) rfl rfl rfl (fun za zC zh zk => alloc_34 rfl (zk _ _ (newBlk _ _ _))) ?_
 rintro _ w8 ⟨g9, rfl, hg10, hB11, hb12, hz13⟩
 have hl14 : g2 < g9 := by have z1 := hB4.lt; omega
 have hl15 : w.heap.size ≤ g9 := by have z2 := (hb5).size; omega
 have hB16 := hB4.below hb12
 refine WL.step (post := fun _ w' => Upd g2 w8 w' ∧ Blk w' g2 34 #[.int .i64 1, .slice none 0 0]) rfl rfl rfl (fun za zC zh zk => st_34 rfl (zh.ev rfl) (zh.ev rfl) rfl rfl hB16 (by first | decide | simp) (fun v => zk v _ ⟨(Upd.at_ _ _ _ _).trans (Upd.at_ _ _ _ _), (hB16.set_ 0 _).set_ 1 _⟩)) ?_
 rintro v20 w17 ⟨hu18, hB19⟩
 have hb21 : Below w.heap.size w w8 := (bstep hb5 hb12)
 have hb22 := upd_below hb21 hu18 (by omega)
 have hB23 := upd_blk hB11 hu18 (by omega)
 refine WL.step (post := fun _ w' => Upd g9 w17 w' ∧ Blk w' g9 34 #[.int .i64 2, .slice none 0 0]) rfl rfl rfl (fun za zC zh zk => st_34 rfl (zh.ev rfl) (zh.ev rfl) rfl rfl hB23 (by first | decide | simp) (fun v => zk v _ ⟨(Upd.at_ _ _ _ _).trans (Upd.at_ _ _ _ _), (hB23.set_ 0 _).set_ 1 _⟩)) ?_
 rintro v27 w24 ⟨hu25, hB26⟩
 have hb28 := upd_below hb22 hu25 (by omega)
 have hB29 := upd_blk hB19 hu25 (by omega)
 refine WL.nil (WE.next (WC.seq (WC.region ?_)))
 refine WL.val _ rfl rfl rfl (fun za zC zh zk => ld_34 rfl (zh.ev rfl) ((hB29.cell 0).trans rfl) ((hB29.cell 1).trans rfl) zk) ?_
 refine WL.step (post := NewRow w24 34 #[.int .i64 1, .slice none 0 0] 1) rfl rfl rfl (fun za zC zh zk => row_32_1 rfl (zh.ev rfl) (zk _ _ (newRow _ _ _ _))) ?_
 rintro _ w30 ⟨g31, rfl, hg32, hB33, hb34, hz35⟩
 have hl36 : g2 < g31 := by have z1 := hB29.lt; omega
 have hl37 : g9 < g31 := by have z1 := hB26.lt; omega
 have hl38 : w.heap.size ≤ g31 := by have z2 := (hb28).size; omega
 refine WL.val (.agg #[.int .i64 3, .slice ((some ⟨g31, 0, none⟩)) 1 1]) rfl rfl rfl (fun za zC zh zk => build_34_0_1 rfl (zh.ev rfl) (zh.ev rfl) zk) ?_
 refine WL.step (post := NewBlk w30 34 #[.int .i64 0, .slice none 0 0]) rfl rfl rfl (fun za zC zh zk => alloc_34 rfl (zk _ _ (newBlk _ _ _))) ?_
 rintro _ w39 ⟨g40, rfl, hg41, hB42, hb43, hz44⟩
 have hl45 : g2 < g40 := by have z1 := hB29.lt; have z2 := (hb34).size; omega
 have hl46 : g9 < g40 := by have z1 := hB26.lt; have z2 := (hb34).size; omega
 have hl47 : g31 < g40 := by have z1 := hB33.lt; omega
 have hb48 : Below w.heap.size w w30 := (bstep hb28 hb34)
 have hl49 : w.heap.size ≤ g40 := by have z2 := (hb48).size; omega
 refine WL.step (post := fun _ w' => Upd g40 w39 w' ∧ Blk w' g40 34 #[.int .i64 3, .slice ((some ⟨g31, 0, none⟩)) 1 1]) rfl rfl rfl (fun za zC zh zk => st_34 rfl (zh.ev rfl) (zh.ev rfl) rfl rfl hB42 (by first | decide | simp) (fun v => zk v _ ⟨(Upd.at_ _ _ _ _).trans (Upd.at_ _ _ _ _), (hB42.set_ 0 _).set_ 1 _⟩)) ?_
 rintro v53 w50 ⟨hu51, hB52⟩
 have hb54 : Below w.heap.size w w39 := (bstep hb48 hb43)
 have hb55 := upd_below hb54 hu51 (by omega)
 have hb57 : Below w24.heap.size w24 w39 := (bstep hb34 hb43)
 have hB56 := hB29.below hb57
 have hB58 := upd_blk hB56 hu51 (by omega)
 have hB59 := hB26.below hb57
 have hB60 := upd_blk hB59 hu51 (by omega)
 have hB61 := hB33.below hb43
 have hB62 := upd_blk hB61 hu51 (by omega)
 refine WL.nil (WE.next (WC.seq (WC.region ?_)))
 refine WL.val _ rfl rfl rfl (fun za zC zh zk => ld_34 rfl (zh.ev rfl) ((hB58.cell 0).trans rfl) ((hB58.cell 1).trans rfl) zk) ?_
 refine WL.val _ rfl rfl rfl (fun za zC zh zk => ld_34 rfl (zh.ev rfl) ((hB60.cell 0).trans rfl) ((hB60.cell 1).trans rfl) zk) ?_
 refine WL.val (.agg #[.bool false, .int .i64 1, .slice none 0 0, .int .i64 2, .slice none 0 0]) rfl rfl rfl (fun za zC zh zk => build_36_1_2 rfl (zh.ev rfl) (zh.ev rfl) zk) ?_
 refine WL.val _ rfl rfl rfl (fun za zC zh zk => ld_34 rfl (zh.ev rfl) ((hB52.cell 0).trans rfl) ((hB52.cell 1).trans rfl) zk) ?_
 refine WL.val _ rfl rfl rfl (fun za zC zh zk => ld_34 rfl (zh.ev rfl) ((hB60.cell 0).trans rfl) ((hB60.cell 1).trans rfl) zk) ?_
 refine WL.val (.agg #[.bool true, .int .i64 3, .slice ((some ⟨g31, 0, none⟩)) 1 1, .int .i64 2, .slice none 0 0]) rfl rfl rfl (fun za zC zh zk => build_36_0_1_2 rfl (zh.ev rfl) (zh.ev rfl) (zh.ev rfl) zk) ?_
 refine WL.val _ rfl rfl rfl (fun za zC zh zk => ld_34 rfl (zh.ev rfl) ((hB58.cell 0).trans rfl) ((hB58.cell 1).trans rfl) zk) ?_
 refine WL.val _ rfl rfl rfl (fun za zC zh zk => ld_34 rfl (zh.ev rfl) ((hB60.cell 0).trans rfl) ((hB60.cell 1).trans rfl) zk) ?_
 refine WL.val (.agg #[.bool true, .int .i64 1, .slice none 0 0, .int .i64 2, .slice none 0 0]) rfl rfl rfl (fun za zC zh zk => build_36_0_1_2 rfl (zh.ev rfl) (zh.ev rfl) (zh.ev rfl) zk) ?_
 refine WL.step (post := NewRow w50 36 #[.bool false, .int .i64 1, .slice none 0 0, .int .i64 2, .slice none 0 0, .bool true, .int .i64 3, .slice ((some ⟨g31, 0, none⟩)) 1 1, .int .i64 2, .slice none 0 0, .bool true, .int .i64 1, .slice none 0 0, .int .i64 2, .slice none 0 0] 3) rfl rfl rfl (fun za zC zh zk => row_27_3 rfl (zh.ev rfl) (zh.ev rfl) (zh.ev rfl) (zk _ _ (newRow _ _ _ _))) ?_
 rintro _ w63 ⟨g64, rfl, hg65, hB66, hb67, hz68⟩
 have hl69 : g2 < g64 := by have z1 := hB58.lt; omega
 have hl70 : g9 < g64 := by have z1 := hB60.lt; omega
 have hl71 : g31 < g64 := by have z1 := hB62.lt; omega
 have hl72 : g40 < g64 := by have z1 := hB52.lt; omega
 have hl73 : w.heap.size ≤ g64 := by have z2 := (hb55).size; omega
 refine WL.asg rfl rfl rfl rfl rfl (WL.nil (WE.next (WC.seq (WC.region ?_))))
 refine WL.val (.agg #[.bool false, .slice none 0 0, .slice none 0 0, .int .i64 0]) rfl rfl rfl (fun za zC zh zk => build_24_ rfl  zk) ?_
 refine WL.mv rfl rfl rfl rfl rfl ?_
 have hB74 := hB62.below hb67
 have hA : IsT w63 wkA (.agg #[.int .i64 1, .slice none 0 0]) := isT_lf (by decide)
 have hBb : IsT w63 wkB (.agg #[.int .i64 2, .slice none 0 0]) := isT_lf (by decide)
 have hG : IsT w63 wkG (.agg #[.int .i64 3, .slice (some ⟨g31, 0, none⟩) 1 1]) := isT_mk (by unfold I64; decide) ⟨_, _, rfl, Nat.le_refl _, by unfold maxLen; decide, ⟨⟨_, 0, _, _, rfl, (Blk.cell hB74 _).trans rfl, (Blk.cell hB74 _).trans rfl, hA⟩, trivial⟩⟩
 have hC : IsCl w63 wkC (some ⟨g64, 0, none⟩) 3 := isCl_blk (cs := [[.bool false, .int .i64 1, .slice none 0 0, .int .i64 2, .slice none 0 0], [.bool true, .int .i64 3, .slice ((some ⟨g31, 0, none⟩)) 1 1, .int .i64 2, .slice none 0 0], [.bool true, .int .i64 1, .slice none 0 0, .int .i64 2, .slice none 0 0]]) (l := wkC) hB66 rfl (by simp) (fun i hi hc => by have h9 : i < 3 := hi; rcases (show i = 0 ∨ i = 1 ∨ i = 2 by omega) with rfl | rfl | rfl <;> first | exact isLi_of (x := ⟨false, wkA, wkB⟩) hA hBb | exact isLi_of (x := ⟨true, wkG, wkB⟩) hG hBb | exact isLi_of (x := ⟨true, wkA, wkB⟩) hA hBb) (by decide) (by decide)
 refine WL.call rfl rfl rfl (fun za zh zC => wp_call (by kernel_rfl) rfl (hv3 (zh.ev rfl) (zh.ev rfl) (zh.ev rfl))) (sel_any wkO 2 wkC _ _ _ (hC.below (Below.refl _ _)) (by decide) _ (wkO_is _)) ?_
 rintro v75 w80 ⟨h76, hb77⟩
 rw [wk_sel2] at h76
 obtain ⟨g79, rfl, hB78⟩ := SelIs.at_ h76 (by decide)
 refine WL.asg rfl rfl rfl rfl rfl ?_
 refine WL.nil (WE.sub (K' := [(0, .bool false), (1, .pointer (some ⟨g2, 0, none⟩)), (2, .pointer (some ⟨g9, 0, none⟩)), (3, .pointer (some ⟨g40, 0, none⟩)), (4, .slice ((some ⟨g64, 0, none⟩)) 3 3), (5, .slice ((some ⟨g79, 0, none⟩)) 1 1)]) ⟨rfl, rfl, rfl, rfl, rfl, rfl, trivial⟩ ?_)
 refine WE.next (WC.seq (WC.region ?_))
 refine WL.val (.agg #[.bool false, .slice none 0 0, .slice none 0 0, .int .i64 0]) rfl rfl rfl (fun za zC zh zk => build_24_ rfl  zk) ?_
 refine WL.mv rfl rfl rfl rfl rfl ?_
 have hB81 := hB66.below hb77
 refine WL.call rfl rfl rfl (fun za zh zC => wp_call (by kernel_rfl) rfl (hv3 (zh.ev rfl) (zh.ev rfl) (zh.ev rfl))) (sel_any wkO 3 wkC _ _ _ (hC.below hb77) (by decide) _ (wkO_is _)) ?_
 rintro v82 w87 ⟨h83, hb84⟩
 rw [wk_sel3] at h83
 obtain ⟨g86, rfl, hB85⟩ := SelIs.at_ h83 (by decide)
 refine WL.asg rfl rfl rfl rfl rfl (WL.nil (WE.next (WC.seq (WC.region (WL.mv rfl rfl rfl rfl rfl ?_)))))
 refine WL.val (.int .i64 1) rfl rfl rfl (fun za zC zh zk => len_22 rfl (zh.ev rfl) zk) ?_
 refine WL.val (.bool true) rfl rfl rfl (fun za zC zh zk => eql_3 rfl (zh.ev rfl) (zh.ev rfl) zk) ?_
 refine WL.mv rfl rfl rfl rfl rfl ?_
 refine WL.want (d := 31) rfl rfl rfl ?_
 refine WL.mv rfl rfl rfl rfl rfl ?_
 refine WL.want (d := 31) rfl rfl rfl ?_
 refine WL.val _ rfl rfl rfl (fun za zC zh zk => ix_22 (k := 0) rfl (zh.ev rfl) rfl (zh.ev rfl) (by first | omega | (simp; omega)) zk) ?_
 refine WL.want (d := 31) rfl rfl rfl ?_
 have hB88 := hB78.below hb84
 refine WL.val _ rfl rfl rfl (fun za zC zh zk => ld_3 rfl (zh.ev rfl) ((hB88.cell 0).trans rfl) zk) ?_
 refine WL.want (d := 31) rfl rfl rfl ?_
 refine WL.val (.bool true) rfl rfl rfl (fun za zC zh zk => eql_3 rfl (zh.ev rfl) (zh.ev rfl) zk) ?_
 refine WL.val (.bool true) rfl rfl rfl (fun za zC zh zk => wp_pickT rfl (zh.ev rfl) (zh.ev rfl) zk) ?_
 refine WL.mv rfl rfl rfl rfl rfl ?_
 refine WL.want (d := 37) rfl rfl rfl ?_
 refine WL.mv rfl rfl rfl rfl rfl ?_
 refine WL.want (d := 37) rfl rfl rfl ?_
 refine WL.val (.int .i64 1) rfl rfl rfl (fun za zC zh zk => len_22 rfl (zh.ev rfl) zk) ?_
 refine WL.want (d := 37) rfl rfl rfl ?_
 refine WL.val (.bool true) rfl rfl rfl (fun za zC zh zk => eql_3 rfl (zh.ev rfl) (zh.ev rfl) zk) ?_
 refine WL.val (.bool true) rfl rfl rfl (fun za zC zh zk => wp_pickT rfl (zh.ev rfl) (zh.ev rfl) zk) ?_
 refine WL.mv rfl rfl rfl rfl rfl ?_
 refine WL.want (d := 42) rfl rfl rfl ?_
 refine WL.mv rfl rfl rfl rfl rfl ?_
 refine WL.want (d := 42) rfl rfl rfl ?_
 refine WL.val _ rfl rfl rfl (fun za zC zh zk => ix_22 (k := 0) rfl (zh.ev rfl) rfl (zh.ev rfl) (by first | omega | (simp; omega)) zk) ?_
 refine WL.want (d := 42) rfl rfl rfl ?_
 refine WL.val _ rfl rfl rfl (fun za zC zh zk => ld_3 rfl (zh.ev rfl) ((hB85.cell 0).trans rfl) zk) ?_
 refine WL.want (d := 42) rfl rfl rfl ?_
 refine WL.val (.bool true) rfl rfl rfl (fun za zC zh zk => eql_3 rfl (zh.ev rfl) (zh.ev rfl) zk) ?_
 refine WL.val (.bool true) rfl rfl rfl (fun za zC zh zk => wp_pickT rfl (zh.ev rfl) (zh.ev rfl) zk) ?_
 refine WL.mv rfl rfl rfl rfl rfl ?_
 refine WL.want (d := 48) rfl rfl rfl ?_
 refine WL.mv rfl rfl rfl rfl rfl ?_
 refine WL.want (d := 48) rfl rfl rfl ?_
 refine WL.mv rfl rfl rfl rfl rfl ?_
 refine WL.want (d := 48) rfl rfl rfl ?_
 have hb89 : Below w63.heap.size w63 w87 := (bstep hb77 hb84)
 refine WL.call rfl rfl rfl (fun za zh zC => wp_call (by kernel_rfl) rfl (hv2 (zh.ev rfl) (zh.ev rfl))) (sound_wk1 (hC.below hb89) hB88) ?_
 rintro _ w91 ⟨rfl, hq90⟩
 refine WL.val (.bool true) rfl rfl rfl (fun za zC zh zk => wp_pickT rfl (zh.ev rfl) (zh.ev rfl) zk) ?_
 refine WL.mv rfl rfl rfl rfl rfl ?_
 refine WL.want (d := 53) rfl rfl rfl ?_
 refine WL.mv rfl rfl rfl rfl rfl ?_
 refine WL.want (d := 53) rfl rfl rfl ?_
 refine WL.step (post := NewRow w91 3 #[.int .i64 0] 1) rfl rfl rfl (fun za zC zh zk => row_22_1 rfl (zh.ev rfl) (zk _ _ (newRow _ _ _ _))) ?_
 rintro _ w92 ⟨g93, rfl, hg94, hB95, hb96, hz97⟩
 have hb98 : Below w50.heap.size w50 w91 := (bstep (bstep hb67 hb89) hq90)
 have hl99 : g2 < g93 := by have z1 := hB58.lt; have z2 := (hb98).size; omega
 have hl100 : g9 < g93 := by have z1 := hB60.lt; have z2 := (hb98).size; omega
 have hb101 : Below w63.heap.size w63 w91 := (bstep hb89 hq90)
 have hl102 : g31 < g93 := by have z1 := hB74.lt; have z2 := (hb101).size; omega
 have hl103 : g40 < g93 := by have z1 := hB52.lt; have z2 := (hb98).size; omega
 have hb104 : Below w80.heap.size w80 w91 := (bstep hb84 hq90)
 have hl105 : g64 < g93 := by have z1 := hB81.lt; have z2 := (hb104).size; omega
 have hl106 : g79 < g93 := by have z1 := hB88.lt; have z2 := (hq90).size; omega
 have hl107 : g86 < g93 := by have z1 := hB85.lt; have z2 := (hq90).size; omega
 have hb108 : Below w.heap.size w w91 := (bstep hb55 hb98)
 have hl109 : w.heap.size ≤ g93 := by have z2 := (hb108).size; omega
 have hl110 : w63.heap.size ≤ g93 := by have z2 := (hb101).size; omega
 refine WL.want (d := 53) rfl rfl rfl ?_
 have hb111 : Below w63.heap.size w63 w92 := (bstep hb101 hb96)
 refine WL.call rfl rfl rfl (fun za zh zC => wp_call (by kernel_rfl) rfl (hv2 (zh.ev rfl) (zh.ev rfl))) (sound_wk0 (hC.below hb111) hB95) ?_
 rintro _ w113 ⟨rfl, hq112⟩
 refine WL.want (d := 53) rfl rfl rfl ?_
 refine WL.val (.bool true) rfl rfl rfl (fun za zC zh zk => wp_not rfl (zh.ev rfl) zk) ?_
 refine WL.val (.bool true) rfl rfl rfl (fun za zC zh zk => wp_pickT rfl (zh.ev rfl) (zh.ev rfl) zk) ?_
 refine WL.asg rfl rfl rfl rfl rfl ?_
 refine WL.nil (WE.sub (K' := [(0, .bool true), (1, .pointer (some ⟨g2, 0, none⟩)), (2, .pointer (some ⟨g9, 0, none⟩)), (3, .pointer (some ⟨g40, 0, none⟩)), (4, .slice ((some ⟨g64, 0, none⟩)) 3 3), (5, .slice ((some ⟨g79, 0, none⟩)) 1 1), (6, .slice ((some ⟨g86, 0, none⟩)) 1 1)]) ⟨rfl, rfl, rfl, rfl, rfl, rfl, rfl, trivial⟩ ?_)
 refine WE.next (WC.ret (WE.ret1 rfl rfl ?_))
 have hb114 : Below w.heap.size w w113 := (bstep (bstep hb108 hb96) hq112)
 exact ⟨_, rfl, rfl, hb114⟩
theorem SelIs.row2 {w : World} {k : Int} {v : Value} (h : SelIs w k v) (hk : I64 k) : ∃ a, v = .slice a (selL k).length (selL k).length ∧ IsInts w (selL k) a := by
 rcases h with ⟨h1, rfl⟩ | ⟨h1, g, rfl, hB⟩
 ·exact ⟨_, by rw [selL, if_pos h1]; rfl, by rw [selL, if_pos h1]; intro i hi; simp at hi⟩
 ·exact ⟨_, by rw [selL, if_neg (by omega)]; rfl, by rw [selL, if_neg (by omega)]; exact isInts_1 hB hk⟩
theorem sel_facts (o : Od) (k : Int) (l : List Li) (hz : l.length ≤ 1048576) : I64 (selK o k l) ∧ (selL (selK o k l)).length ≤ 1 ∧ soundB l (selL (selK o k l)) = true ∧ ((selL (selK o k l)).length = 0 ∨ (0 ≤ iget (selL (selK o k l)) 0 ∧ iget (selL (selK o k l)) 0 < (l.length : Int) ∧ (lget l (iget (selL (selK o k l)) 0).toNat).neg = true)) := by
 rcases selK_at o k l with e | ⟨q, h1, h2, h3⟩
 ·rw [e]; exact ⟨by unfold I64; decide, by decide, by rfl, .inl rfl⟩
 ·rw [h2]
  have e1 : selL (q : Int) = [(q : Int)] := by unfold selL; rw [if_neg (by omega)]
  rw [e1]
  have e2 : iget [(q : Int)] 0 = (q : Int) := rfl
  refine ⟨by unfold I64; omega, by simp, ?_, .inr ?_⟩
  ·apply soundB_yes
   intro k hk
   obtain rfl : k = 0 := by simpa using hk
   unfold soundAt
   rw [e2, Int.toNat_natCast, h3]
   have : inB [(q : Int)] (q : Int) 0 = false := rfl
   rw [this]
   simp; omega
  ·rw [e2, Int.toNat_natCast]; exact ⟨by omega, by omega, h3⟩
end Go.Proofs.Ytnokgjajcnhkkaa

/- Operations, one law a kind and type. -/
namespace Go.Proofs.Ytnokgjajcnhkkaa
open Go.RowKit Go
set_option linter.unusedVariables false
set_option linter.unusedSimpArgs false
set_option maxRecDepth 100000
end Go.Proofs.Ytnokgjajcnhkkaa

/- Operations, one law a kind and type. -/
namespace Go.Proofs.Ytnokgjajcnhkkaa
open Go.RowKit Go
set_option linter.unusedVariables false
set_option linter.unusedSimpArgs false
set_option maxRecDepth 100000
theorem box_3 {w : World} {a : Act} {K : Act → World → Prop} {Q : Exit → Act → World → Prop} {o : Oper} {x : Operand} {c0 : Int} (ho : o.op = .box 3 x) (hx : a.eval x = .int .i64 c0) (hK : K (a.put o.dst (.pointer (some ⟨w.heap.size, 0, none⟩))) (w.alloc (.cells #[.int .i64 c0] 3))) : o.wp Try.prog a w K Q := by
  unfold Oper.wp execOp
  simp only [ho, hx]
  go_simp
  exact hK
theorem st_3 {w : World} {a : Act} {K : Act → World → Prop} {Q : Exit → Act → World → Prop} {o : Oper} {x y : Operand} {g p : Nat} {ty : TypeId} {cs : Array Value} {c0 : Int} (ho : o.op = .store 3 x y) (hx : a.eval x = .pointer (some ⟨g, p, none⟩)) (hy : a.eval y = .int .i64 c0) (hB : Blk w g ty cs) (hp : p + 0 < cs.size) (hK : ∀ v, K (a.put o.dst v) (w.setCell ⟨g, p, none⟩ (.int .i64 c0))) : o.wp Try.prog a w K Q := by
  have h0 := (hB.cell (p)).trans (Array.getElem?_eq_getElem (by first | omega | (simp; omega)))
  have f0 := hB.frozen (p)
  clear hB
  unfold Oper.wp execOp
  simp only [ho, hx, hy]
  go_simp
  exact hK _
theorem st_32 {w : World} {a : Act} {K : Act → World → Prop} {Q : Exit → Act → World → Prop} {o : Oper} {x y : Operand} {g p : Nat} {ty : TypeId} {cs : Array Value} {c0a : Option Addr} {c0n c0c : Nat} (ho : o.op = .store 32 x y) (hx : a.eval x = .pointer (some ⟨g, p, none⟩)) (hy : a.eval y = .slice c0a c0n c0c) (hB : Blk w g ty cs) (hp : p + 0 < cs.size) (hK : ∀ v, K (a.put o.dst v) (w.setCell ⟨g, p, none⟩ (.slice c0a c0n c0c))) : o.wp Try.prog a w K Q := by
  have h0 := (hB.cell (p)).trans (Array.getElem?_eq_getElem (by first | omega | (simp; omega)))
  have f0 := hB.frozen (p)
  clear hB
  unfold Oper.wp execOp
  simp only [ho, hx, hy]
  go_simp
  exact hK _
end Go.Proofs.Ytnokgjajcnhkkaa

/- Copies of terms: the program and the document. -/
namespace Go.Proofs.Ytnokgjajcnhkkaa
open Go.RowKit Go
set_option linter.unusedVariables false
set_option linter.unusedSimpArgs false
theorem len_le_sizeL (l : List T) : l.length ≤ T.sizeL l := by
  induction l with
  | nil => simp [T.sizeL]
  | cons t r ih => simp only [List.length_cons, T.sizeL]; have : 1 ≤ t.size := by rw [T.size_eq]; omega
                   omega
theorem size_at {l : List T} {k N : Nat} {f : Int} (h : k < l.length) (hz : (T.mk f l).size ≤ N) : (tget l k).size ≤ N := by
  have h1 := T.size_le_sizeL (tget_mem h)
  simp only [T.size] at hz
  omega
end Go.Proofs.Ytnokgjajcnhkkaa

/- Substitutions: how they lie in memory. -/
namespace Go.Proofs.Ytnokgjajcnhkkaa
open Go.RowKit Go
set_option linter.unusedVariables false
set_option linter.unusedSimpArgs false
structure Bd where
  var : Int
  t : T
instance : Inhabited Bd := ⟨⟨0, .mk 0 []⟩⟩
/-- A pointer to a term. -/
def IsTp (w : World) (t : T) (v : Value) : Prop := ∃ (b o : Nat) (a : Option Addr) (c : Nat), v = .pointer (some ⟨b, o, none⟩) ∧ w.cell? ⟨b, o, none⟩ = some (.int .i64 t.f) ∧ w.cell? ⟨b, o + 1, none⟩ = some (.slice a t.args.length c) ∧ IsT w t (.agg #[.int .i64 t.f, .slice a t.args.length c])
theorem IsTp.below {w w' : World} {t : T} {v : Value} (hb : Below w.heap.size w w') (h : IsTp w t v) : IsTp w' t v := by
  obtain ⟨b, o, a, c, e, h1, h2, h3⟩ := h
  exact ⟨b, o, a, c, e, bkeeps hb _ _ h1, bkeeps hb _ _ h2, IsT.below hb h3⟩
/-- A pointer to a term, or none. -/
def IsTo (w : World) (t : Option T) (v : Value) : Prop := match t with | none => v = .pointer none | some t => IsTp w t v
theorem IsTo.below {w w' : World} {t : Option T} {v : Value} (hb : Below w.heap.size w w') (h : IsTo w t v) : IsTo w' t v := by
  cases t with
  | none => exact h
  | some t => exact IsTp.below hb h
end Go.Proofs.Ytnokgjajcnhkkaa

namespace Go.Proofs.Ytnokgjajcnhkkaa
open Go.RowKit Go
set_option linter.unusedVariables false
set_option linter.unusedSimpArgs false
/-- The value is the binding. -/
def IsBd (w : World) (x : Bd) (v : Value) : Prop := ∃ a c, v = .agg #[.int .i64 x.var, .int .i64 x.t.f, .slice a x.t.args.length c] ∧ I64 x.var ∧ IsT w x.t (.agg #[.int .i64 x.t.f, .slice a x.t.args.length c])
theorem IsBd.below {w w' : World} {x : Bd} {v : Value} (hb : Below w.heap.size w w') (h : IsBd w x v) : IsBd w' x v := by
  obtain ⟨a, c, e, h1, h2⟩ := h; exact ⟨a, c, e, h1, IsT.below hb h2⟩
end Go.Proofs.Ytnokgjajcnhkkaa
