/- The walk through the law of turned clauses. -/
import Derived.Test.YtnblndmjjokepaaFvLaws
import Derived.Test.YtnblndmjjokepaaSubRMove
import Derived.Test.YtnblndmjjokepaaBoxM
namespace Go.Proofs.Ytnblndmjjokepaa
open Go.RowKit Go
set_option linter.unusedVariables false
set_option linter.unusedSimpArgs false

theorem and_int {w : World} {a : Act} {K : Act → World → Prop} {Q : Exit → Act → World → Prop} {o : Oper} {x y : Operand} {m n : Int} (ho : o.op = .binOp .and 3 x y 3) (hx : a.eval x = .int .i64 m) (hy : a.eval y = .int .i64 n) (hu : Try.prog.underlying 3 = some (.int .i64)) (hK : K (a.put o.dst (.int .i64 (bits .and .i64 m n))) w) : o.wp Try.prog a w K Q := by
  unfold Oper.wp execOp
  simp only [ho, hx, hy]
  go_simp
  exact hK
set_option maxRecDepth 10000 in
theorem and31 (x : Int) : 0 ≤ bits .and .i64 x 31 ∧ bits .and .i64 x 31 ≤ 31 := by
  have h : ∀ n : Nat, n ≤ 31 → IntKind.i64.wrap (n : Int) = n := fun n hn => IntWalk.i64_in _ (by omega)
  have h2 : (BitVec.ofInt IntKind.i64.bits x &&& BitVec.ofInt IntKind.i64.bits 31).toNat ≤ 31 := by
    rw [BitVec.toNat_and]
    exact Nat.and_le_right
  show 0 ≤ IntKind.i64.wrap ((BitVec.ofInt IntKind.i64.bits x &&& BitVec.ofInt IntKind.i64.bits 31).toNat : Int) ∧ IntKind.i64.wrap ((BitVec.ofInt IntKind.i64.bits x &&& BitVec.ofInt IntKind.i64.bits 31).toNat : Int) ≤ 31
  rw [h _ h2]
  omega
/-- The sides of a literal that has been made. -/
structure LiAt (B g : Nat) (tl tr : T) (u1 u2 u3 u4 : Value) (w : World) : Prop where
  l : InT (fun b => B ≤ b ∧ b ≠ g) w tl (.agg #[u1, u2])
  r : InT (fun b => B ≤ b ∧ b ≠ g) w tr (.agg #[u3, u4])
section
variable {B g : Nat} {tl tr : T} {u1 u2 u3 u4 : Value} {w w' : World}
theorem LiAt.below (h : LiAt B g tl tr u1 u2 u3 u4 w) (hb : Below w.heap.size w w') : LiAt B g tl tr u1 u2 u3 u4 w' := ⟨InT.below hb h.l, InT.below hb h.r⟩
theorem LiAt.chg {S : Nat → Prop} (h : LiAt B g tl tr u1 u2 u3 u4 w) (hc : Chg S w w') (hS : ∀ b, S b → b = g ∨ b < B) : LiAt B g tl tr u1 u2 u3 u4 w' :=
  ⟨h.l.chg hc (fun b hb hs => by rcases hS b hs with q | q; exact hb.2 q; exact absurd hb.1 (by omega)), h.r.chg hc (fun b hb hs => by rcases hS b hs with q | q; exact hb.2 q; exact absurd hb.1 (by omega))⟩
theorem LiAt.upd {q : Nat} (h : LiAt B g tl tr u1 u2 u3 u4 w) (hu : Upd q w w') (hq : q = g ∨ q < B) : LiAt B g tl tr u1 u2 u3 u4 w' := h.chg (S := fun b => b = q) (.ofUpd hu rfl) (fun b e => by have e2 : b = q := e; omega)
end
theorem lget_rot {l : List Li} {i r : Nat} : lget l ((i + r) % l.length) = rotI l r i := rfl
theorem featsI_isCl {w : World} {L : List Li} {a : Option Addr} {c : Nat} (h : NewC w w L a c) : True := trivial
theorem row_eq {L L2 : List Int} {w : World} {a b : Option Addr} {c e : Nat} (he : L2 = L) (h1 : Nums w L a) (h2 : Nums w L2 b) (hz : L.length ≤ 1073741824) : Calls Try.prog 10 #[.slice a L.length c, .slice b L2.length e] w (Ret fun v' w' => v' = .bool true ∧ Below w.heap.size w w') := by
  subst he; exact row_same h1 h2 hz
set_option maxRecDepth 100000 in
set_option maxHeartbeats 1000000 in
theorem turned_any (n : Int) (l : List Li) (turn by_ : Int) (w : World) (a : Option Addr) (c : Nat) (hl : IsCl w l a c) (hz : l.length ≤ 1048576) (ht : I64 turn) : Calls Try.prog 4 #[.int .i64 n, .slice a l.length c, .int .i64 turn, .int .i64 by_] w (Ret fun v' w' => v' = .bool true ∧ Below w.heap.size w w') := by
  have hr := hl.rows
  have ht' := ht
  unfold I64 at ht'
  have hsl := lsize_le l l.length (by omega) (fun x hx => ⟨hl.partsL x hx, hl.partsR x hx⟩)
  refine Calls.walk (l := [.int .i64 n, .slice a l.length c, .int .i64 turn, .int .i64 by_]) Try.func4 rfl (by kernel_rfl) ?_
  refine WC.sub (K' := [(0, .int .i64 n), (1, .slice a l.length c), (2, .int .i64 turn), (3, .int .i64 by_)]) ⟨rfl, rfl, rfl, rfl, trivial⟩ ?_
  refine WC.seq ?_
  refine WC.region ?_
  refine WL.val (.bool false) rfl rfl rfl (fun za zC zh zk => wp_assign rfl (zh.ev rfl) zk) ?_
  refine WL.nil (WE.sub (K' := [(0, .int .i64 n), (1, .slice a l.length c), (2, .int .i64 turn), (3, .int .i64 by_), (8, .bool false)]) ⟨rfl, rfl, rfl, rfl, rfl, trivial⟩ ?_)
  refine WE.next ?_
  refine WC.seq ?_
  refine WC.seq ?_
  refine WC.region ?_
  refine WL.val (.slice a l.length c) rfl rfl rfl (fun za zC zh zk => wp_move rfl (zh.ev rfl) zk) ?_
  refine WL.call rfl rfl rfl (fun za zh zC => wp_call (by kernel_rfl) rfl (hv1 (zh.ev rfl))) (lsize_any l _ _ _ (hl.below (Below.refl _ _))) ?_
  rintro _ w2 ⟨rfl, hq1⟩
  refine WL.val (.bool ((decide ((2000 : Int) < ((((lsize l l.length) : Nat) : Int) : Int))))) rfl rfl rfl (fun za zC zh zk => gtr_3 rfl (zh.ev rfl) (zh.ev rfl) zk) ?_
  refine WL.val (.bool ((decide ((2000 : Int) < ((((lsize l l.length) : Nat) : Int) : Int))))) rfl rfl rfl (fun za zC zh zk => wp_move rfl (zh.ev rfl) zk) ?_
  refine bool_split ((decide ((2000 : Int) < ((((lsize l l.length) : Nat) : Int) : Int)))) (fun h3 => ?_) (fun h3 => ?_)
  · refine WL.sub (K' := [(0, .int .i64 n), (1, .slice a l.length c), (2, .int .i64 turn), (3, .int .i64 by_), (8, .bool false), (13, .slice a l.length c), (14, .int .i64 ((((lsize l l.length) : Nat) : Int))), (15, .bool ((decide ((2000 : Int) < ((((lsize l l.length) : Nat) : Int) : Int))))), (16, .bool true)]) ⟨rfl, rfl, rfl, rfl, rfl, rfl, rfl, rfl, (by exact congrArg (fun z => some (Value.bool z)) h3), trivial⟩ ?_
    have h3 : (2000 : Int) < ((((lsize l l.length) : Nat) : Int) : Int) := by simpa using h3
    refine WL.skip (d := 16) rfl rfl rfl rfl rfl ?_
    refine WL.skip (d := 16) rfl rfl rfl rfl rfl ?_
    refine WL.skip (d := 16) rfl rfl rfl rfl rfl ?_
    refine WL.val (.bool true) rfl rfl rfl (fun za zC zh zk => wp_pickT rfl (zh.ev rfl) (zh.ev rfl) zk) ?_
    refine WL.nil (WE.sub (K' := [(0, .int .i64 n), (1, .slice a l.length c), (2, .int .i64 turn), (3, .int .i64 by_), (8, .bool false), (20, .bool true)]) ⟨rfl, rfl, rfl, rfl, rfl, rfl, trivial⟩ ?_)
    refine WE.next ?_
    refine WC.condT rfl rfl ?_
    refine WC.seq ?_
    refine WC.region ?_
    refine WL.call rfl rfl rfl (fun za zh zC => wp_call (by kernel_rfl) rfl (hv0)) (wakes_any _) ?_
    rintro _ w5 ⟨rfl, hq4⟩
    refine WL.val (.bool true) rfl rfl rfl (fun za zC zh zk => wp_assign rfl (zh.ev rfl) zk) ?_
    refine WL.nil (WE.sub (K' := [(0, .int .i64 n), (1, .slice a l.length c), (2, .int .i64 turn), (3, .int .i64 by_), (8, .bool true), (20, .bool true)]) ⟨rfl, rfl, rfl, rfl, rfl, rfl, trivial⟩ ?_)
    refine WE.next ?_
    refine WC.ret ?_
    refine WE.thenRet ?_
    refine WE.ret1 rfl rfl ?_
    have hb6 : Below w.heap.size w w5 := (bstep hq1 hq4)
    exact ⟨_, rfl, rfl, hb6⟩
  · refine WL.sub (K' := [(0, .int .i64 n), (1, .slice a l.length c), (2, .int .i64 turn), (3, .int .i64 by_), (8, .bool false), (13, .slice a l.length c), (14, .int .i64 ((((lsize l l.length) : Nat) : Int))), (15, .bool ((decide ((2000 : Int) < ((((lsize l l.length) : Nat) : Int) : Int))))), (16, .bool false)]) ⟨rfl, rfl, rfl, rfl, rfl, rfl, rfl, rfl, (by exact congrArg (fun z => some (Value.bool z)) h3), trivial⟩ ?_
    have h3 : ¬ ((2000 : Int) < ((((lsize l l.length) : Nat) : Int) : Int)) := by simpa using h3
    refine WL.want (d := 16) rfl rfl rfl ?_
    refine WL.val (.slice a l.length c) rfl rfl rfl (fun za zC zh zk => wp_move rfl (zh.ev rfl) zk) ?_
    refine WL.want (d := 16) rfl rfl rfl ?_
    refine WL.val (.int .i64 (((l.length : Nat) : Int))) rfl rfl rfl (fun za zC zh zk => len_23 rfl (zh.ev rfl) zk) ?_
    refine WL.want (d := 16) rfl rfl rfl ?_
    refine WL.val (.bool (((((l.length : Nat) : Int) : Int) == (0 : Int)))) rfl rfl rfl (fun za zC zh zk => eql_3 rfl (zh.ev rfl) (zh.ev rfl) zk) ?_
    refine WL.val (.bool (((((l.length : Nat) : Int) : Int) == (0 : Int)))) rfl rfl rfl (fun za zC zh zk => wp_pickF rfl (zh.ev rfl) (zh.ev rfl) zk) ?_
    refine WL.nil (WE.sub (K' := [(0, .int .i64 n), (1, .slice a l.length c), (2, .int .i64 turn), (3, .int .i64 by_), (8, .bool false), (20, .bool (((((l.length : Nat) : Int) : Int) == (0 : Int))))]) ⟨rfl, rfl, rfl, rfl, rfl, rfl, trivial⟩ ?_)
    refine WE.next ?_
    refine WC.cond rfl (fun h7 => ?_) (fun h7 => ?_)
    · have h7 : (((l.length : Nat) : Int) : Int) = (0 : Int) := by simpa using h7
      refine WC.seq ?_
      refine WC.region ?_
      refine WL.call rfl rfl rfl (fun za zh zC => wp_call (by kernel_rfl) rfl (hv0)) (wakes_any _) ?_
      rintro _ w9 ⟨rfl, hq8⟩
      refine WL.val (.bool true) rfl rfl rfl (fun za zC zh zk => wp_assign rfl (zh.ev rfl) zk) ?_
      refine WL.nil (WE.sub (K' := [(0, .int .i64 n), (1, .slice a l.length c), (2, .int .i64 turn), (3, .int .i64 by_), (8, .bool true), (20, .bool (((((l.length : Nat) : Int) : Int) == (0 : Int))))]) ⟨rfl, rfl, rfl, rfl, rfl, rfl, trivial⟩ ?_)
      refine WE.next ?_
      refine WC.ret ?_
      refine WE.thenRet ?_
      refine WE.ret1 rfl rfl ?_
      have hb10 : Below w.heap.size w w9 := (bstep hq1 hq8)
      exact ⟨_, rfl, rfl, hb10⟩
    · have h7 : ¬ ((((l.length : Nat) : Int) : Int) = (0 : Int)) := by simpa using h7
      have hz0 : l.length ≠ 0 := by have z := h7; omega
      refine WC.skip ?_
      refine WE.next ?_
      refine WC.seq ?_
      refine WC.region ?_
      refine WL.val (.int .i64 turn) rfl rfl rfl (fun za zC zh zk => wp_move rfl (zh.ev rfl) zk) ?_
      refine WL.val (.slice a l.length c) rfl rfl rfl (fun za zC zh zk => wp_move rfl (zh.ev rfl) zk) ?_
      refine WL.val (.int .i64 (((l.length : Nat) : Int))) rfl rfl rfl (fun za zC zh zk => len_23 rfl (zh.ev rfl) zk) ?_
      have hl0 : 0 < l.length := by omega
      have hm1 := Int.tmod_lt_of_pos turn (show (0 : Int) < (l.length : Int) by omega)
      have hm2 : -(l.length : Int) < turn.tmod l.length := by have z := Int.lt_tmod_of_pos turn (show (0 : Int) < (l.length : Int) by omega); omega
      refine WL.val (.int .i64 ((turn.tmod (((l.length : Nat) : Int))))) rfl rfl rfl (fun za zC zh zk => rem_3 rfl (zh.ev rfl) (zh.ev rfl) (by omega) zk) ?_
      refine WL.val (.slice a l.length c) rfl rfl rfl (fun za zC zh zk => wp_move rfl (zh.ev rfl) zk) ?_
      refine WL.val (.int .i64 (((l.length : Nat) : Int))) rfl rfl rfl (fun za zC zh zk => len_23 rfl (zh.ev rfl) zk) ?_
      refine WL.val (.int .i64 ((turn.tmod (l.length : Int) + (l.length : Int)))) rfl rfl rfl (fun za zC zh zk => addb_3 rfl (zh.ev rfl) (zh.ev rfl) (wrap_eq rfl (by omega) (by omega)) zk) ?_
      refine WL.val (.slice a l.length c) rfl rfl rfl (fun za zC zh zk => wp_move rfl (zh.ev rfl) zk) ?_
      refine WL.val (.int .i64 (((l.length : Nat) : Int))) rfl rfl rfl (fun za zC zh zk => len_23 rfl (zh.ev rfl) zk) ?_
      obtain ⟨r, hr9⟩ : ∃ r : Nat, ((turn.tmod (l.length : Int) + (l.length : Int)).tmod (l.length : Int)) = (r : Int) := ⟨((turn.tmod (l.length : Int) + (l.length : Int)).tmod (l.length : Int)).toNat, (Int.toNat_of_nonneg (Int.tmod_nonneg _ (by omega))).symm⟩
      have hrl : r < l.length := by have z := Int.tmod_lt_of_pos (turn.tmod (l.length : Int) + (l.length : Int)) (show (0 : Int) < (l.length : Int) by omega); omega
      refine WL.val (.int .i64 (r : Int)) rfl rfl rfl (fun za zC zh zk => rem_3 rfl (zh.ev rfl) (zh.ev rfl) (by omega) (by rw [hr9]; exact zk)) ?_
      refine WL.val (.int .i64 (((r : Nat) : Int))) rfl rfl rfl (fun za zC zh zk => wp_assign rfl (zh.ev rfl) zk) ?_
      refine WL.nil (WE.sub (K' := [(0, .int .i64 n), (1, .slice a l.length c), (2, .int .i64 (((r : Nat) : Int))), (3, .int .i64 by_), (8, .bool false), (20, .bool (((((l.length : Nat) : Int) : Int) == (0 : Int))))]) ⟨rfl, rfl, rfl, rfl, rfl, rfl, trivial⟩ ?_)
      refine WE.next ?_
      refine WC.seq ?_
      refine WC.region ?_
      refine WL.val (.int .i64 by_) rfl rfl rfl (fun za zC zh zk => wp_move rfl (zh.ev rfl) zk) ?_
      have hm31 := and31 by_
      refine WL.val (.int .i64 (bits .and .i64 by_ 31)) rfl rfl rfl (fun za zC zh zk => and_int rfl (zh.ev rfl) (zh.ev rfl) Try.underlying3 zk) ?_
      refine WL.val (.int .i64 ((bits .and .i64 by_ 31))) rfl rfl rfl (fun za zC zh zk => wp_assign rfl (zh.ev rfl) zk) ?_
      refine WL.nil (WE.sub (K' := [(0, .int .i64 n), (1, .slice a l.length c), (2, .int .i64 (((r : Nat) : Int))), (3, .int .i64 ((bits .and .i64 by_ 31))), (8, .bool false), (20, .bool (((((l.length : Nat) : Int) : Int) == (0 : Int))))]) ⟨rfl, rfl, rfl, rfl, rfl, rfl, trivial⟩ ?_)
      refine WE.next ?_
      refine WC.seq ?_
      refine WC.region ?_
      refine WL.val (.slice none 0 0) rfl rfl rfl (fun za zC zh zk => wp_assign rfl (zh.ev rfl) zk) ?_
      refine WL.nil (WE.sub (K' := [(0, .int .i64 n), (1, .slice a l.length c), (2, .int .i64 (((r : Nat) : Int))), (3, .int .i64 ((bits .and .i64 by_ 31))), (8, .bool false), (9, .slice none 0 0), (20, .bool (((((l.length : Nat) : Int) : Int) == (0 : Int))))]) ⟨rfl, rfl, rfl, rfl, rfl, rfl, rfl, trivial⟩ ?_)
      refine WE.next ?_
      refine WC.seq ?_
      refine WC.seq ?_
      refine WC.region ?_
      refine WL.val (.int .i64 0) rfl rfl rfl (fun za zC zh zk => wp_assign rfl (zh.ev rfl) zk) ?_
      refine WL.nil (WE.sub (K' := [(0, .int .i64 n), (1, .slice a l.length c), (2, .int .i64 (((r : Nat) : Int))), (3, .int .i64 ((bits .and .i64 by_ 31))), (8, .bool false), (9, .slice none 0 0), (10, .int .i64 0), (20, .bool (((((l.length : Nat) : Int) : Int) == (0 : Int))))]) ⟨rfl, rfl, rfl, rfl, rfl, rfl, rfl, rfl, trivial⟩ ?_)
      refine WE.next ?_
      refine WC.block ?_
      have hl11 : w.heap.size ≤ w2.heap.size := (hq1).size
      have hR12 : RowE eltL w2 w2.heap.size 34 none 0 0 [] := RowE.nil
      refine WC.loop (X := Option Addr × Nat × Nat) (fun x => l.length - x.2.2) (fun x => [(0, .int .i64 n), (1, .slice a l.length c), (2, .int .i64 (((r : Nat) : Int))), (3, .int .i64 ((bits .and .i64 by_ 31))), (8, .bool false), (9, .slice x.1 x.2.2 x.2.1), (10, .int .i64 (((x.2.2 : Nat) : Int))), (20, .bool (((((l.length : Nat) : Int) : Int) == (0 : Int))))]) (fun x w13 => x.2.2 ≤ l.length ∧ w2.heap.size ≤ (w13).heap.size ∧ Below w.heap.size w w13 ∧ RowE eltL (w13) w2.heap.size 34 x.1 x.2.1 x.2.2 ((turnC (bits .and .i64 by_ 31) l r x.2.2))) ((none, 0, 0)) ⟨rfl, rfl, rfl, rfl, rfl, rfl, rfl, rfl, trivial⟩ ?_ ?_
      · exact ⟨Nat.zero_le _, Nat.le_refl _, hq1, (by simpa [turnC] using hR12)⟩
      · rintro x w13 ⟨hk, hBw, hb14, ho15⟩
        refine WC.seq ?_
        refine WC.seq ?_
        refine WC.region ?_
        refine WL.val (.int .i64 (((x.2.2 : Nat) : Int))) rfl rfl rfl (fun za zC zh zk => wp_move rfl (zh.ev rfl) zk) ?_
        refine WL.val (.slice a l.length c) rfl rfl rfl (fun za zC zh zk => wp_move rfl (zh.ev rfl) zk) ?_
        refine WL.val (.int .i64 (((l.length : Nat) : Int))) rfl rfl rfl (fun za zC zh zk => len_23 rfl (zh.ev rfl) zk) ?_
        refine WL.val (.bool ((decide ((((x.2.2 : Nat) : Int) : Int) < (((l.length : Nat) : Int) : Int))))) rfl rfl rfl (fun za zC zh zk => lss_3 rfl (zh.ev rfl) (zh.ev rfl) zk) ?_
        refine WL.nil (WE.sub (K' := [(0, .int .i64 n), (1, .slice a l.length c), (2, .int .i64 (((r : Nat) : Int))), (3, .int .i64 ((bits .and .i64 by_ 31))), (8, .bool false), (9, .slice x.1 x.2.2 x.2.1), (10, .int .i64 (((x.2.2 : Nat) : Int))), (20, .bool (((((l.length : Nat) : Int) : Int) == (0 : Int)))), (37, .bool ((decide ((((x.2.2 : Nat) : Int) : Int) < (((l.length : Nat) : Int) : Int)))))]) ⟨rfl, rfl, rfl, rfl, rfl, rfl, rfl, rfl, rfl, trivial⟩ ?_)
        refine WE.next ?_
        refine WC.cond rfl (fun h16 => ?_) (fun h16 => ?_)
        · have h16 : (((x.2.2 : Nat) : Int) : Int) < (((l.length : Nat) : Int) : Int) := by simpa using h16
          refine WC.skip ?_
          refine WE.next ?_
          refine WC.seq ?_
          refine WC.block ?_
          refine WC.seq ?_
          refine WC.region ?_
          refine WL.val (.slice a l.length c) rfl rfl rfl (fun za zC zh zk => wp_move rfl (zh.ev rfl) zk) ?_
          refine WL.val (.int .i64 (((x.2.2 : Nat) : Int))) rfl rfl rfl (fun za zC zh zk => wp_move rfl (zh.ev rfl) zk) ?_
          refine WL.val (.int .i64 (((r : Nat) : Int))) rfl rfl rfl (fun za zC zh zk => wp_move rfl (zh.ev rfl) zk) ?_
          refine WL.val (.int .i64 ((((x.2.2 + r) : Nat) : Int))) rfl rfl rfl (fun za zC zh zk => addb_3 rfl (zh.ev rfl) (zh.ev rfl) (wrap_eq (by omega) (by omega) (by omega)) zk) ?_
          refine WL.val (.slice a l.length c) rfl rfl rfl (fun za zC zh zk => wp_move rfl (zh.ev rfl) zk) ?_
          refine WL.val (.int .i64 (((l.length : Nat) : Int))) rfl rfl rfl (fun za zC zh zk => len_23 rfl (zh.ev rfl) zk) ?_
          have hml := Nat.mod_lt (x.2.2 + r) (show 0 < l.length by omega)
          refine WL.val (.int .i64 (((x.2.2 + r) % l.length : Nat) : Int)) rfl rfl rfl (fun za zC zh zk => rem_3 rfl (zh.ev rfl) (zh.ev rfl) (by omega) (by rw [show ((x.2.2 + r : Nat) : Int).tmod (l.length : Int) = (((x.2.2 + r) % l.length : Nat) : Int) from by rw [Int.tmod_eq_emod_of_nonneg (by omega)]; omega]; exact zk)) ?_
          obtain ⟨b17, o18, A19, C20, A21, C22, ha23, hc24⟩ := InRow.openL hr
          refine WL.val (.pointer (some ⟨b17, o18 + (((x.2.2 + r) % l.length)) * 5, none⟩)) rfl rfl rfl (fun za zC zh zk => ix_23 (k := ((x.2.2 + r) % l.length)) rfl (zh.ev rfl) (ha23 (((x.2.2 + r) % l.length)) (by first | omega | (simp; omega))) (zh.ev rfl) (by first | omega | (simp; omega)) zk) ?_
          refine WL.val (.agg #[.bool ((lget l (((x.2.2 + r) % l.length))).neg), .int .i64 ((lget l (((x.2.2 + r) % l.length))).l.f), .slice ((A19 (((x.2.2 + r) % l.length)))) ((lget l (((x.2.2 + r) % l.length))).l.args.length) ((C20 (((x.2.2 + r) % l.length)))), .int .i64 ((lget l (((x.2.2 + r) % l.length))).r.f), .slice ((A21 (((x.2.2 + r) % l.length)))) ((lget l (((x.2.2 + r) % l.length))).r.args.length) ((C22 (((x.2.2 + r) % l.length))))]) rfl rfl rfl (fun za zC zh zk => ld_34 rfl (zh.ev rfl) (bkeeps hb14 _ _ (hc24 (((x.2.2 + r) % l.length)) (by first | omega | (simp; omega))).1) (bkeeps hb14 _ _ (hc24 (((x.2.2 + r) % l.length)) (by first | omega | (simp; omega))).2.1) (bkeeps hb14 _ _ (hc24 (((x.2.2 + r) % l.length)) (by first | omega | (simp; omega))).2.2.1) (bkeeps hb14 _ _ (hc24 (((x.2.2 + r) % l.length)) (by first | omega | (simp; omega))).2.2.2.1) (bkeeps hb14 _ _ (hc24 (((x.2.2 + r) % l.length)) (by first | omega | (simp; omega))).2.2.2.2.1) zk) ?_
          refine WL.step (post := NewBlk w13 34 #[.bool false, .int .i64 0, .slice none 0 0, .int .i64 0, .slice none 0 0]) rfl rfl rfl (fun za zC zh zk => alloc_34 rfl (zk _ _ (newBlk _ _ _))) ?_
          rintro _ w25 ⟨g26, rfl, hg27, hB28, hb29, hz30⟩
          have hl31 : w.heap.size ≤ g26 := by have z2 := (hb14).size; omega
          have hl32 : w13.heap.size ≤ g26 := by omega
          refine WL.step (post := fun _ w' => Upd g26 w25 w' ∧ Blk w' g26 34 #[.bool ((lget l (((x.2.2 + r) % l.length))).neg), .int .i64 ((lget l (((x.2.2 + r) % l.length))).l.f), .slice ((A19 (((x.2.2 + r) % l.length)))) ((lget l (((x.2.2 + r) % l.length))).l.args.length) ((C20 (((x.2.2 + r) % l.length)))), .int .i64 ((lget l (((x.2.2 + r) % l.length))).r.f), .slice ((A21 (((x.2.2 + r) % l.length)))) ((lget l (((x.2.2 + r) % l.length))).r.args.length) ((C22 (((x.2.2 + r) % l.length))))]) rfl rfl rfl (fun za zC zh zk => st_34 rfl (zh.ev rfl) (zh.ev rfl) rfl rfl rfl rfl rfl hB28 (by first | decide | simp) (fun v => zk v _ ⟨((((Upd.at_ _ _ _ _).trans (Upd.at_ _ _ _ _)).trans (Upd.at_ _ _ _ _)).trans (Upd.at_ _ _ _ _)).trans (Upd.at_ _ _ _ _), ((((hB28.set_ 0 _).set_ 1 _).set_ 2 _).set_ 3 _).set_ 4 _⟩)) ?_
          rintro v36 w33 ⟨hu34, hB35⟩
          have hb37 : Below w.heap.size w w25 := (bstep hb14 hb29)
          have hb38 := upd_below hb37 hu34 (by omega)
          have hb39 := upd_below hb29 hu34 (by omega)
          refine WL.nil (WE.sub (K' := [(0, .int .i64 n), (1, .slice a l.length c), (2, .int .i64 (((r : Nat) : Int))), (3, .int .i64 ((bits .and .i64 by_ 31))), (8, .bool false), (9, .slice x.1 x.2.2 x.2.1), (10, .int .i64 (((x.2.2 : Nat) : Int))), (11, .pointer (some ⟨g26, 0, none⟩)), (20, .bool (((((l.length : Nat) : Int) : Int) == (0 : Int)))), (37, .bool ((decide ((((x.2.2 : Nat) : Int) : Int) < (((l.length : Nat) : Int) : Int)))))]) ⟨rfl, rfl, rfl, rfl, rfl, rfl, rfl, rfl, rfl, rfl, trivial⟩ ?_)
          refine WE.next ?_
          refine WC.seq ?_
          refine WC.boxM (fun q => match q with | 0 => fun S w v => InT S w ((lget l ((x.2.2 + r) % l.length)).l.mv (bits .and .i64 by_ 31)) v | 1 => fun S w v => InT S w ((lget l ((x.2.2 + r) % l.length)).r.mv (bits .and .i64 by_ 31)) v | _ + 2 => fun S w v => LiIn S w ((turnLi (bits .and .i64 by_ 31) false (lget l ((x.2.2 + r) % l.length)))) v) (fun q _ _ _ _ hk h => match q, h with | 0, h => InT.keep hk h | 1, h => InT.keep hk h | _ + 2, h => LiIn.keep hk h) (fun q _ _ _ _ hk h => match q, h with | 0, h => InT.mono hk h | 1, h => InT.mono hk h | _ + 2, h => LiIn.mono hk h) [(true, .pointer (some ⟨g26, 0, none⟩)), (true, .bool ((lget l (((x.2.2 + r) % l.length))).neg)), (true, .pointer (some ⟨g26, 1, none⟩)), (true, .agg #[.int .i64 ((lget l (((x.2.2 + r) % l.length))).l.f), .slice ((A19 (((x.2.2 + r) % l.length)))) ((lget l (((x.2.2 + r) % l.length))).l.args.length) ((C20 (((x.2.2 + r) % l.length))))]), (true, .int .i64 ((bits .and .i64 by_ 31))), (true, undef), (true, .pointer (some ⟨g26, 3, none⟩)), (true, .agg #[.int .i64 ((lget l (((x.2.2 + r) % l.length))).r.f), .slice ((A21 (((x.2.2 + r) % l.length)))) ((lget l (((x.2.2 + r) % l.length))).r.args.length) ((C22 (((x.2.2 + r) % l.length))))]), (true, .int .i64 ((bits .and .i64 by_ 31))), (true, undef), (true, undef), (true, undef), (true, undef)] [(0, .int .i64 n), (1, .slice a l.length c), (2, .int .i64 (((r : Nat) : Int))), (3, .int .i64 ((bits .and .i64 by_ 31))), (8, .bool false), (9, .slice x.1 x.2.2 x.2.1), (10, .int .i64 (((x.2.2 : Nat) : Int))), (11, .pointer (some ⟨g26, 0, none⟩)), (20, .bool (((((l.length : Nat) : Int) : Int) == (0 : Int)))), (37, .bool ((decide ((((x.2.2 : Nat) : Int) : Int) < (((l.length : Nat) : Int) : Int)))))] (t := 34) (z := #[.bool false, .int .i64 0, .slice none 0 0, .int .i64 0, .slice none 0 0]) [5, 9, 10] 2 11 12 12 (by decide) (by decide) (by kernel_rfl) rfl ⟨rfl, rfl, rfl, rfl, rfl, rfl, rfl, rfl, rfl, rfl, trivial⟩ (by kernel_rfl) (by kernel_rfl) (by kernel_rfl) ?_ ?_
          · refine ⟨.inl ⟨rfl, rfl, fun za zw zS zc => ?_⟩, ?_⟩
            · exact fld_34_0 rfl (zc.kn.ev rfl) ⟨_, rfl, Below.refl _ _, fun _ => rfl⟩
            refine ⟨.inl ⟨rfl, rfl, fun za zw zS zc => ?_⟩, ?_⟩
            · exact ld_4 rfl ((show za.eval (.tmp 49) = za.tmps.getD 49 undef from rfl).trans (valVal1 (zc.dep 0 49 (by kernel_rfl) (by decide)) rfl rfl)) (bkeeps zc.below _ _ ((hB35.cell 0).trans rfl)) ⟨_, rfl, Below.refl _ _, fun _ => rfl⟩
            refine ⟨.inl ⟨rfl, rfl, fun za zw zS zc => ?_⟩, ?_⟩
            · exact fld_34_1 rfl (zc.kn.ev rfl) ⟨_, rfl, Below.refl _ _, fun _ => rfl⟩
            refine ⟨.inl ⟨rfl, rfl, fun za zw zS zc => ?_⟩, ?_⟩
            · exact ld_32 rfl ((show za.eval (.tmp 51) = za.tmps.getD 51 undef from rfl).trans (valVal1 (zc.dep 2 51 (by kernel_rfl) (by decide)) rfl rfl)) (bkeeps zc.below _ _ ((hB35.cell 1).trans rfl)) (bkeeps zc.below _ _ ((hB35.cell 2).trans rfl)) ⟨_, rfl, Below.refl _ _, fun _ => rfl⟩
            refine ⟨.inl ⟨rfl, rfl, fun za zw zS zc => ?_⟩, ?_⟩
            · exact wp_move rfl (zc.kn.ev rfl) ⟨_, rfl, Below.refl _ _, fun _ => rfl⟩
            refine ⟨.inr (.inl ⟨0, rfl, rfl, by kernel_rfl, fun za zw zS zc => ?_⟩), ?_⟩
            · exact wp_call (by kernel_rfl) rfl (hv2 ((show za.eval (.tmp 52) = za.tmps.getD 52 undef from rfl).trans (valVal1 (zc.dep 3 52 (by kernel_rfl) (by decide)) rfl rfl)) ((show za.eval (.tmp 53) = za.tmps.getD 53 undef from rfl).trans (valVal1 (zc.dep 4 53 (by kernel_rfl) (by decide)) rfl rfl))) (rmove_any (bits .and .i64 by_ 31) (by unfold I64; omega) (lget l (((x.2.2 + r) % l.length))).l _ _ (hl.pl hml) (IsT.below (bstep hb38 zc.below) (InT.isT (hc24 (((x.2.2 + r) % l.length)) (by first | omega | (simp; omega))).2.2.2.2.2.1))) (fun v w' h => ⟨v, rfl, h.2, InT.mono (fun b hb _ => .inr hb) h.1⟩)
            refine ⟨.inl ⟨rfl, rfl, fun za zw zS zc => ?_⟩, ?_⟩
            · exact fld_34_2 rfl (zc.kn.ev rfl) ⟨_, rfl, Below.refl _ _, fun _ => rfl⟩
            refine ⟨.inl ⟨rfl, rfl, fun za zw zS zc => ?_⟩, ?_⟩
            · exact ld_32 rfl ((show za.eval (.tmp 55) = za.tmps.getD 55 undef from rfl).trans (valVal1 (zc.dep 6 55 (by kernel_rfl) (by decide)) rfl rfl)) (bkeeps zc.below _ _ ((hB35.cell 3).trans rfl)) (bkeeps zc.below _ _ ((hB35.cell 4).trans rfl)) ⟨_, rfl, Below.refl _ _, fun _ => rfl⟩
            refine ⟨.inl ⟨rfl, rfl, fun za zw zS zc => ?_⟩, ?_⟩
            · exact wp_move rfl (zc.kn.ev rfl) ⟨_, rfl, Below.refl _ _, fun _ => rfl⟩
            refine ⟨.inr (.inl ⟨1, rfl, rfl, by kernel_rfl, fun za zw zS zc => ?_⟩), ?_⟩
            · exact wp_call (by kernel_rfl) rfl (hv2 ((show za.eval (.tmp 56) = za.tmps.getD 56 undef from rfl).trans (valVal1 (zc.dep 7 56 (by kernel_rfl) (by decide)) rfl rfl)) ((show za.eval (.tmp 57) = za.tmps.getD 57 undef from rfl).trans (valVal1 (zc.dep 8 57 (by kernel_rfl) (by decide)) rfl rfl))) (rmove_any (bits .and .i64 by_ 31) (by unfold I64; omega) (lget l (((x.2.2 + r) % l.length))).r _ _ (hl.pr hml) (IsT.below (bstep hb38 zc.below) (InT.isT (hc24 (((x.2.2 + r) % l.length)) (by first | omega | (simp; omega))).2.2.2.2.2.2))) (fun v w' h => ⟨v, rfl, h.2, InT.mono (fun b hb _ => .inr hb) h.1⟩)
            refine ⟨.inr (.inl ⟨2, rfl, rfl, by kernel_rfl, fun za zw zS zc => ?_⟩), ?_⟩
            · have z1 := (zc.made 0 5 54 rfl (by kernel_rfl) (by kernel_rfl))
              obtain ⟨_, a1, c1, e1, _⟩ := InT.form z1
              rw [e1] at z1
              have z2 := (zc.made 1 9 58 rfl (by kernel_rfl) (by kernel_rfl))
              obtain ⟨_, a2, c2, e2, _⟩ := InT.form z2
              rw [e2] at z2
              exact build_34_0_1_2 rfl ((show za.eval (.tmp 50) = za.tmps.getD 50 undef from rfl).trans (valVal1 (zc.dep 1 50 (by kernel_rfl) (by decide)) rfl rfl)) ((show za.eval (.tmp 54) = za.tmps.getD 54 undef from rfl).trans e1) ((show za.eval (.tmp 58) = za.tmps.getD 58 undef from rfl).trans e2) ⟨_, rfl, Below.refl _ _, LiIn.mono (fun b hb _ => .inl hb) (x := (turnLi (bits .and .i64 by_ 31) false (lget l ((x.2.2 + r) % l.length)))) ⟨_, _, _, _, rfl, z1, z2⟩⟩
            refine ⟨.inr (.inr (.inl ⟨rfl, rfl, fun za zw zS zc => ?_⟩)), ?_⟩
            · exact alloc_34 rfl ⟨rfl, rfl⟩
            refine ⟨.inr (.inr (.inr ⟨rfl, rfl, 12, 59, 10, by kernel_rfl, rfl, by kernel_rfl, fun za zw g zS zc z1 zB zP => ?_⟩)), ?_⟩
            · obtain ⟨a1, a2, c1, c2, e1⟩ := LiIn.parts zP
              rw [e1]
              exact st_34 rfl ((show za.eval (.tmp 12) = za.tmps.getD 12 undef from rfl).trans z1) ((show za.eval (.tmp 59) = za.tmps.getD 59 undef from rfl).trans e1) rfl rfl rfl rfl rfl zB (by first | decide | simp) (fun v => ⟨v, rfl, ((((Upd.at_ _ _ _ _).trans (Upd.at_ _ _ _ _)).trans (Upd.at_ _ _ _ _)).trans (Upd.at_ _ _ _ _)).trans (Upd.at_ _ _ _ _), ((((zB.set_ 0 _).set_ 1 _).set_ 2 _).set_ 3 _).set_ 4 _⟩)
            exact trivial
          · intro za w40 g41 vy42 zh hb43 hg44 hB45 hP46 hp47 zu
            have hl48 : g26 < g41 := by have z1 := hB35.lt; omega
            obtain ⟨a49, a50, c51, c52, rfl⟩ := LiIn.parts hP46
            have hB53 : Blk w40 g41 34 #[.bool ((turnLi (bits .and .i64 by_ 31) false (lget l ((x.2.2 + r) % l.length))).neg), .int .i64 ((turnLi (bits .and .i64 by_ 31) false (lget l ((x.2.2 + r) % l.length))).l.f), .slice a49 ((turnLi (bits .and .i64 by_ 31) false (lget l ((x.2.2 + r) % l.length))).l.args.length) c51, .int .i64 ((turnLi (bits .and .i64 by_ 31) false (lget l ((x.2.2 + r) % l.length))).r.f), .slice a50 ((turnLi (bits .and .i64 by_ 31) false (lget l ((x.2.2 + r) % l.length))).r.args.length) c52] := hB45
            have zh := zh.cons (d := 12) hp47
            clear zu
            have hq54 : LiAt w33.heap.size g41 (turnLi (bits .and .i64 by_ 31) false (lget l ((x.2.2 + r) % l.length))).l (turnLi (bits .and .i64 by_ 31) false (lget l ((x.2.2 + r) % l.length))).r (.int .i64 ((turnLi (bits .and .i64 by_ 31) false (lget l ((x.2.2 + r) % l.length))).l.f)) (.slice a49 ((turnLi (bits .and .i64 by_ 31) false (lget l ((x.2.2 + r) % l.length))).l.args.length) c51) (.int .i64 ((turnLi (bits .and .i64 by_ 31) false (lget l ((x.2.2 + r) % l.length))).r.f)) (.slice a50 ((turnLi (bits .and .i64 by_ 31) false (lget l ((x.2.2 + r) % l.length))).r.args.length) c52) w40 := ⟨(LiIn.two hP46).1, (LiIn.two hP46).2⟩
            have hyg : w33.heap.size ≤ g41 := by omega
            refine (show WE _ [(0, .int .i64 n), (1, .slice a l.length c), (2, .int .i64 (((r : Nat) : Int))), (3, .int .i64 ((bits .and .i64 by_ 31))), (8, .bool false), (9, .slice x.1 x.2.2 x.2.1), (10, .int .i64 (((x.2.2 : Nat) : Int))), (11, .pointer (some ⟨g26, 0, none⟩)), (12, .pointer (some ⟨g41, 0, none⟩)), (20, .bool (((((l.length : Nat) : Int) : Int) == (0 : Int)))), (37, .bool ((decide ((((x.2.2 : Nat) : Int) : Int) < (((l.length : Nat) : Int) : Int)))))] w40 _ .normal from ?_) za (zh.sub ⟨rfl, rfl, rfl, rfl, rfl, rfl, rfl, rfl, rfl, rfl, rfl, trivial⟩)
            refine WE.next ?_
            refine WC.seq ?_
            refine WC.seq ?_
            have hB55 := hB35.below hb43
            have hb56 : Below w.heap.size w w40 := (bstep hb38 hb43)
            refine WC.opt [(true, .val (.int .i64 (((x.2.2 : Nat) : Int)))), (true, .val (.int .i64 ((((x.2.2 % 2) : Nat) : Int)))), (true, .val (.bool ((((((x.2.2 % 2) : Nat) : Int) : Int) == (1 : Int))))), (true, .val (.bool ((((((x.2.2 % 2) : Nat) : Int) : Int) == (1 : Int))))), ((true && (((((x.2.2 % 2) : Nat) : Int) : Int) == (1 : Int))), .val (.pointer (some ⟨g26, 3, none⟩))), ((true && (((((x.2.2 % 2) : Nat) : Int) : Int) == (1 : Int))), .val (.agg #[.int .i64 ((lget l (((x.2.2 + r) % l.length))).r.f), .slice ((A21 (((x.2.2 + r) % l.length)))) ((lget l (((x.2.2 + r) % l.length))).r.args.length) ((C22 (((x.2.2 + r) % l.length))))])), ((true && (((((x.2.2 % 2) : Nat) : Int) : Int) == (1 : Int))), .val (.bool ((lget l (((x.2.2 + r) % l.length))).r.isTrue))), ((true && (((((x.2.2 % 2) : Nat) : Int) : Int) == (1 : Int))), .val (.bool ((!(lget l (((x.2.2 + r) % l.length))).r.isTrue)))), (true, .val (.bool (((((((x.2.2 % 2) : Nat) : Int) : Int) == (1 : Int)) && (!(lget l (((x.2.2 + r) % l.length))).r.isTrue))))), (true, .val (.bool (((((((x.2.2 % 2) : Nat) : Int) : Int) == (1 : Int)) && (!(lget l (((x.2.2 + r) % l.length))).r.isTrue))))), ((true && ((((((x.2.2 % 2) : Nat) : Int) : Int) == (1 : Int)) && (!(lget l (((x.2.2 + r) % l.length))).r.isTrue))), .val (.pointer (some ⟨g26, 1, none⟩))), ((true && ((((((x.2.2 % 2) : Nat) : Int) : Int) == (1 : Int)) && (!(lget l (((x.2.2 + r) % l.length))).r.isTrue))), .val (.agg #[.int .i64 ((lget l (((x.2.2 + r) % l.length))).l.f), .slice ((A19 (((x.2.2 + r) % l.length)))) ((lget l (((x.2.2 + r) % l.length))).l.args.length) ((C20 (((x.2.2 + r) % l.length))))])), ((true && ((((((x.2.2 % 2) : Nat) : Int) : Int) == (1 : Int)) && (!(lget l (((x.2.2 + r) % l.length))).r.isTrue))), .val (.bool ((lget l (((x.2.2 + r) % l.length))).l.isTrue))), ((true && ((((((x.2.2 % 2) : Nat) : Int) : Int) == (1 : Int)) && (!(lget l (((x.2.2 + r) % l.length))).r.isTrue))), .val (.bool ((!(lget l (((x.2.2 + r) % l.length))).l.isTrue)))), (true, .val (.bool ((((((((x.2.2 % 2) : Nat) : Int) : Int) == (1 : Int)) && (!(lget l (((x.2.2 + r) % l.length))).r.isTrue)) && (!(lget l (((x.2.2 + r) % l.length))).l.isTrue)))))] [(0, .int .i64 n), (1, .slice a l.length c), (2, .int .i64 (((r : Nat) : Int))), (3, .int .i64 ((bits .and .i64 by_ 31))), (8, .bool false), (9, .slice x.1 x.2.2 x.2.1), (10, .int .i64 (((x.2.2 : Nat) : Int))), (11, .pointer (some ⟨g26, 0, none⟩)), (12, .pointer (some ⟨g41, 0, none⟩)), (20, .bool (((((l.length : Nat) : Int) : Int) == (0 : Int)))), (37, .bool ((decide ((((x.2.2 : Nat) : Int) : Int) < (((l.length : Nat) : Int) : Int)))))] ⟨rfl, rfl, rfl, rfl, rfl, rfl, rfl, rfl, rfl, rfl, rfl, trivial⟩ (by kernel_rfl) (by kernel_rfl) (by kernel_rfl) ?_ ?_
            · refine ⟨⟨true, .none rfl, fun h w => optUndef h, fun zβ za zw zc => ?_⟩, ?_⟩
              · exact wp_move rfl (zc.kn.ev rfl) ⟨_, rfl, Below.refl _ _, optDef zβ rfl⟩
              refine ⟨⟨true, .none rfl, fun h w => optUndef h, fun zβ za zw zc => ?_⟩, ?_⟩
              · exact rem_3 rfl ((show za.eval (.tmp 60) = za.tmps.getD 60 undef from rfl).trans (optVal (zc.dep 0 60 (by kernel_rfl)) rfl rfl)) (zc.kn.ev rfl) (by omega) (by rw [show ((x.2.2 : Nat) : Int).tmod 2 = ((x.2.2 % 2 : Nat) : Int) from by rw [Int.tmod_eq_emod_of_nonneg (by omega)]; omega]; exact ⟨_, rfl, Below.refl _ _, optDef zβ rfl⟩)
              refine ⟨⟨true, .none rfl, fun h w => optUndef h, fun zβ za zw zc => ?_⟩, ?_⟩
              · exact eql_3 rfl ((show za.eval (.tmp 61) = za.tmps.getD 61 undef from rfl).trans (optVal (zc.dep 1 61 (by kernel_rfl)) rfl rfl)) (zc.kn.ev rfl) ⟨_, rfl, Below.refl _ _, optDef zβ rfl⟩
              refine ⟨⟨true, .none rfl, fun h w => optUndef h, fun zβ za zw zc => ?_⟩, ?_⟩
              · exact wp_move rfl ((show za.eval (.tmp 62) = za.tmps.getD 62 undef from rfl).trans (optVal (zc.dep 2 62 (by kernel_rfl)) rfl rfl)) ⟨_, rfl, Below.refl _ _, optDef zβ rfl⟩
              refine ⟨⟨(true && (((((x.2.2 % 2) : Nat) : Int) : Int) == (1 : Int))), .yes (c := (((((x.2.2 % 2) : Nat) : Int) : Int) == (1 : Int))) (d := true) rfl (fun v w h => h), fun h w => optUndef h, fun zβ za zw zc => ?_⟩, ?_⟩
              · exact fld_34_2 rfl (zc.kn.ev rfl) ⟨_, rfl, Below.refl _ _, optDef zβ rfl⟩
              refine ⟨⟨(true && (((((x.2.2 % 2) : Nat) : Int) : Int) == (1 : Int))), .yes (c := (((((x.2.2 % 2) : Nat) : Int) : Int) == (1 : Int))) (d := true) rfl (fun v w h => h), fun h w => optUndef h, fun zβ za zw zc => ?_⟩, ?_⟩
              · exact ld_32 rfl ((show za.eval (.tmp 64) = za.tmps.getD 64 undef from rfl).trans (optVal (zc.dep 4 64 (by kernel_rfl)) rfl zβ)) (bkeeps zc.below _ _ ((hB55.cell 3).trans rfl)) (bkeeps zc.below _ _ ((hB55.cell 4).trans rfl)) ⟨_, rfl, Below.refl _ _, optDef zβ rfl⟩
              refine ⟨⟨(true && (((((x.2.2 % 2) : Nat) : Int) : Int) == (1 : Int))), .yes (c := (((((x.2.2 % 2) : Nat) : Int) : Int) == (1 : Int))) (d := true) rfl (fun v w h => h), fun h w => optUndef h, fun zβ za zw zc => ?_⟩, ?_⟩
              · exact wp_call (by kernel_rfl) rfl (hv1 ((show za.eval (.tmp 65) = za.tmps.getD 65 undef from rfl).trans (optVal (zc.dep 5 65 (by kernel_rfl)) rfl zβ))) (rtrue_any ((lget l (((x.2.2 + r) % l.length))).r) _ _ (IsT.below (bstep hb56 zc.below) (InT.isT (hc24 (((x.2.2 + r) % l.length)) (by first | omega | (have zz := zβ; simp only [Bool.and_eq_true, Bool.or_eq_true, Bool.true_and, Bool.not_eq_true', Bool.or_eq_false_iff, Bool.and_eq_false_iff, beq_eq_false_iff_ne, ne_eq, beq_iff_eq, decide_eq_true_eq, decide_eq_false_iff_not, bne_iff_ne] at zz; omega))).2.2.2.2.2.2))) (fun v w' h => ⟨v, rfl, h.2, optDef zβ h.1⟩)
              refine ⟨⟨(true && (((((x.2.2 % 2) : Nat) : Int) : Int) == (1 : Int))), .yes (c := (((((x.2.2 % 2) : Nat) : Int) : Int) == (1 : Int))) (d := true) rfl (fun v w h => h), fun h w => optUndef h, fun zβ za zw zc => ?_⟩, ?_⟩
              · exact wp_not rfl ((show za.eval (.tmp 66) = za.tmps.getD 66 undef from rfl).trans (optVal (zc.dep 6 66 (by kernel_rfl)) rfl zβ)) ⟨_, rfl, Below.refl _ _, optDef zβ rfl⟩
              refine ⟨⟨true, .none rfl, fun h w => optUndef h, fun zβ za zw zc => ?_⟩, ?_⟩
              · exact wp_and rfl ((show za.eval (.tmp 63) = za.tmps.getD 63 undef from rfl).trans (optVal (zc.dep 3 63 (by kernel_rfl)) rfl rfl)) (fun hp => ((show za.eval (.tmp 67) = za.tmps.getD 67 undef from rfl).trans (optVal (zc.dep 7 67 (by kernel_rfl)) rfl (bMk zβ hp)))) ⟨_, rfl, Below.refl _ _, optDef zβ rfl⟩
              refine ⟨⟨true, .none rfl, fun h w => optUndef h, fun zβ za zw zc => ?_⟩, ?_⟩
              · exact wp_move rfl ((show za.eval (.tmp 68) = za.tmps.getD 68 undef from rfl).trans (optVal (zc.dep 8 68 (by kernel_rfl)) rfl rfl)) ⟨_, rfl, Below.refl _ _, optDef zβ rfl⟩
              refine ⟨⟨(true && ((((((x.2.2 % 2) : Nat) : Int) : Int) == (1 : Int)) && (!(lget l (((x.2.2 + r) % l.length))).r.isTrue))), .yes (c := ((((((x.2.2 % 2) : Nat) : Int) : Int) == (1 : Int)) && (!(lget l (((x.2.2 + r) % l.length))).r.isTrue))) (d := true) rfl (fun v w h => h), fun h w => optUndef h, fun zβ za zw zc => ?_⟩, ?_⟩
              · exact fld_34_1 rfl (zc.kn.ev rfl) ⟨_, rfl, Below.refl _ _, optDef zβ rfl⟩
              refine ⟨⟨(true && ((((((x.2.2 % 2) : Nat) : Int) : Int) == (1 : Int)) && (!(lget l (((x.2.2 + r) % l.length))).r.isTrue))), .yes (c := ((((((x.2.2 % 2) : Nat) : Int) : Int) == (1 : Int)) && (!(lget l (((x.2.2 + r) % l.length))).r.isTrue))) (d := true) rfl (fun v w h => h), fun h w => optUndef h, fun zβ za zw zc => ?_⟩, ?_⟩
              · exact ld_32 rfl ((show za.eval (.tmp 70) = za.tmps.getD 70 undef from rfl).trans (optVal (zc.dep 10 70 (by kernel_rfl)) rfl zβ)) (bkeeps zc.below _ _ ((hB55.cell 1).trans rfl)) (bkeeps zc.below _ _ ((hB55.cell 2).trans rfl)) ⟨_, rfl, Below.refl _ _, optDef zβ rfl⟩
              refine ⟨⟨(true && ((((((x.2.2 % 2) : Nat) : Int) : Int) == (1 : Int)) && (!(lget l (((x.2.2 + r) % l.length))).r.isTrue))), .yes (c := ((((((x.2.2 % 2) : Nat) : Int) : Int) == (1 : Int)) && (!(lget l (((x.2.2 + r) % l.length))).r.isTrue))) (d := true) rfl (fun v w h => h), fun h w => optUndef h, fun zβ za zw zc => ?_⟩, ?_⟩
              · exact wp_call (by kernel_rfl) rfl (hv1 ((show za.eval (.tmp 71) = za.tmps.getD 71 undef from rfl).trans (optVal (zc.dep 11 71 (by kernel_rfl)) rfl zβ))) (rtrue_any ((lget l (((x.2.2 + r) % l.length))).l) _ _ (IsT.below (bstep hb56 zc.below) (InT.isT (hc24 (((x.2.2 + r) % l.length)) (by first | omega | (have zz := zβ; simp only [Bool.and_eq_true, Bool.or_eq_true, Bool.true_and, Bool.not_eq_true', Bool.or_eq_false_iff, Bool.and_eq_false_iff, beq_eq_false_iff_ne, ne_eq, beq_iff_eq, decide_eq_true_eq, decide_eq_false_iff_not, bne_iff_ne] at zz; omega))).2.2.2.2.2.1))) (fun v w' h => ⟨v, rfl, h.2, optDef zβ h.1⟩)
              refine ⟨⟨(true && ((((((x.2.2 % 2) : Nat) : Int) : Int) == (1 : Int)) && (!(lget l (((x.2.2 + r) % l.length))).r.isTrue))), .yes (c := ((((((x.2.2 % 2) : Nat) : Int) : Int) == (1 : Int)) && (!(lget l (((x.2.2 + r) % l.length))).r.isTrue))) (d := true) rfl (fun v w h => h), fun h w => optUndef h, fun zβ za zw zc => ?_⟩, ?_⟩
              · exact wp_not rfl ((show za.eval (.tmp 72) = za.tmps.getD 72 undef from rfl).trans (optVal (zc.dep 12 72 (by kernel_rfl)) rfl zβ)) ⟨_, rfl, Below.refl _ _, optDef zβ rfl⟩
              refine ⟨⟨true, .none rfl, fun h w => optUndef h, fun zβ za zw zc => ?_⟩, ?_⟩
              · exact wp_and rfl ((show za.eval (.tmp 69) = za.tmps.getD 69 undef from rfl).trans (optVal (zc.dep 9 69 (by kernel_rfl)) rfl rfl)) (fun hp => ((show za.eval (.tmp 73) = za.tmps.getD 73 undef from rfl).trans (optVal (zc.dep 13 73 (by kernel_rfl)) rfl (bMk zβ hp)))) ⟨_, rfl, Below.refl _ _, optDef zβ rfl⟩
              exact trivial
            · intro za w59 zh hb60 zu
              have zh := zh.cons (d := 74) (v := .bool ((((((((x.2.2 % 2) : Nat) : Int) : Int) == (1 : Int)) && (!(lget l (((x.2.2 + r) % l.length))).r.isTrue)) && (!(lget l (((x.2.2 + r) % l.length))).l.isTrue)))) (optVal (zu 14 74 (by kernel_rfl)) rfl rfl)
              clear zu
              refine (show WE _ [(0, .int .i64 n), (1, .slice a l.length c), (2, .int .i64 (((r : Nat) : Int))), (3, .int .i64 ((bits .and .i64 by_ 31))), (8, .bool false), (9, .slice x.1 x.2.2 x.2.1), (10, .int .i64 (((x.2.2 : Nat) : Int))), (11, .pointer (some ⟨g26, 0, none⟩)), (12, .pointer (some ⟨g41, 0, none⟩)), (20, .bool (((((l.length : Nat) : Int) : Int) == (0 : Int)))), (37, .bool ((decide ((((x.2.2 : Nat) : Int) : Int) < (((l.length : Nat) : Int) : Int))))), (74, .bool ((((((((x.2.2 % 2) : Nat) : Int) : Int) == (1 : Int)) && (!(lget l (((x.2.2 + r) % l.length))).r.isTrue)) && (!(lget l (((x.2.2 + r) % l.length))).l.isTrue))))] w59 _ .normal from ?_) za (zh.sub ⟨rfl, rfl, rfl, rfl, rfl, rfl, rfl, rfl, rfl, rfl, rfl, rfl, trivial⟩)
              refine WE.next ?_
              refine WC.cond rfl (fun h61 => ?_) (fun h61 => ?_)
              · have h61 : ((((((x.2.2 % 2) : Nat) : Int) : Int) = (1 : Int)) ∧ (¬ ((lget l (((x.2.2 + r) % l.length))).r.isTrue = true))) ∧ (¬ ((lget l (((x.2.2 + r) % l.length))).l.isTrue = true)) := by simpa using h61
                have htt : turnT l x.2.2 (rotI l r x.2.2) = true := by
                  obtain ⟨⟨z1, z2⟩, z3⟩ := h61
                  unfold turnT rotI
                  rw [decide_eq_true (show x.2.2 % 2 = 1 by omega), Bool.eq_false_iff.2 z2, Bool.eq_false_iff.2 z3]; rfl
                refine WC.region ?_
                refine WL.val (.pointer (some ⟨g41, 3, none⟩)) rfl rfl rfl (fun za zC zh zk => fld_34_2 rfl (zh.ev rfl) zk) ?_
                have hB62 := hB53.below hb60
                refine WL.val (.agg #[.int .i64 ((turnLi (bits .and .i64 by_ 31) false (lget l ((x.2.2 + r) % l.length))).r.f), .slice a50 ((turnLi (bits .and .i64 by_ 31) false (lget l ((x.2.2 + r) % l.length))).r.args.length) c52]) rfl rfl rfl (fun za zC zh zk => ld_32 rfl (zh.ev rfl) ((hB62.cell 3).trans rfl) ((hB62.cell 4).trans rfl) zk) ?_
                refine WL.val (.pointer (some ⟨g41, 1, none⟩)) rfl rfl rfl (fun za zC zh zk => fld_34_1 rfl (zh.ev rfl) zk) ?_
                refine WL.val (.agg #[.int .i64 ((turnLi (bits .and .i64 by_ 31) false (lget l ((x.2.2 + r) % l.length))).l.f), .slice a49 ((turnLi (bits .and .i64 by_ 31) false (lget l ((x.2.2 + r) % l.length))).l.args.length) c51]) rfl rfl rfl (fun za zC zh zk => ld_32 rfl (zh.ev rfl) ((hB62.cell 1).trans rfl) ((hB62.cell 2).trans rfl) zk) ?_
                refine WL.val (.pointer (some ⟨g41, 1, none⟩)) rfl rfl rfl (fun za zC zh zk => fld_34_1 rfl (zh.ev rfl) zk) ?_
                refine WL.step (post := fun _ w' => Upd g41 w59 w' ∧ Blk w' g41 34 #[.bool ((turnLi (bits .and .i64 by_ 31) false (lget l ((x.2.2 + r) % l.length))).neg), .int .i64 ((turnLi (bits .and .i64 by_ 31) false (lget l ((x.2.2 + r) % l.length))).r.f), .slice a50 ((turnLi (bits .and .i64 by_ 31) false (lget l ((x.2.2 + r) % l.length))).r.args.length) c52, .int .i64 ((turnLi (bits .and .i64 by_ 31) false (lget l ((x.2.2 + r) % l.length))).r.f), .slice a50 ((turnLi (bits .and .i64 by_ 31) false (lget l ((x.2.2 + r) % l.length))).r.args.length) c52]) rfl rfl rfl (fun za zC zh zk => st_32 rfl (zh.ev rfl) (zh.ev rfl) rfl rfl hB62 (by first | decide | simp) (fun v => zk v _ ⟨(Upd.at_ _ _ _ _).trans (Upd.at_ _ _ _ _), (hB62.set_ 1 _).set_ 2 _⟩)) ?_
                rintro v66 w63 ⟨hu64, hB65⟩
                have hb67 : Below w.heap.size w w59 := (bstep hb56 hb60)
                have hb68 : Below w13.heap.size w13 w59 := (bstep (bstep hb39 hb43) hb60)
                have hb69 := upd_below hb67 hu64 (by omega)
                have hb70 := upd_below hb68 hu64 (by omega)
                have hB71 := hB55.below hb60
                have hB72 := upd_blk hB71 hu64 (by omega)
                have ho73 := hq54.below hb60
                have ho74 := ho73.upd hu64 ((by omega))
                refine WL.val (.pointer (some ⟨g41, 3, none⟩)) rfl rfl rfl (fun za zC zh zk => fld_34_2 rfl (zh.ev rfl) zk) ?_
                refine WL.step (post := fun _ w' => Upd g41 w63 w' ∧ Blk w' g41 34 #[.bool ((turnLi (bits .and .i64 by_ 31) false (lget l ((x.2.2 + r) % l.length))).neg), .int .i64 ((turnLi (bits .and .i64 by_ 31) false (lget l ((x.2.2 + r) % l.length))).r.f), .slice a50 ((turnLi (bits .and .i64 by_ 31) false (lget l ((x.2.2 + r) % l.length))).r.args.length) c52, .int .i64 ((turnLi (bits .and .i64 by_ 31) false (lget l ((x.2.2 + r) % l.length))).l.f), .slice a49 ((turnLi (bits .and .i64 by_ 31) false (lget l ((x.2.2 + r) % l.length))).l.args.length) c51]) rfl rfl rfl (fun za zC zh zk => st_32 rfl (zh.ev rfl) (zh.ev rfl) rfl rfl hB65 (by first | decide | simp) (fun v => zk v _ ⟨(Upd.at_ _ _ _ _).trans (Upd.at_ _ _ _ _), (hB65.set_ 3 _).set_ 4 _⟩)) ?_
                rintro v78 w75 ⟨hu76, hB77⟩
                have hb79 := upd_below hb69 hu76 (by omega)
                have hb80 := upd_below hb70 hu76 (by omega)
                have hB81 := upd_blk hB72 hu76 (by omega)
                have ho82 := ho74.upd hu76 ((by omega))
                refine WL.nil (WE.sub (K' := [(0, .int .i64 n), (1, .slice a l.length c), (2, .int .i64 (((r : Nat) : Int))), (3, .int .i64 ((bits .and .i64 by_ 31))), (8, .bool false), (9, .slice x.1 x.2.2 x.2.1), (10, .int .i64 (((x.2.2 : Nat) : Int))), (11, .pointer (some ⟨g26, 0, none⟩)), (12, .pointer (some ⟨g41, 0, none⟩)), (20, .bool (((((l.length : Nat) : Int) : Int) == (0 : Int)))), (37, .bool ((decide ((((x.2.2 : Nat) : Int) : Int) < (((l.length : Nat) : Int) : Int))))), (74, .bool ((((((((x.2.2 % 2) : Nat) : Int) : Int) == (1 : Int)) && (!(lget l (((x.2.2 + r) % l.length))).r.isTrue)) && (!(lget l (((x.2.2 + r) % l.length))).l.isTrue))))]) ⟨rfl, rfl, rfl, rfl, rfl, rfl, rfl, rfl, rfl, rfl, rfl, rfl, trivial⟩ ?_)
                refine WE.next ?_
                refine WC.region ?_
                refine WL.val (.slice x.1 x.2.2 x.2.1) rfl rfl rfl (fun za zC zh zk => wp_move rfl (zh.ev rfl) zk) ?_
                refine WL.val (.agg #[.bool ((turnLi (bits .and .i64 by_ 31) false (lget l ((x.2.2 + r) % l.length))).neg), .int .i64 ((turnLi (bits .and .i64 by_ 31) false (lget l ((x.2.2 + r) % l.length))).r.f), .slice a50 ((turnLi (bits .and .i64 by_ 31) false (lget l ((x.2.2 + r) % l.length))).r.args.length) c52, .int .i64 ((turnLi (bits .and .i64 by_ 31) false (lget l ((x.2.2 + r) % l.length))).l.f), .slice a49 ((turnLi (bits .and .i64 by_ 31) false (lget l ((x.2.2 + r) % l.length))).l.args.length) c51]) rfl rfl rfl (fun za zC zh zk => ld_34 rfl (zh.ev rfl) ((hB77.cell 0).trans rfl) ((hB77.cell 1).trans rfl) ((hB77.cell 2).trans rfl) ((hB77.cell 3).trans rfl) ((hB77.cell 4).trans rfl) zk) ?_
                refine WL.step (post := NewRow w75 34 #[.bool ((turnLi (bits .and .i64 by_ 31) false (lget l ((x.2.2 + r) % l.length))).neg), .int .i64 ((turnLi (bits .and .i64 by_ 31) false (lget l ((x.2.2 + r) % l.length))).r.f), .slice a50 ((turnLi (bits .and .i64 by_ 31) false (lget l ((x.2.2 + r) % l.length))).r.args.length) c52, .int .i64 ((turnLi (bits .and .i64 by_ 31) false (lget l ((x.2.2 + r) % l.length))).l.f), .slice a49 ((turnLi (bits .and .i64 by_ 31) false (lget l ((x.2.2 + r) % l.length))).l.args.length) c51] 1) rfl rfl rfl (fun za zC zh zk => row_23_1 rfl (zh.ev rfl) (zk _ _ (newRow _ _ _ _))) ?_
                rintro _ w83 ⟨g84, rfl, hg85, hB86, hb87, hz88⟩
                have hl89 : g26 < g84 := by have z1 := hB81.lt; omega
                have hl90 : g41 < g84 := by have z1 := hB77.lt; omega
                have hl91 : w.heap.size ≤ g84 := by have z2 := (hb79).size; omega
                have hl92 : w13.heap.size ≤ g84 := by have z2 := (hb80).size; omega
                have hl93 : w75.heap.size ≤ g84 := by omega
                have hSlo : ∀ b, (Value.slice x.1 x.2.2 x.2.1).ownBlock = some b → w2.heap.size ≤ b ∧ b < w13.heap.size := fun b h => ho15.lt b h
                have hb95 : Below w13.heap.size w13 w83 := (bstep hb80 hb87)
                have ho94 := ho15.below hb95
                have ho101 := ho82.below hb87
                have hWB : w2.heap.size ≤ w13.heap.size := hBw
                have hW2 : w13.heap.size ≤ w33.heap.size := hb39.size
                have hW3 : w13.heap.size ≤ w83.heap.size := hb95.size
                have hin : eltL.In (fun b => w2.heap.size ≤ b ∧ (Value.slice x.1 x.2.2 x.2.1).ownBlock ≠ some b) w83 (turnLi (bits .and .i64 by_ 31) (turnT l x.2.2 (rotI l r x.2.2)) (rotI l r x.2.2)) [.bool ((turnLi (bits .and .i64 by_ 31) false (lget l ((x.2.2 + r) % l.length))).neg), .int .i64 ((turnLi (bits .and .i64 by_ 31) false (lget l ((x.2.2 + r) % l.length))).r.f), .slice a50 ((turnLi (bits .and .i64 by_ 31) false (lget l ((x.2.2 + r) % l.length))).r.args.length) c52, .int .i64 ((turnLi (bits .and .i64 by_ 31) false (lget l ((x.2.2 + r) % l.length))).l.f), .slice a49 ((turnLi (bits .and .i64 by_ 31) false (lget l ((x.2.2 + r) % l.length))).l.args.length) c51] := by
                  rw [htt]
                  exact ⟨_, _, _, _, rfl, InT.mono (fun b hb _ => ⟨by (try dsimp only at hb); omega, fun e => by have z := (hSlo b e).2; (try dsimp only at hb); omega⟩) (ho101).r, InT.mono (fun b hb _ => ⟨by (try dsimp only at hb); omega, fun e => by have z := (hSlo b e).2; (try dsimp only at hb); omega⟩) (ho101).l⟩
                refine WL.step (post := fun v w' => ∃ ra rc, v = .slice ra (x.2.2 + 1) rc ∧ RowE eltL w' w2.heap.size 34 ra rc (x.2.2 + 1) ((turnC (bits .and .i64 by_ 31) l r x.2.2) ++ [(turnLi (bits .and .i64 by_ 31) (turnT l x.2.2 (rotI l r x.2.2)) (rotI l r x.2.2))]) ∧ Chg (fun b => (Value.slice x.1 x.2.2 x.2.1).ownBlock = some b) w83 w') rfl rfl rfl (fun za zC zh zk => wp_appE (E := eltL) (size := 5) (bytes := 72) (z := .agg #[.bool false, .int .i64 0, .slice none 0 0, .int .i64 0, .slice none 0 0]) (cs := [.bool ((turnLi (bits .and .i64 by_ 31) false (lget l ((x.2.2 + r) % l.length))).neg), .int .i64 ((turnLi (bits .and .i64 by_ 31) false (lget l ((x.2.2 + r) % l.length))).r.f), .slice a50 ((turnLi (bits .and .i64 by_ 31) false (lget l ((x.2.2 + r) % l.length))).r.args.length) c52, .int .i64 ((turnLi (bits .and .i64 by_ 31) false (lget l ((x.2.2 + r) % l.length))).l.f), .slice a49 ((turnLi (bits .and .i64 by_ 31) false (lget l ((x.2.2 + r) % l.length))).l.args.length) c51]) rfl Try.underlying23 (by kernel_rfl) rfl (by decide) rfl (zh.ev rfl) (zh.ev rfl) ho94 hB86 hin (by omega) (by omega) (by omega) (fun ra rc w' h1 h2 _ => zk _ _ ⟨ra, rc, rfl, h1, h2⟩)) ?_
                rintro _ w96 ⟨ra97, rc98, rfl, hr99, hc100⟩
                have hb102 : Below w.heap.size w w83 := (bstep hb14 hb95)
                have hB103 := hB81.below hb87
                have hB104 := hB77.below hb87
                have hb105 := chg_below hb102 hc100 (fun b hb => (fun h => by have h := hSlo _ h; (try dsimp only at *); omega))
                have hB106 := chg_blk hB103 hc100 (fun h => by have h := hSlo _ h; (try dsimp only at *); omega)
                have hB107 := chg_blk hB104 hc100 (fun h => by have h := hSlo _ h; (try dsimp only at *); omega)
                have hB108 := chg_blk hB86 hc100 (fun h => by have h := hSlo _ h; (try dsimp only at *); omega)
                refine WL.val (.slice ra97 ((x.2.2 + 1)) rc98) rfl rfl rfl (fun za zC zh zk => wp_assign rfl (zh.ev rfl) zk) ?_
                refine WL.nil (WE.sub (K' := [(0, .int .i64 n), (1, .slice a l.length c), (2, .int .i64 (((r : Nat) : Int))), (3, .int .i64 ((bits .and .i64 by_ 31))), (8, .bool false), (9, .slice ra97 ((x.2.2 + 1)) rc98), (10, .int .i64 (((x.2.2 : Nat) : Int))), (11, .pointer (some ⟨g26, 0, none⟩)), (12, .pointer (some ⟨g41, 0, none⟩)), (20, .bool (((((l.length : Nat) : Int) : Int) == (0 : Int)))), (37, .bool ((decide ((((x.2.2 : Nat) : Int) : Int) < (((l.length : Nat) : Int) : Int))))), (74, .bool ((((((((x.2.2 % 2) : Nat) : Int) : Int) == (1 : Int)) && (!(lget l (((x.2.2 + r) % l.length))).r.isTrue)) && (!(lget l (((x.2.2 + r) % l.length))).l.isTrue))))]) ⟨rfl, rfl, rfl, rfl, rfl, rfl, rfl, rfl, rfl, rfl, rfl, rfl, trivial⟩ ?_)
                refine WE.blockNormal ?_
                refine WE.next ?_
                refine WC.region ?_
                refine WL.val (.int .i64 (((x.2.2 : Nat) : Int))) rfl rfl rfl (fun za zC zh zk => wp_move rfl (zh.ev rfl) zk) ?_
                refine WL.val (.int .i64 ((((x.2.2 + 1) : Nat) : Int))) rfl rfl rfl (fun za zC zh zk => addb_3 rfl (zh.ev rfl) (zh.ev rfl) (wrap_eq (by omega) (by omega) (by omega)) zk) ?_
                refine WL.val (.int .i64 ((((x.2.2 + 1) : Nat) : Int))) rfl rfl rfl (fun za zC zh zk => wp_assign rfl (zh.ev rfl) zk) ?_
                refine WL.nil (WE.sub (K' := [(0, .int .i64 n), (1, .slice a l.length c), (2, .int .i64 (((r : Nat) : Int))), (3, .int .i64 ((bits .and .i64 by_ 31))), (8, .bool false), (9, .slice ra97 ((x.2.2 + 1)) rc98), (10, .int .i64 ((((x.2.2 + 1) : Nat) : Int))), (11, .pointer (some ⟨g26, 0, none⟩)), (12, .pointer (some ⟨g41, 0, none⟩)), (20, .bool (((((l.length : Nat) : Int) : Int) == (0 : Int)))), (37, .bool ((decide ((((x.2.2 : Nat) : Int) : Int) < (((l.length : Nat) : Int) : Int))))), (74, .bool ((((((((x.2.2 % 2) : Nat) : Int) : Int) == (1 : Int)) && (!(lget l (((x.2.2 + r) % l.length))).r.isTrue)) && (!(lget l (((x.2.2 + r) % l.length))).l.isTrue))))]) ⟨rfl, rfl, rfl, rfl, rfl, rfl, rfl, rfl, rfl, rfl, rfl, rfl, trivial⟩ ?_)
                refine WE.round ((ra97, rc98, x.2.2 + 1)) ⟨rfl, rfl, rfl, rfl, rfl, rfl, rfl, rfl, trivial⟩ ?_ ?_
                · exact ⟨by (try dsimp only at *); omega, (Nat.le_trans (Nat.le_trans hBw hb95.size) hc100.size), hb105, (by rw [turnC_succ]; exact hr99)⟩
                · dsimp only; omega
              · have h61 : ¬ (((((((x.2.2 % 2) : Nat) : Int) : Int) = (1 : Int)) ∧ (¬ ((lget l (((x.2.2 + r) % l.length))).r.isTrue = true))) ∧ (¬ ((lget l (((x.2.2 + r) % l.length))).l.isTrue = true))) := by simpa using h61
                have htt : turnT l x.2.2 (rotI l r x.2.2) = false := by
                  rw [Bool.eq_false_iff]
                  intro q
                  unfold turnT rotI at q
                  simp only [Bool.and_eq_true, decide_eq_true_eq, Bool.not_eq_true'] at q
                  exact h61 ⟨⟨by omega, by rw [q.1.2]; decide⟩, by rw [q.2]; decide⟩
                refine WC.skip ?_
                refine WE.next ?_
                refine WC.region ?_
                refine WL.val (.slice x.1 x.2.2 x.2.1) rfl rfl rfl (fun za zC zh zk => wp_move rfl (zh.ev rfl) zk) ?_
                have hB109 := hB53.below hb60
                refine WL.val (.agg #[.bool ((turnLi (bits .and .i64 by_ 31) false (lget l ((x.2.2 + r) % l.length))).neg), .int .i64 ((turnLi (bits .and .i64 by_ 31) false (lget l ((x.2.2 + r) % l.length))).l.f), .slice a49 ((turnLi (bits .and .i64 by_ 31) false (lget l ((x.2.2 + r) % l.length))).l.args.length) c51, .int .i64 ((turnLi (bits .and .i64 by_ 31) false (lget l ((x.2.2 + r) % l.length))).r.f), .slice a50 ((turnLi (bits .and .i64 by_ 31) false (lget l ((x.2.2 + r) % l.length))).r.args.length) c52]) rfl rfl rfl (fun za zC zh zk => ld_34 rfl (zh.ev rfl) ((hB109.cell 0).trans rfl) ((hB109.cell 1).trans rfl) ((hB109.cell 2).trans rfl) ((hB109.cell 3).trans rfl) ((hB109.cell 4).trans rfl) zk) ?_
                refine WL.step (post := NewRow w59 34 #[.bool ((turnLi (bits .and .i64 by_ 31) false (lget l ((x.2.2 + r) % l.length))).neg), .int .i64 ((turnLi (bits .and .i64 by_ 31) false (lget l ((x.2.2 + r) % l.length))).l.f), .slice a49 ((turnLi (bits .and .i64 by_ 31) false (lget l ((x.2.2 + r) % l.length))).l.args.length) c51, .int .i64 ((turnLi (bits .and .i64 by_ 31) false (lget l ((x.2.2 + r) % l.length))).r.f), .slice a50 ((turnLi (bits .and .i64 by_ 31) false (lget l ((x.2.2 + r) % l.length))).r.args.length) c52] 1) rfl rfl rfl (fun za zC zh zk => row_23_1 rfl (zh.ev rfl) (zk _ _ (newRow _ _ _ _))) ?_
                rintro _ w110 ⟨g111, rfl, hg112, hB113, hb114, hz115⟩
                have hl116 : g26 < g111 := by have z1 := hB55.lt; have z2 := (hb60).size; omega
                have hl117 : g41 < g111 := by have z1 := hB109.lt; omega
                have hb118 : Below w.heap.size w w59 := (bstep hb56 hb60)
                have hl119 : w.heap.size ≤ g111 := by have z2 := (hb118).size; omega
                have hb120 : Below w13.heap.size w13 w59 := (bstep (bstep hb39 hb43) hb60)
                have hl121 : w13.heap.size ≤ g111 := by have z2 := (hb120).size; omega
                have hl122 : w40.heap.size ≤ g111 := by have z2 := (hb60).size; omega
                have hSlo : ∀ b, (Value.slice x.1 x.2.2 x.2.1).ownBlock = some b → w2.heap.size ≤ b ∧ b < w13.heap.size := fun b h => ho15.lt b h
                have hb124 : Below w13.heap.size w13 w110 := (bstep hb120 hb114)
                have ho123 := ho15.below hb124
                have hb131 : Below w40.heap.size w40 w110 := (bstep hb60 hb114)
                have ho130 := hq54.below hb131
                have hWB : w2.heap.size ≤ w13.heap.size := hBw
                have hW2 : w13.heap.size ≤ w33.heap.size := hb39.size
                have hW3 : w13.heap.size ≤ w110.heap.size := hb124.size
                have hin : eltL.In (fun b => w2.heap.size ≤ b ∧ (Value.slice x.1 x.2.2 x.2.1).ownBlock ≠ some b) w110 (turnLi (bits .and .i64 by_ 31) (turnT l x.2.2 (rotI l r x.2.2)) (rotI l r x.2.2)) [.bool ((turnLi (bits .and .i64 by_ 31) false (lget l ((x.2.2 + r) % l.length))).neg), .int .i64 ((turnLi (bits .and .i64 by_ 31) false (lget l ((x.2.2 + r) % l.length))).l.f), .slice a49 ((turnLi (bits .and .i64 by_ 31) false (lget l ((x.2.2 + r) % l.length))).l.args.length) c51, .int .i64 ((turnLi (bits .and .i64 by_ 31) false (lget l ((x.2.2 + r) % l.length))).r.f), .slice a50 ((turnLi (bits .and .i64 by_ 31) false (lget l ((x.2.2 + r) % l.length))).r.args.length) c52] := by
                  rw [htt]
                  exact ⟨_, _, _, _, rfl, InT.mono (fun b hb _ => ⟨by (try dsimp only at hb); omega, fun e => by have z := (hSlo b e).2; (try dsimp only at hb); omega⟩) (ho130).l, InT.mono (fun b hb _ => ⟨by (try dsimp only at hb); omega, fun e => by have z := (hSlo b e).2; (try dsimp only at hb); omega⟩) (ho130).r⟩
                refine WL.step (post := fun v w' => ∃ ra rc, v = .slice ra (x.2.2 + 1) rc ∧ RowE eltL w' w2.heap.size 34 ra rc (x.2.2 + 1) ((turnC (bits .and .i64 by_ 31) l r x.2.2) ++ [(turnLi (bits .and .i64 by_ 31) (turnT l x.2.2 (rotI l r x.2.2)) (rotI l r x.2.2))]) ∧ Chg (fun b => (Value.slice x.1 x.2.2 x.2.1).ownBlock = some b) w110 w') rfl rfl rfl (fun za zC zh zk => wp_appE (E := eltL) (size := 5) (bytes := 72) (z := .agg #[.bool false, .int .i64 0, .slice none 0 0, .int .i64 0, .slice none 0 0]) (cs := [.bool ((turnLi (bits .and .i64 by_ 31) false (lget l ((x.2.2 + r) % l.length))).neg), .int .i64 ((turnLi (bits .and .i64 by_ 31) false (lget l ((x.2.2 + r) % l.length))).l.f), .slice a49 ((turnLi (bits .and .i64 by_ 31) false (lget l ((x.2.2 + r) % l.length))).l.args.length) c51, .int .i64 ((turnLi (bits .and .i64 by_ 31) false (lget l ((x.2.2 + r) % l.length))).r.f), .slice a50 ((turnLi (bits .and .i64 by_ 31) false (lget l ((x.2.2 + r) % l.length))).r.args.length) c52]) rfl Try.underlying23 (by kernel_rfl) rfl (by decide) rfl (zh.ev rfl) (zh.ev rfl) ho123 hB113 hin (by omega) (by omega) (by omega) (fun ra rc w' h1 h2 _ => zk _ _ ⟨ra, rc, rfl, h1, h2⟩)) ?_
                rintro _ w125 ⟨ra126, rc127, rfl, hr128, hc129⟩
                have hb132 : Below w.heap.size w w110 := (bstep hb14 hb124)
                have hB133 := hB55.below hb131
                have hB134 := hB109.below hb114
                have hb135 := chg_below hb132 hc129 (fun b hb => (fun h => by have h := hSlo _ h; (try dsimp only at *); omega))
                have hB136 := chg_blk hB133 hc129 (fun h => by have h := hSlo _ h; (try dsimp only at *); omega)
                have hB137 := chg_blk hB134 hc129 (fun h => by have h := hSlo _ h; (try dsimp only at *); omega)
                have hB138 := chg_blk hB113 hc129 (fun h => by have h := hSlo _ h; (try dsimp only at *); omega)
                refine WL.val (.slice ra126 ((x.2.2 + 1)) rc127) rfl rfl rfl (fun za zC zh zk => wp_assign rfl (zh.ev rfl) zk) ?_
                refine WL.nil (WE.sub (K' := [(0, .int .i64 n), (1, .slice a l.length c), (2, .int .i64 (((r : Nat) : Int))), (3, .int .i64 ((bits .and .i64 by_ 31))), (8, .bool false), (9, .slice ra126 ((x.2.2 + 1)) rc127), (10, .int .i64 (((x.2.2 : Nat) : Int))), (11, .pointer (some ⟨g26, 0, none⟩)), (12, .pointer (some ⟨g41, 0, none⟩)), (20, .bool (((((l.length : Nat) : Int) : Int) == (0 : Int)))), (37, .bool ((decide ((((x.2.2 : Nat) : Int) : Int) < (((l.length : Nat) : Int) : Int))))), (74, .bool ((((((((x.2.2 % 2) : Nat) : Int) : Int) == (1 : Int)) && (!(lget l (((x.2.2 + r) % l.length))).r.isTrue)) && (!(lget l (((x.2.2 + r) % l.length))).l.isTrue))))]) ⟨rfl, rfl, rfl, rfl, rfl, rfl, rfl, rfl, rfl, rfl, rfl, rfl, trivial⟩ ?_)
                refine WE.blockNormal ?_
                refine WE.next ?_
                refine WC.region ?_
                refine WL.val (.int .i64 (((x.2.2 : Nat) : Int))) rfl rfl rfl (fun za zC zh zk => wp_move rfl (zh.ev rfl) zk) ?_
                refine WL.val (.int .i64 ((((x.2.2 + 1) : Nat) : Int))) rfl rfl rfl (fun za zC zh zk => addb_3 rfl (zh.ev rfl) (zh.ev rfl) (wrap_eq (by omega) (by omega) (by omega)) zk) ?_
                refine WL.val (.int .i64 ((((x.2.2 + 1) : Nat) : Int))) rfl rfl rfl (fun za zC zh zk => wp_assign rfl (zh.ev rfl) zk) ?_
                refine WL.nil (WE.sub (K' := [(0, .int .i64 n), (1, .slice a l.length c), (2, .int .i64 (((r : Nat) : Int))), (3, .int .i64 ((bits .and .i64 by_ 31))), (8, .bool false), (9, .slice ra126 ((x.2.2 + 1)) rc127), (10, .int .i64 ((((x.2.2 + 1) : Nat) : Int))), (11, .pointer (some ⟨g26, 0, none⟩)), (12, .pointer (some ⟨g41, 0, none⟩)), (20, .bool (((((l.length : Nat) : Int) : Int) == (0 : Int)))), (37, .bool ((decide ((((x.2.2 : Nat) : Int) : Int) < (((l.length : Nat) : Int) : Int))))), (74, .bool ((((((((x.2.2 % 2) : Nat) : Int) : Int) == (1 : Int)) && (!(lget l (((x.2.2 + r) % l.length))).r.isTrue)) && (!(lget l (((x.2.2 + r) % l.length))).l.isTrue))))]) ⟨rfl, rfl, rfl, rfl, rfl, rfl, rfl, rfl, rfl, rfl, rfl, rfl, trivial⟩ ?_)
                refine WE.round ((ra126, rc127, x.2.2 + 1)) ⟨rfl, rfl, rfl, rfl, rfl, rfl, rfl, rfl, trivial⟩ ?_ ?_
                · exact ⟨by (try dsimp only at *); omega, (Nat.le_trans (Nat.le_trans hBw hb124.size) hc129.size), hb135, (by rw [turnC_succ]; exact hr128)⟩
                · dsimp only; omega
        · have h16 : ¬ ((((x.2.2 : Nat) : Int) : Int) < (((l.length : Nat) : Int) : Int)) := by simpa using h16
          refine WC.exit ?_
          refine WE.thenExit ?_
          refine WE.thenExit ?_
          refine WE.blockIs rfl ?_
          refine WE.next ?_
          refine WC.seq ?_
          refine WC.region ?_
          refine WL.val (.int .i64 n) rfl rfl rfl (fun za zC zh zk => wp_move rfl (zh.ev rfl) zk) ?_
          refine WL.val (.slice a l.length c) rfl rfl rfl (fun za zC zh zk => wp_move rfl (zh.ev rfl) zk) ?_
          refine WL.call rfl rfl rfl (fun za zh zC => wp_call (by kernel_rfl) rfl (hv2 (zh.ev rfl) (zh.ev rfl))) (feats_any n l _ _ _ (hl.below hb14) hz) ?_
          rintro _ w139 ⟨⟨aP, cP, rfl, hNP⟩, hbP⟩
          refine WL.val (.int .i64 n) rfl rfl rfl (fun za zC zh zk => wp_move rfl (zh.ev rfl) zk) ?_
          refine WL.val (.slice x.1 x.2.2 x.2.1) rfl rfl rfl (fun za zC zh zk => wp_move rfl (zh.ev rfl) zk) ?_
          have ho140 := ho15.below hbP
          have hxk : x.2.2 = l.length := by omega
          have hRz := ho140
          rw [hxk] at hRz
          obtain ⟨hRe, hRn⟩ := newC_row (w0 := w) hRz hq1.size
          have hDc : IsCl w139 (turnC (bits .and .i64 by_ 31) l r l.length) x.1 x.2.1 := ⟨hRn.isLs, hRn.2.1, hRn.2.2, by rw [turnC_len]; omega, fun y hy => (turnC_size (by omega) (fun z hz => ⟨hl.partsL z hz, hl.partsR z hz⟩) y hy).1, fun y hy => (turnC_size (by omega) (fun z hz => ⟨hl.partsL z hz, hl.partsR z hz⟩) y hy).2⟩
          refine WL.call rfl rfl rfl (fun za zh zC => wp_call (by kernel_rfl) rfl (hv2 (zh.ev rfl) (zh.ev rfl))) ((show Calls _ _ #[.int .i64 n, .slice x.1 x.2.2 x.2.1] _ _ from (by rw [show x.2.2 = (turnC (bits .and .i64 by_ 31) l r l.length).length from by rw [turnC_len]; exact hxk]; exact feats_any n (turnC (bits .and .i64 by_ 31) l r l.length) _ _ _ hDc (by rw [turnC_len]; omega)))) ?_
          rintro _ w141 ⟨⟨aR, cR, rfl, hNR⟩, hbR⟩
          refine WL.call rfl rfl rfl (fun za zh zC => wp_call (by kernel_rfl) rfl (hv2 (zh.ev rfl) (zh.ev rfl))) (row_eq (featsI_turn hrl) (Nums.below hNP hbR) (Nums.below hNR (Below.refl _ _)) (by have z := featsI_le n l; omega)) ?_
          rintro _ w143 ⟨rfl, hq142⟩
          refine WL.val (.bool true) rfl rfl rfl (fun za zC zh zk => wp_move rfl (zh.ev rfl) zk) ?_
          refine WL.want (d := 92) rfl rfl rfl ?_
          refine WL.call rfl rfl rfl (fun za zh zC => wp_call (by kernel_rfl) rfl (hv0)) (wakes_any _) ?_
          rintro _ w145 ⟨rfl, hq144⟩
          refine WL.val (.bool true) rfl rfl rfl (fun za zC zh zk => wp_pickT rfl (zh.ev rfl) (zh.ev rfl) zk) ?_
          refine WL.val (.bool true) rfl rfl rfl (fun za zC zh zk => wp_assign rfl (zh.ev rfl) zk) ?_
          refine WL.nil (WE.sub (K' := [(0, .int .i64 n), (1, .slice a l.length c), (2, .int .i64 (((r : Nat) : Int))), (3, .int .i64 ((bits .and .i64 by_ 31))), (8, .bool true), (9, .slice x.1 x.2.2 x.2.1), (10, .int .i64 (((x.2.2 : Nat) : Int))), (20, .bool (((((l.length : Nat) : Int) : Int) == (0 : Int)))), (37, .bool ((decide ((((x.2.2 : Nat) : Int) : Int) < (((l.length : Nat) : Int) : Int)))))]) ⟨rfl, rfl, rfl, rfl, rfl, rfl, rfl, rfl, rfl, trivial⟩ ?_)
          refine WE.next ?_
          refine WC.ret ?_
          refine WE.ret1 rfl rfl ?_
          have hb146 : Below w.heap.size w w145 := (bstep (bstep (bstep (bstep hb14 hbP) hbR) hq142) hq144)
          exact ⟨_, rfl, rfl, hb146⟩

end Go.Proofs.Ytnblndmjjokepaa
