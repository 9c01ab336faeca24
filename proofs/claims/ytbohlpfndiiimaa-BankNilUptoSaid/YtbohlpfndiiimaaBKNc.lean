/- Copies of terms: the program and the document. -/
import Derived.Test.YtbohlpfndiiimaaBKNb
import Derived.Test.YtbohlpfndiiimaaBKNa
import Derived.WalkKit

/- The text of numbers: the key of an entry. -/
namespace Go.Proofs.Ytbohlpfndiiimaa
open Go.RowKit Go
set_option linter.unusedVariables false
set_option linter.unusedSimpArgs false
/-- The row of bytes while it grows: it lies in a block of its own, behind 'B', not in 'g'. -/
def KR (w : World) (B g : Nat) (a : Option Addr) (c n : Nat) (L : List UInt8) : Prop := RowD eltU (fun _ => False) w 5 a c n L ∧ (∀ b, obk a n c = some b → B ≤ b ∧ b ≠ g) ∧ a ≠ none
theorem KR.below {w w' : World} {B g c n : Nat} {a : Option Addr} {L : List UInt8} (h : KR w B g a c n L) (hb : Below w.heap.size w w') : KR w' B g a c n L := ⟨h.1.below hb, h.2⟩
theorem KR.upd {w w' : World} {B g c n q : Nat} {a : Option Addr} {L : List UInt8} (h : KR w B g a c n L) (hu : Upd q w w') (hq : q = g ∨ q < B) : KR w' B g a c n L :=
 ⟨h.1.chg (Z := fun b => b = q) (.ofUpd hu rfl) (fun b e e2 => by have z := h.2.1 b e; have e3 : b = q := e2; omega) (fun b e => e.elim), h.2⟩
set_option maxRecDepth 100000 in
theorem keyOf_any (f : Int) (l : List Nat) (hlz : l.length ≤ 4294967296) (hlb : ∀ x ∈ l, x < 9223372036854775808) (S : Nat → Prop) (w : World) (a : Option Addr) (c : Nat) (hl : InRow eltN S w l a) :
  Calls Try.prog 35 #[.int .i64 f, .slice a l.length c] w (Ret fun v' w' => v' = keyV ⟨f, l⟩ ∧ Below w.heap.size w w') := by
 obtain ⟨lb, lo, hla, hlc⟩ := InRow.openN hl
 refine Calls.walk (l := [.int .i64 f, .slice a l.length c]) Try.func35 rfl (by kernel_rfl) ?_
 refine WC.sub (K' := [(0, .int .i64 f), (1, .slice a l.length c)]) ⟨rfl, rfl, trivial⟩ ?_
 refine WC.seq (WC.region ?_)
 refine WL.step (post := NewBlk w 77 #[.int .i64 0, .string (⟨#[]⟩)]) rfl rfl rfl (fun za zC zh zk => alloc_77 rfl (zk _ _ (newBlk _ _ _))) ?_
 rintro _ w1 ⟨g2, rfl, hg3, hB4, hb5, hz6⟩
 have hl7 : w.heap.size ≤ g2 := by omega
 refine WL.nil (WE.next (WC.seq (WC.region (WL.mv rfl rfl rfl rfl rfl ?_))))
 refine WL.val (.int .i64 (((l.length : Nat) : Int))) rfl rfl rfl (fun za zC zh zk => len_31 rfl (zh.ev rfl) zk) ?_
 refine WL.val (.int .i64 ((((8 * l.length) : Nat) : Int))) rfl rfl rfl (fun za zC zh zk => mulb_3 rfl (zh.ev rfl) (zh.ev rfl) (wrap_eq (by omega) (by omega) (by omega)) zk) ?_
 have hb11 : Below w.heap.size w w1 := hb5
 have hgw : w.heap.size ≤ g2 := by omega
 have hgl := hB4.lt
 refine WL.step (post := fun v w' => ∃ r, v = .slice (some ⟨r, 0, none⟩) 0 (8 * l.length) ∧ RowD eltU (fun _ => False) w' 5 (some ⟨r, 0, none⟩) (8 * l.length) 0 [] ∧ Below w1.heap.size w1 w' ∧ r = w1.heap.size) rfl rfl rfl (fun za zC zh zk => wp_mk0 (E := eltU) (size := 1) (bytes := 1) (z := .int .u8 0) rfl Try.underlying100 (by kernel_rfl) rfl (zh.ev rfl) (zh.ev rfl) (by omega) (by unfold maxLen; omega) (fun w' h1 h2 _ => zk _ _ ⟨_, rfl, h1, h2, rfl⟩)) ?_
 rintro _ w8 ⟨r12, rfl, hr9, hb10, rfl⟩
 have hkr0 : KR w8 w.heap.size g2 ((some ⟨w1.heap.size, 0, none⟩)) ((8 * l.length)) 0 ([]) := ⟨hr9, fun b e => by have e2 : w1.heap.size = b := Option.some.inj e; have z := hb11.size; omega, fun e => nomatch e⟩
 refine WL.asg rfl rfl rfl rfl rfl (WL.nil (WE.next (WC.seq (WC.seq (WC.region (WL.mv rfl rfl rfl rfl rfl ?_))))))
 refine WL.val (.int .i64 (((l.length : Nat) : Int))) rfl rfl rfl (fun za zC zh zk => len_31 rfl (zh.ev rfl) zk) ?_
 refine WL.mv rfl rfl rfl rfl rfl (WL.nil (WE.next (WC.block ?_)))
 refine WC.loop (X := Option Addr × Nat × Nat × Nat) (fun x => l.length - x.2.2.2) (fun x => [(0, .int .i64 f), (1, .slice a l.length c), (4, .pointer (some ⟨g2, 0, none⟩)), (5, .slice x.1 x.2.2.1 x.2.1), (13, .slice a l.length c), (14, .int .i64 (((l.length : Nat) : Int))), (15, .int .i64 (((x.2.2.2 : Nat) : Int)))]) (fun x w14 => x.2.2.2 ≤ l.length ∧ x.2.2.1 = 8 * x.2.2.2 ∧ Below w.heap.size w w14 ∧ Blk w14 g2 77 #[.int .i64 0, (.string ⟨#[]⟩)] ∧ KR (w14) w.heap.size g2 x.1 x.2.1 x.2.2.1 ((kbs (l.take x.2.2.2)))) (((some ⟨w1.heap.size, 0, none⟩), (8 * l.length), 0, 0)) ⟨rfl, rfl, rfl, rfl, rfl, rfl, rfl, trivial⟩ ?_ ?_
 ·have hb15 : Below w.heap.size w w8 := (bstep hb5 hb10)
  have hB16 := hB4.below hb10
  exact ⟨Nat.zero_le _, rfl, hb15, hB16, hkr0⟩
 ·rintro x w14 ⟨hkx, hnx, hb17, hB18, ho19⟩
  refine WC.seq (WC.region ?_)
  refine WL.val (.bool ((decide ((((x.2.2.2 : Nat) : Int) : Int) < (((l.length : Nat) : Int) : Int))))) rfl rfl rfl (fun za zC zh zk => lss_3 rfl (zh.ev rfl) (zh.ev rfl) zk) ?_
  refine WL.nil (WE.next (WC.seq ?_))
  refine WC.cond rfl (fun h20 => ?_) (fun h20 => ?_)
  ·have h20 : (((x.2.2.2 : Nat) : Int) : Int) < (((l.length : Nat) : Int) : Int) := by simpa using h20
   refine WC.skip (WE.next (WC.seq (WC.block (WC.seq (WC.region ?_)))))
   refine WL.val _ rfl rfl rfl (fun za zC zh zk => ix_31 (k := x.2.2.2) rfl (zh.ev rfl) (hla x.2.2.2 (by first | omega | (simp; omega))) (zh.ev rfl) (by first | omega | (simp; omega)) zk) ?_
   refine WL.val _ rfl rfl rfl (fun za zC zh zk => ld_3 rfl (zh.ev rfl) (bkeeps hb17 _ _ (hlc x.2.2.2 (by first | omega | (simp; omega)))) zk) ?_
   refine WL.asg rfl rfl rfl rfl rfl (WL.nil (WE.next (WC.seq (WC.region (WL.asg rfl rfl rfl rfl rfl (WL.nil (WE.next (WC.block ?_))))))))
   refine WC.loop (X := Option Addr × Nat × Nat × Nat) (fun y => 8 - y.2.2.2) (fun y => [(0, .int .i64 f), (1, .slice a l.length c), (4, .pointer (some ⟨g2, 0, none⟩)), (5, .slice y.1 y.2.2.1 y.2.1), (7, .int .i64 ((((aget l x.2.2.2) : Nat) : Int))), (8, .int .i64 ((((8 * y.2.2.2) : Nat) : Int))), (13, .slice a l.length c), (14, .int .i64 (((l.length : Nat) : Int))), (15, .int .i64 (((x.2.2.2 : Nat) : Int))), (16, .bool ((decide ((((x.2.2.2 : Nat) : Int) : Int) < (((l.length : Nat) : Int) : Int)))))]) (fun y w21 => y.2.2.2 ≤ 8 ∧ y.2.2.1 = x.2.2.1 + y.2.2.2 ∧ Below w.heap.size w w21 ∧ Blk w21 g2 77 #[.int .i64 0, (.string ⟨#[]⟩)] ∧ KR (w21) w.heap.size g2 y.1 y.2.1 y.2.2.1 (((kbs (l.take x.2.2.2)) ++ (b8 (aget l x.2.2.2)).take y.2.2.2))) ((x.1, x.2.1, x.2.2.1, 0)) ⟨rfl, rfl, rfl, rfl, rfl, rfl, rfl, rfl, rfl, rfl, trivial⟩ ?_ ?_
   ·exact ⟨Nat.zero_le _, rfl, hb17, hB18, (by (try dsimp only); rw [List.take_zero, List.append_nil]; exact ho19)⟩
   ·rintro y w21 ⟨hjy, hny, hb22, hB23, ho24⟩
    refine WC.seq (WC.seq (WC.region (WL.mv rfl rfl rfl rfl rfl ?_)))
    refine WL.val (.bool ((decide (((((8 * y.2.2.2) : Nat) : Int) : Int) < (64 : Int))))) rfl rfl rfl (fun za zC zh zk => lss_3 rfl (zh.ev rfl) (zh.ev rfl) zk) ?_
    refine WL.nil (WE.next ?_)
    refine WC.cond rfl (fun h25 => ?_) (fun h25 => ?_)
    ·have h25 : ((((8 * y.2.2.2) : Nat) : Int) : Int) < (64 : Int) := by simpa using h25
     refine WC.skip (WE.next (WC.seq (WC.block (WC.region (WL.mv rfl rfl rfl rfl rfl (WL.mv rfl rfl rfl rfl rfl (WL.mv rfl rfl rfl rfl rfl ?_)))))))
     refine WL.val (.int .u64 ((8 * y.2.2.2 : Nat) : Int)) rfl rfl rfl (fun za zC zh zk => wp_cvt (by kernel_rfl) (by kernel_rfl) rfl (zh.ev rfl) (by rw [show IntKind.wrap .u64 ((8 * y.2.2.2 : Nat) : Int) = ((8 * y.2.2.2 : Nat) : Int) from u64_id (by omega)]; exact zk)) ?_
     refine WL.val (.int .i64 (((aget l x.2.2.2 / 2 ^ (8 * y.2.2.2)) : Nat) : Int)) rfl rfl rfl (fun za zC zh zk => wp_shr rfl (zh.ev rfl) (zh.ev rfl) (by show _ ≤ 64; omega) (by rw [show Int.fdiv ((aget l x.2.2.2 : Nat) : Int) (2 ^ (8 * y.2.2.2)) = (((aget l x.2.2.2 / 2 ^ (8 * y.2.2.2)) : Nat) : Int) from fdiv_pow _ _]; exact zk)) ?_
     refine WL.val (.int .u8 (((UInt8.ofNat (aget l x.2.2.2 / 2 ^ (8 * y.2.2.2))).toNat : Nat) : Int)) rfl rfl rfl (fun za zC zh zk => wp_cvt (by kernel_rfl) (by kernel_rfl) rfl (zh.ev rfl) (by rw [u8_of]; exact zk)) ?_
     refine WL.step (post := NewRow w21 5 #[.int .u8 ((((UInt8.ofNat (aget l x.2.2.2 / 2 ^ (8 * y.2.2.2))).toNat : Nat) : Int))] 1) rfl rfl rfl (fun za zC zh zk => row_100_1 rfl (zh.ev rfl) (zk _ _ (newRow _ _ _ _))) ?_
     rintro _ w26 ⟨g27, rfl, hg28, hB29, hb30, hz31⟩
     have hl32 : g2 < g27 := by have z1 := hB23.lt; omega
     have hl33 : w.heap.size ≤ g27 := by have z2 := (hb22).size; omega
     have hl34 : w21.heap.size ≤ g27 := by omega
     have hB35 := hB23.below hb30
     have ho36 := ho24.below hb30
     have hb38 : Below w.heap.size w w26 := (bstep hb22 hb30)
     have hb37 : Below w.heap.size w w26 := hb38
     have hsz5 := hb37.size
     refine WL.step (post := fun v w' => ∃ ra rc, v = .slice ra (y.2.2.1 + 1) rc ∧ KR w' w.heap.size g2 ra rc (y.2.2.1 + 1) (((kbs (l.take x.2.2.2)) ++ (b8 (aget l x.2.2.2)).take y.2.2.2) ++ [(UInt8.ofNat (aget l x.2.2.2 / 2 ^ (8 * y.2.2.2)))]) ∧ Chg (fun b => obk y.1 y.2.2.1 y.2.1 = some b) w26 w') rfl rfl rfl (fun za zC zh zk => wp_appD (E := eltU) (S2 := fun _ => False) (y := (UInt8.ofNat (aget l x.2.2.2 / 2 ^ (8 * y.2.2.2)))) (size := 1) (bytes := 1) (z := .int .u8 0) rfl Try.underlying100 (by kernel_rfl) rfl (by decide) rfl (zh.ev rfl) (zh.ev rfl) ho36.1 hB29 rfl (fun b q => q.elim) (by omega) (by omega) (fun ra rc w' h1 h2 h3 => zk _ _ ⟨ra, rc, rfl, ⟨h1.mono (fun b q _ => by rcases q.1 with q | q <;> exact q) (fun b q => q.elim), fun b e => by rcases h3 b e with z | z; exact ho36.2.1 b z; (have z2 := hB35.lt; exact ⟨by omega, by omega⟩), fun e => by obtain ⟨b, e2, _⟩ := h1.opn (by omega); rw [e2] at e; cases e⟩, h2⟩)) ?_
     rintro _ w39 ⟨ra40, rc41, rfl, hv42, hc43⟩
     have hb44 := chg_below hb37 hc43 (fun b hb e => by have z := (ho36.2.1 b e).1; omega)
     have hB45 := chg_blk hB35 hc43 (fun e => (ho36.2.1 _ e).2 rfl)
     have hv46 : KR w39 w.heap.size g2 ra40 rc41 ((y.2.2.1 + 1)) (((kbs (l.take x.2.2.2)) ++ (b8 (aget l x.2.2.2)).take (y.2.2.2 + 1))) := by
      have z := hv42
      rw [List.append_assoc, ← b8_take (by omega)] at z; exact z
     refine WL.asg rfl rfl rfl rfl rfl (WL.nil (WE.blockNormal (WE.next (WC.region (WL.mv rfl rfl rfl rfl rfl ?_)))))
     refine WL.val (.int .i64 ((((8 * (y.2.2.2 + 1)) : Nat) : Int))) rfl rfl rfl (fun za zC zh zk => addb_3 rfl (zh.ev rfl) (zh.ev rfl) (wrap_eq (by omega) (by omega) (by omega)) zk) ?_
     refine WL.asg rfl rfl rfl rfl rfl (WL.nil ?_)
     refine WE.round ((ra40, rc41, (y.2.2.1 + 1), y.2.2.2 + 1)) ⟨rfl, rfl, rfl, rfl, rfl, rfl, rfl, rfl, rfl, rfl, trivial⟩ ?_ ?_
     ·exact ⟨(by (try dsimp only); omega), (by (try dsimp only); omega), hb44, hB45, hv46⟩
     ·(try dsimp only); omega
    ·have h25 : ¬ (((((8 * y.2.2.2) : Nat) : Int) : Int) < (64 : Int)) := by simpa using h25
     refine WC.exit (WE.thenExit (WE.thenExit (WE.blockIs rfl (WE.blockNormal (WE.next (WC.region ?_))))))
     refine WL.val (.int .i64 ((((x.2.2.2 + 1) : Nat) : Int))) rfl rfl rfl (fun za zC zh zk => addb_3 rfl (zh.ev rfl) (zh.ev rfl) (wrap_eq (by omega) (by omega) (by omega)) zk) ?_
     refine WL.mv rfl rfl rfl rfl rfl (WL.nil ?_)
     have hy8 : y.2.2.2 = 8 := by omega
     have hv47 : KR w21 w.heap.size g2 y.1 y.2.1 y.2.2.1 ((kbs (l.take (x.2.2.2 + 1)))) := by
      have z := ho24
      rw [hy8, show (b8 (aget l x.2.2.2)).take 8 = b8 (aget l x.2.2.2) from List.take_of_length_le (by rw [b8_len]; exact Nat.le_refl _), ← kbs_snoc, aget_lt (by omega), ← List.take_succ_eq_append_getElem (by omega)] at z; exact z
     refine WE.round ((y.1, y.2.1, y.2.2.1, x.2.2.2 + 1)) ⟨rfl, rfl, rfl, rfl, rfl, rfl, rfl, trivial⟩ ?_ ?_
     ·exact ⟨(by (try dsimp only); omega), (by (try dsimp only); omega), hb22, hB23, hv47⟩
     ·(try dsimp only); omega
  ·have h20 : ¬ ((((x.2.2.2 : Nat) : Int) : Int) < (((l.length : Nat) : Int) : Int)) := by simpa using h20
   refine WC.exit (WE.thenExit (WE.thenExit (WE.blockIs rfl (WE.next (WC.seq (WC.region (WL.mv rfl rfl rfl rfl rfl (WL.mv rfl rfl rfl rfl rfl ?_))))))))
   have hxk : x.2.2.2 = l.length := by omega
   refine WL.val (.string (kba l)) rfl rfl rfl (fun za zC zh zk => wp_b2s (l := kbs l) (by kernel_rfl) (by kernel_rfl) (by kernel_rfl) rfl (zh.ev rfl) ho19.2.2 (by have z := ho19.1; rw [hxk, List.take_of_length_le (Nat.le_refl _)] at z; exact z) zk) ?_
   refine WL.val (.agg #[.int .i64 f, .string ((kba l))]) rfl rfl rfl (fun za zC zh zk => build_77_0_1 rfl (zh.ev rfl) (zh.ev rfl) zk) ?_
   refine WL.step (post := fun _ w' => Upd g2 w14 w' ∧ Blk w' g2 77 #[.int .i64 f, .string ((kba l))]) rfl rfl rfl (fun za zC zh zk => st_77 rfl (zh.ev rfl) (zh.ev rfl) rfl rfl hB18 (by first | decide | simp) (fun v => zk v _ ⟨(Upd.at_ _ _ _ _).trans (Upd.at_ _ _ _ _), (hB18.set_ 0 _).set_ 1 _⟩)) ?_
   rintro v51 w48 ⟨hu49, hB50⟩
   have hb52 := upd_below hb17 hu49 (by omega)
   have ho53 := ho19.upd hu49 (by omega)
   refine WL.nil (WE.next (WC.ret ?_))
   refine WE.retAny (v := .agg #[.int .i64 f, .string ((kba l))]) (fun za zh => ?_) ?_
   ·have z0 : za.tmps[4]?.getD undef = .pointer (some ⟨g2, 0, none⟩) := by rw [← Array.getD_eq_getD_getElem?]; exact zh.knows 4 _ rfl
    have y0_0 : w48.cell? ⟨g2, 0, none⟩ = some (.int .i64 f) := ((hB50.cell 0).trans rfl)
    have y0_1 : w48.cell? ⟨g2, 1, none⟩ = some (.string ((kba l))) := ((hB50.cell 1).trans rfl)
    simp [results, Try.results35, z0, y0_0, y0_1, go_sem]
   ·exact ⟨_, rfl, rfl, hb52⟩
end Go.Proofs.Ytbohlpfndiiimaa

/- Operations, one law a kind and type. -/
namespace Go.Proofs.Ytbohlpfndiiimaa
open Go.RowKit Go
set_option linter.unusedVariables false
set_option linter.unusedSimpArgs false
set_option maxRecDepth 100000
end Go.Proofs.Ytbohlpfndiiimaa

/- Is a number in a row: slices.Contains. -/
namespace Go.Proofs.Ytbohlpfndiiimaa
open Go.RowKit Go
set_option linter.unusedVariables false
set_option linter.unusedSimpArgs false
theorem idxN_no {l : List Nat} {x : Nat} (h : ∀ q, q < l.length → aget l q ≠ x) : x ∉ l := fun hm => by
 obtain ⟨q, hq, e⟩ := List.getElem_of_mem hm
 exact h q hq (by rw [aget_lt hq]; exact e)
set_option maxRecDepth 100000 in
theorem nindex_any (l : List Nat) (x : Nat) (S : Nat → Prop) (w : World) (a : Option Addr) (c : Nat) (hl : InRow eltN S w l a) (hz : l.length ≤ 4294967296) : Calls Try.prog 66 #[.slice a l.length c, .int .i64 (x : Int)] w (Ret fun v' w' => (∃ r : Int, v' = .int .i64 r ∧ (0 ≤ r ↔ x ∈ l)) ∧ Below w.heap.size w w') := by
 obtain ⟨lb, lo, hla, hlc⟩ := InRow.openN hl
 refine Calls.walk (l := [.slice a l.length c, .int .i64 (((x : Nat) : Int))]) Try.func66 rfl (by kernel_rfl) ?_
 refine WC.sub (K' := [(0, .slice a l.length c), (1, .int .i64 (((x : Nat) : Int)))]) ⟨rfl, rfl, trivial⟩ ?_
 refine WC.seq (WC.region (WL.asg rfl rfl rfl rfl rfl (WL.nil (WE.next (WC.seq (WC.seq (WC.region (WL.mv rfl rfl rfl rfl rfl ?_))))))))
 refine WL.val (.int .i64 (((l.length : Nat) : Int))) rfl rfl rfl (fun za zC zh zk => len_31 rfl (zh.ev rfl) zk) ?_
 refine WL.mv rfl rfl rfl rfl rfl (WL.nil (WE.next (WC.block ?_)))
 refine WC.loop (X := Nat) (fun k => l.length - k) (fun k => [(0, .slice a l.length c), (1, .int .i64 (((x : Nat) : Int))), (7, .int .i64 (((l.length : Nat) : Int))), (8, .int .i64 (((k : Nat) : Int)))]) (fun k w1 => k ≤ l.length ∧ (∀ q, q < k → aget l q ≠ x) ∧ Below w.heap.size w w1) 0 ⟨rfl, rfl, rfl, rfl, trivial⟩ ?_ ?_
 ·exact ⟨Nat.zero_le _, fun q h => absurd h (Nat.not_lt_zero q), (Below.refl _ _)⟩
 ·rintro k w1 ⟨hk, hall, hb2⟩
  refine WC.seq (WC.region ?_)
  refine WL.val (.bool ((decide ((((k : Nat) : Int) : Int) < (((l.length : Nat) : Int) : Int))))) rfl rfl rfl (fun za zC zh zk => lss_3 rfl (zh.ev rfl) (zh.ev rfl) zk) ?_
  refine WL.nil (WE.next (WC.seq ?_))
  refine WC.cond rfl (fun h3 => ?_) (fun h3 => ?_)
  ·have h3 : (((k : Nat) : Int) : Int) < (((l.length : Nat) : Int) : Int) := by simpa using h3
   refine WC.skip (WE.next (WC.seq (WC.block (WC.seq (WC.region (WL.mv rfl rfl rfl rfl rfl (WL.asg rfl rfl rfl rfl rfl (WL.nil (WE.next (WC.seq (WC.region (WL.mv rfl rfl rfl rfl rfl (WL.mv rfl rfl rfl rfl rfl (WL.mv rfl rfl rfl rfl rfl ?_))))))))))))))
   refine WL.val _ rfl rfl rfl (fun za zC zh zk => ix_31 (k := k) rfl (zh.ev rfl) (hla k (by first | omega | (simp; omega))) (zh.ev rfl) (by first | omega | (simp; omega)) zk) ?_
   refine WL.val _ rfl rfl rfl (fun za zC zh zk => ld_3 rfl (zh.ev rfl) (bkeeps hb2 _ _ (hlc k (by first | omega | (simp; omega)))) zk) ?_
   refine WL.val (.bool (((((x : Nat) : Int) : Int) == ((((aget l k) : Nat) : Int) : Int)))) rfl rfl rfl (fun za zC zh zk => eql_3 rfl (zh.ev rfl) (zh.ev rfl) zk) ?_
   refine WL.nil (WE.next ?_)
   refine WC.cond rfl (fun h4 => ?_) (fun h4 => ?_)
   ·have h4 : (((x : Nat) : Int) : Int) = ((((aget l k) : Nat) : Int) : Int) := by simpa using h4
    refine WC.seq (WC.region (WL.mv rfl rfl rfl rfl rfl (WL.asg rfl rfl rfl rfl rfl (WL.nil (WE.next (WC.ret (WE.blockRet (WE.thenRet (WE.thenRet (WE.blockRet (WE.thenRet (WE.ret1 rfl rfl ?_))))))))))))
    have hxm : x ∈ l := by
     have z : x = aget l k := by omega
     rw [z]; exact aget_mem (by omega)
    exact ⟨_, rfl, ⟨_, rfl, ⟨fun _ => hxm, fun _ => by omega⟩⟩, hb2⟩
   ·have h4 : ¬ ((((x : Nat) : Int) : Int) = ((((aget l k) : Nat) : Int) : Int)) := by simpa using h4
    refine WC.skip (WE.blockNormal (WE.next (WC.region ?_)))
    refine WL.val (.int .i64 ((((k + 1) : Nat) : Int))) rfl rfl rfl (fun za zC zh zk => addb_3 rfl (zh.ev rfl) (zh.ev rfl) (wrap_eq (by omega) (by omega) (by omega)) zk) ?_
    refine WL.mv rfl rfl rfl rfl rfl (WL.nil ?_)
    refine WE.round (k + 1) ⟨rfl, rfl, rfl, rfl, trivial⟩ ?_ ?_
    ·exact ⟨by omega, fun q hq => by
       by_cases e : q = k
       ·rw [e]; omega
       ·exact hall q (by omega), hb2⟩
    ·omega
  ·have h3 : ¬ ((((k : Nat) : Int) : Int) < (((l.length : Nat) : Int) : Int)) := by simpa using h3
   refine WC.exit (WE.thenExit (WE.thenExit (WE.blockIs rfl (WE.next (WC.seq (WC.region (WL.asg rfl rfl rfl rfl rfl (WL.nil (WE.next (WC.ret (WE.ret1 rfl rfl ?_)))))))))))
   exact ⟨_, rfl, ⟨_, rfl, ⟨fun h => absurd h (by decide), fun h => absurd h (idxN_no (fun q hq => hall q (by omega)))⟩⟩, hb2⟩
set_option maxRecDepth 100000 in
theorem ncont_any (l : List Nat) (x : Nat) (S : Nat → Prop) (w : World) (a : Option Addr) (c : Nat) (hl : InRow eltN S w l a) (hz : l.length ≤ 4294967296) : Calls Try.prog 56 #[.slice a l.length c, .int .i64 (x : Int)] w (Ret fun v' w' => v' = .bool (decide (x ∈ l)) ∧ Below w.heap.size w w') := by
 skip
 refine Calls.walk (l := [.slice a l.length c, .int .i64 (((x : Nat) : Int))]) Try.func56 rfl (by kernel_rfl) ?_
 refine WC.sub (K' := [(0, .slice a l.length c), (1, .int .i64 (((x : Nat) : Int)))]) ⟨rfl, rfl, trivial⟩ ?_
 refine WC.seq (WC.region (WL.asg rfl rfl rfl rfl rfl (WL.nil (WE.next (WC.seq (WC.region (WL.mv rfl rfl rfl rfl rfl (WL.mv rfl rfl rfl rfl rfl ?_))))))))
 refine WL.call rfl rfl rfl (fun za zh zC => wp_call (by kernel_rfl) rfl (hv2 (zh.ev rfl) (zh.ev rfl))) (nindex_any l x S _ _ _ (hl.below (Below.refl _ _)) hz) ?_
 rintro _ w1 ⟨⟨r, rfl, hr⟩, hbc⟩
 refine WL.val (.bool ((decide ((0 : Int) ≤ (r : Int))))) rfl rfl rfl (fun za zC zh zk => geq_3 rfl (zh.ev rfl) (zh.ev rfl) zk) ?_
 refine WL.asg rfl rfl rfl rfl rfl (WL.nil (WE.next (WC.ret (WE.ret1 rfl rfl ?_))))
 exact ⟨_, rfl, congrArg Value.bool (by rw [decide_eq_decide]; exact hr), hbc⟩
theorem InRow.takeN {S : Nat → Prop} {w : World} {l : List Nat} {a : Option Addr} (h : InRow eltN S w l a) (n : Nat) : InRow eltN S w (l.take n) a := fun i hi => by
 rw [List.length_take] at hi
 obtain ⟨b, o, cs, h1, h2, h3, h4⟩ := h i (by omega)
 exact ⟨b, o, cs, h1, h2, by rw [List.getElem_take]; exact h3, h4⟩
theorem ncontT_any (l : List Nat) (x n : Nat) (S : Nat → Prop) (w : World) (a : Option Addr) (c : Nat) (hl : InRow eltN S w l a) (hz : l.length ≤ 4294967296) (hn : n ≤ l.length) : Calls Try.prog 56 #[.slice a n c, .int .i64 (x : Int)] w (Ret fun v' w' => v' = .bool (decide (x ∈ l.take n)) ∧ Below w.heap.size w w') := by
 have h := ncont_any (l.take n) x S w a c (hl.takeN n) (by rw [List.length_take]; omega)
 rw [List.length_take, Nat.min_eq_left hn] at h
 exact h
end Go.Proofs.Ytbohlpfndiiimaa

/- Loops over functions, and functions that hand out one thing after the other. -/
namespace Go.Proofs.Ytbohlpfndiiimaa
open Go.RowKit Go
set_option linter.unusedVariables false
set_option linter.unusedSimpArgs false
section
variable {P : Program}
theorem wpIn_n {r : Option Nat} {n m : Nat} {c : Code} {Q : Exit → Act → World → Prop} {a : Act} {w : World} (h : c.wpIn (fen r) n P Q a w) : c.wpIn (fen r) m P Q a w := fun b k cs hro hb _ => h b k cs hro hb (fen_room _ _)
theorem callB_enters {F : FuncId} (hF : callB P F = true) (args : Array Value) (w : World) : (callFunc F args).run P w = .ok (.enter F args) w := by
  unfold callB at hF
  split at hF
  · rename_i fn hfn
    simp only [Bool.and_eq_true, Bool.not_eq_true'] at hF
    have hp : (Sem.run P program w) = .ok P w := rfl
    simp only [callFunc, Sem.run_bind, Sem.run_pure, Result.andThen_ok, hp, hfn, hF.1, hF.2, Bool.false_eq_true, if_false]
  · simp at hF
end
/-! ### Operations behind guards, one after the other -/
section
variable {P : Program} {n : Fr} {K K' : Known} {w : World} {ops : Array Oper} {o : Oper} {rest : List Oper} {Q : Exit → Act → World → Prop}
theorem wp_pickT {a : Act} {C : Act → World → Prop} {x y z : Operand} {v : Value} (ho : o.op = .pick x y z) (hx : a.eval x = .bool true) (hy : a.eval y = v) (hK : C (a.put o.dst v) w) : o.wp P a w C Q := by
  unfold Oper.wp execOp
  simp only [ho, hx, hy]
  exact hK
theorem wp_pickF {a : Act} {C : Act → World → Prop} {x y z : Operand} {v : Value} (ho : o.op = .pick x y z) (hx : a.eval x = .bool false) (hz : a.eval z = v) (hK : C (a.put o.dst v) w) : o.wp P a w C Q := by
  unfold Oper.wp execOp
  simp only [ho, hx, hz]
  exact hK
theorem WL.sub (hs : subK K' K) (h : WL P ops n K' w rest Q) : WL P ops n K w rest Q := fun a ha => h a (ha.sub hs)
theorem yielded_known {a : Act} {g d : Nat} {c : Bool} (ha : Kn n K a) (hd : (ops[g]?).bind (·.dst) = some d) (hk : look K d = some (.bool c)) : yielded ops a.tmps g = some c := by
  have := ha.knows d _ hk
  unfold yielded
  rw [hd]
  rcases Nat.lt_or_ge d a.tmps.size with h | h
  · simp only [Array.getD_eq_getD_getElem?, Array.getElem?_eq_getElem h, Option.getD_some] at this
    simp [h, this]
  · simp [Array.getD, Nat.not_lt.2 h, undef] at this
theorem WL.want {g d : Nat} {b : Bool} (hg : o.guard = some (g, b)) (hd : (ops[g]?).bind (·.dst) = some d) (hk : look K d = some (.bool b)) (h : WL P ops n K w ({ o with guard := none } :: rest) Q) : WL P ops n K w (o :: rest) Q := fun a ha => by
  have := h a ha
  unfold wpListIn at this ⊢
  have e1 : Region.wanted o (yielded ops a.tmps) = true := by unfold Region.wanted; rw [hg]; simp only [yielded_known ha hd hk]; cases b <;> rfl
  rw [if_pos e1]
  have e2 : Region.wanted { o with guard := none } (yielded ops a.tmps) = true := rfl
  rw [if_pos e2] at this
  exact this
theorem WL.skip {g d : Nat} {b c : Bool} (hg : o.guard = some (g, b)) (hd : (ops[g]?).bind (·.dst) = some d) (hk : look K d = some (.bool c)) (hne : (c == b) = false) (hlt : dstB n.n o.dst = true) (h : WL P ops n (putK K o.dst undef) w rest Q) : WL P ops n K w (o :: rest) Q := fun a ha => by
  unfold wpListIn
  have e1 : Region.wanted o (yielded ops a.tmps) = false := by unfold Region.wanted; rw [hg]; simp only [yielded_known ha hd hk]; simpa using hne
  rw [if_neg (by rw [e1]; decide)]
  exact ⟨fun f _ => fen_fn _ f, h _ (ha.puts hlt undef)⟩
end
section
variable {P : Program} {n : Fr} {K : Known} {w : World} {ops : Array Oper} {o : Oper} {rest : List Oper} {Q : Exit → Act → World → Prop}
end
/-- What is no cells may have been turned, from the block 'B' on. -/
structure Turn (B : Nat) (w w' : World) : Prop where
  os : w'.os = w.os
  tape : w'.tape = w.tape
  output : w'.output = w.output
  size : w.heap.size ≤ w'.heap.size
  block : ∀ (k : Nat) (o : Obj), w.heap[k]? = some o → (o.isCells = true ∨ k < B) → w'.heap[k]? = some o
theorem Turn.of {B : Nat} {w w' : World} {row : Option Nat} (h : w.grownBy w' row) (hr : ∀ r, row = some r → B ≤ r ∧ ∃ o : Obj, w.heap[r]? = some o ∧ o.isCells = false) : Turn B w w' :=
  ⟨h.os, h.tape, h.output, h.size, fun k o hk ho => (h.block k (Array.getElem?_eq_some_iff.1 hk).1 (fun e => by
    obtain ⟨h1, o', h2, h3⟩ := hr k e.symm
    rw [hk] at h2; obtain rfl := Option.some.inj h2
    rcases ho with ho | ho
    · rw [h3] at ho; cases ho
    · omega)).trans hk⟩
theorem below_turn {B : Nat} {w0 w w' : World} (h : Below w0.heap.size w0 w) (t : Turn B w w') (hB : w0.heap.size ≤ B) : Below w0.heap.size w0 w' :=
  ⟨t.os.trans h.os, t.tape.trans h.tape, t.output.trans h.output, Nat.le_trans h.size t.size, fun k hk => by
    have := h.block k hk
    rw [Array.getElem?_eq_getElem hk] at this ⊢
    exact t.block k _ this (.inr (by omega))⟩
theorem blk_turn {B b : Nat} {ty : TypeId} {cs : Array Value} {w w' : World} (h : Blk w b ty cs) (t : Turn B w w') : Blk w' b ty cs := t.block b _ h (.inl rfl)
/-- A walk through what a loop's round does keeps what is no cells. -/
theorem keepsFrom_below {B : Nat} {w w' : World} (h : Below w.heap.size w w') : KeepsFrom B w w' :=
  ⟨h.size, fun k o _ hk _ => (h.block k (Array.getElem?_eq_some_iff.1 hk).1).trans hk⟩
abbrev markOf (D : Nat) : Deferred := { target := .collected D, args := #[] }
/-! ### Leaving behind such loops -/
/-- The mark of such a loop. -/
def Mk (w : World) (D : Nat) : Prop := w.heap[D]? = some (.deferred (some []))
theorem Mk.lt {w : World} {D : Nat} (h : Mk w D) : D < w.heap.size := (Array.getElem?_eq_some_iff.1 h).1
theorem Mk.below {w w' : World} {D : Nat} (h : Mk w D) (hb : Below w.heap.size w w') : Mk w' D := (hb.block D h.lt).trans h
theorem Mk.upd {w w' : World} {D g : Nat} (h : Mk w D) (hu : Upd g w w') (hg : D ≠ g) : Mk w' D := (hu.block D hg).trans h
theorem Mk.chg {w w' : World} {D : Nat} {S : Nat → Prop} (h : Mk w D) (hc : Chg S w w') (hg : ¬ S D) : Mk w' D := (hc.block D h.lt hg).trans h
theorem shut_all : ∀ (Ds : List Nat) (w : World), (∀ D ∈ Ds, Mk w D) → Ds.Nodup → ∃ w', Shut (Ds.map markOf) w w' ∧ Chg (fun b => b ∈ Ds) w w' ∧ (∀ (k : Nat) (o : Obj), w.heap[k]? = some o → o.isCells = true → w'.heap[k]? = some o)
  | [], w, _, _ => ⟨w, .nil w, ⟨rfl, rfl, rfl, Nat.le_refl _, fun _ _ _ => rfl⟩, fun _ _ h _ => h⟩
  | D :: r, w, h, hn => by
    have hD := h D (by simp)
    have hlt := (Array.getElem?_eq_some_iff.1 hD).1
    have hg := grownBy_putObj' w D (.deferred none)
    obtain ⟨w', h1, h2, h3⟩ := shut_all r (w.putObj D (.deferred none)) (fun D' hD' => by
      have hne : D ≠ D' := by rintro rfl; exact (List.nodup_cons.1 hn).1 hD'
      exact (World.putObj_heap_other (Ne.symm hne)).trans (h D' (by simp [hD']))) (List.nodup_cons.1 hn).2
    refine ⟨w', .cons D hD h1, ⟨h2.os.trans hg.os, h2.tape.trans hg.tape, h2.output.trans hg.output, Nat.le_trans hg.size h2.size, fun k hk hS => ?_⟩, fun k o hk ho => ?_⟩
    · have hne : some k ≠ some D := fun e => hS (by rw [Option.some.inj e]; simp)
      exact (h2.block k (Nat.lt_of_lt_of_le hk hg.size) (fun hm => hS (by simp [hm]))).trans (hg.block k hk hne)
    · have hne : some k ≠ some D := fun e => by rw [Option.some.inj e, show w.heap[D]? = _ from hD] at hk; obtain rfl := Option.some.inj hk; cases ho
      exact h3 k o ((hg.block k (Array.getElem?_eq_some_iff.1 hk).1 hne).trans hk) ho
section
variable {P : Program} {N : Nat} {r : Option Nat} {ds : List Deferred} {K : Known} {w w' : World} {fn : Func} {R : Ending → World → Prop}
end
section
variable {P : Program} {N : Nat} {ds : List Deferred}
theorem Kn.sets {K : Known} {a : Act} (h : Kn ⟨N, ds, none⟩ K a) : ∀ {ps : List Nat} {vs : List Value}, (ps.all fun p => Nat.blt p N) = true → Kn ⟨N, ds, none⟩ ((ps.zip vs).foldl (fun K p => (p.1, p.2) :: K) K) ⟨(ps.zip vs).foldl (fun t p => t.setIfInBounds p.1 p.2) a.tmps, a.defers⟩ := by
  intro ps
  induction ps generalizing K a with
  | nil => intro vs _; exact h
  | cons p r ih =>
    intro vs hp
    cases vs with
    | nil => exact h
    | cons v vs =>
      simp only [List.all_cons, Bool.and_eq_true] at hp
      exact ih (a := a.put (some p) v) (h.put hp.1 v) hp.2
/-- The law of a loop over a function: of 'x' it hands out 'encs x' into the slots 'ps'; a round changes blocks of 'S' alone. -/
theorem WC.range {α γ : Type} {g : Operand} {ps : List Nat} {assign body : Code} {Q : Exit → Act → World → Prop} {K : Known} {w : World} (S : Nat → Prop) {gf : Nat} {lb : Array Value} (hg : ev K g = some (.func (.func gf) #[] lb)) (hF : callB P gf = true) (hp : (ps.all fun p => Nat.blt p N) = true)
    {encs : α → List Value} {Sx Sp : List α → Prop} {M : Nat} {w0 : World} (hseq : SeqStopsK Fence.wide 0 P gf lb (fun x => (encs x).toArray) (Chg S) Sx Sp M w0)
    (hS : ∀ l, w.heap.size ≤ l → S l) (hb0 : Below w0.heap.size w0 w) (hps : ∀ x, (encs x).length = ps.length)
    (KB : α → γ → Known) (AW : α → γ → World → Prop) (I : List α → World → Prop) (Ix : Code → List α → World → Prop) (hI : ∀ s W W', Turn w.heap.size W W' → I s W → I s W') (hIx : ∀ c s W W', Turn w.heap.size W W' → Ix c s W → Ix c s W')
    (hAW : ∀ x y W W', Turn w.heap.size W W' → AW x y W → AW x y W') (h0 : I [] w)
    (hassign : ∀ (l : Nat) (pre : List α) (x : α) (W : World), I pre W → WC P ⟨N, [], some l⟩ ((ps.zip (encs x)).foldl (fun K p => (p.1, p.2) :: K) K) W assign (Exit.then (fun a' W' => Below W.heap.size W W' ∧ ∃ y, Kn ⟨N, [], some l⟩ (KB x y) a' ∧ AW x y W') (fun _ _ _ => False)))
    (hbody : ∀ (l : Nat) (pre : List α) (x : α) (y : γ) (W : World), I pre W → AW x y W → pre.length < M → WC P ⟨N, [], some l⟩ (KB x y) W body (ownPostG w.heap.size (Chg S) I Ix (pre ++ [x]) W))
    (hdone : ∀ (D : Nat) (xs : List α) (W : World), w.heap.size ≤ D → Sx xs → I xs W → Mk W D → WE ⟨N, markOf D :: ds, none⟩ K W Q .normal)
    (hstop : ∀ (D : Nat) (c : Code) (pre : List α) (W : World), w.heap.size ≤ D → Sp pre → Ix c pre W → Mk W D → WC P ⟨N, markOf D :: ds, none⟩ K W c Q) :
    WC P ⟨N, ds, none⟩ K w (.rangeFunc g ps.toArray assign body) Q := by
  intro a ha
  have turn : ∀ {W W' : World} {row : Option Nat}, W.grownBy W' row → (∀ r, row = some r → w.heap.size ≤ r ∧ ∃ o : Obj, W.heap[r]? = some o ∧ o.isCells = false) → Turn w.heap.size W W' := fun h hr => Turn.of h hr
  refine wpIn_n (r := none) (n := 1) (wpIn_rangeFunc_ownH (F := Fence.wide) (n := 1) rfl (Nat.le_refl _) (ha.ev hg) trivial (callB_enters hF) (encs := fun x => (encs x).toArray) hseq (fun h k => h.trans k) (fun W l o o' hl h _ _ => ?_) hb0 (fun x => by simpa using hps x)
    I Ix (fun s W W' row h hg hr => hI s W W' (turn hg hr) h) (fun c s W W' row h hg hr => hIx c s W W' (turn hg hr) h) h0 (fun x a' W => ∃ y, Kn ⟨N, [], none⟩ (KB x y) a' ∧ AW x y W) (fun x a' s W W' row h hg hr => by
      obtain ⟨y, h1, h2⟩ := h
      exact ⟨y, h1, hAW x y W W' (turn hg hr) h2⟩) ?_ ?_ ?_ ?_)
  · have hg := grownBy_putObj' W l o'
    exact ⟨hg.os, hg.tape, hg.output, hg.size, fun k hk hn => hg.block k hk (fun e => hn (by rw [Option.some.inj e]; exact hS l hl))⟩
  · intro l pre x W C hi hC
    have ha' : Kn ⟨N, [], some l⟩ ((ps.zip (encs x)).foldl (fun K p => (p.1, p.2) :: K) K) ⟨(ps.zip (encs x)).foldl (fun t p => t.setIfInBounds p.1 p.2) a.tmps, []⟩ := by
      have h1 : Kn ⟨N, [], none⟩ K ⟨a.tmps, []⟩ := ⟨ha.size, rfl, ha.knows⟩
      have h2 := h1.sets (vs := encs x) hp
      exact ⟨h2.size, rfl, h2.knows⟩
    have e : ((ps.toArray.zip (encs x).toArray).foldl (fun t (p, v) => t.setIfInBounds p v) a.tmps) = (ps.zip (encs x)).foldl (fun t p => t.setIfInBounds p.1 p.2) a.tmps := by simp
    rw [e]
    refine wpIn_mono (hassign l pre x W hi _ ha') ?_
    intro e a1 W1 h
    cases e with
    | normal =>
      obtain ⟨hb, y, hk, hA⟩ := h
      exact hC a1 W1 (keepsFrom_below hb) (.ofBelow hb) (hI _ _ _ ⟨hb.os, hb.tape, hb.output, hb.size, fun k o hk _ => (hb.block k (Array.getElem?_eq_some_iff.1 hk).1).trans hk⟩ hi) ⟨y, ⟨hk.size, hk.defers, hk.knows⟩, hA⟩
    | _ => exact h
  · rintro l pre x a' W _ _ hi ⟨y, hk, hA⟩ hlen
    exact hbody l pre x y W hi hA hlen a' ⟨hk.size, hk.defers, hk.knows⟩
  · intro D xs W hD hs hi hw
    exact hdone D xs W hD hs hi hw _ ⟨ha.size, by rw [ha.defers], ha.knows⟩
  · intro D c pre W hD hs hi hw
    exact wpIn_n (r := none) (hstop D c pre W hD hs hi hw _ ⟨ha.size, by rw [ha.defers], ha.knows⟩)
end
/-! ### The other side: a function that hands out -/
/-- What has been handed out, as the loop knows it. -/
structure Had {β : Type} (B : Nat) (J : List β → World → Prop) (pre : List β) (w : World) : Prop where
  abide : AbidesFrom B J
  now : J pre w
theorem grown_of_below {w w' : World} (h : Below w.heap.size w w') : w.grownBy w' none := ⟨h.os, h.tape, h.output, h.size, fun k hk _ => h.block k hk⟩
theorem Had.below {β : Type} {B : Nat} {J : List β → World → Prop} {pre : List β} {w w' : World} (h : Had B J pre w) (hb : Below w.heap.size w w') : Had B J pre w' :=
  ⟨h.abide, h.abide pre w w' none h.now (grown_of_below hb) (fun r e => by cases e)⟩
/-- What a loop's round owes the function that hands out. -/
def Round {β : Type} (P : Program) (l : Nat) (encs : β → List Value) (Kp : World → World → Prop) (M : Nat) (J Jx : List β → World → Prop) : Prop :=
  ∀ pre x W1, J pre W1 → pre.length < M → YieldAt Fence.wide 0 P l (encs x).toArray W1 fun e W' =>
    (e = .returned (.bool true) ∧ J (pre ++ [x]) W' ∧ Kp W1 W') ∨ (e = .returned (.bool false) ∧ Jx (pre ++ [x]) W')
section
variable {P : Program} {w : World} {a : Act} {Q : Exit → Act → World → Prop} {o : Oper}
theorem roundIn_fen {r : Option Nat} {n m l : Nat} {f : FuncId} {tmps : Array Value} {assign body : Code} {R : Ending → World → Prop} (h : RoundIn Fence.wide n P l f tmps assign body w R) : RoundIn (fen r) m P l f tmps assign body w R := by
  refine ⟨fen_fn _ _, fun c cs _ => ?_⟩
  obtain ⟨e, w', q, s⟩ := h.2 c cs (room_wide _)
  refine ⟨e, w', q, ?_⟩
  cases r with
  | none => exact s
  | some k => exact s
/-- The call of what a loop hands in. -/
theorem wp_yield {r : Option Nat} {l : Nat} {f : Operand} {xs : Array Operand} {tys : Array TypeId} {vs : Array Value} {R : Ending → World → Prop} {K : Act → World → Prop} (ho : o.op = .call { callee := .value f, args := xs, argTypes := tys }) (hf : a.eval f = .func (.yield l) #[] #[]) (hv : xs.map a.eval = vs)
    (h : YieldAt Fence.wide 0 P l vs w R) (hK : ∀ e w', R e w' → ∃ v, e = .returned v ∧ K (a.put o.dst v) w') : o.wpIn (fen r) 0 P a w K Q := by
  obtain ⟨fn, tmps, assign, body, hy, hr⟩ := h
  refine ⟨fun f _ => fen_fn r f, ?_⟩
  rw [fen_round, Oper.semAt_eq _ _ _ (fun c hc => by rw [ho] at hc; cases hc)]
  unfold execOp
  simp only [ho, resolve, hv, hf, Deferred.ofValue, invoke, Sem.run_bind, Sem.run_pure, Result.andThen_ok, Array.empty_append, Array.append_empty, hy]
  refine ⟨fun e => (by rw [fen_depth] at e; cases e), (roundIn_fen hr).mono ?_⟩
  intro e w' hR
  obtain ⟨v, rfl, hk⟩ := hK e w' hR
  exact hk
end
/-- The contract of a function that hands out, out of its walk. -/
theorem seq_walk {P : Program} {β : Type} {gf : Nat} {fn : Func} {c : Code} {lb : List Value} {encs : β → List Value} {Kp : World → World → Prop} {S Sp : List β → Prop} {M : Nat} {w0 : World} (hf : P.funcs[gf]? = some fn) (hb : fn.body = some c) (hl : Nat.ble (lb.length + 1) fn.ntmps = true)
    (h : ∀ (l : Nat) (J Jx : List β → World → Prop) (w : World), Below w0.heap.size w0 w → Round P l encs Kp M J Jx → Had w.heap.size J [] w → AbidesFrom w.heap.size Jx →
      WC P ⟨fn.ntmps, [], none⟩ (paramsK 0 (.func (.yield l) #[] #[] :: lb)) w c (bodyPostW P fn fun e W' => (∃ v, e = .returned v) ∧ ((∃ xs, S xs ∧ J xs W') ∨ (∃ pre, Sp pre ∧ Jx pre W')))) :
    SeqStopsK Fence.wide 0 P gf lb.toArray (fun x => (encs x).toArray) Kp S Sp M w0 := by
  intro l J Jx W hW hJ hJx hY h0
  have := h l J Jx W hW hY ⟨hJ, h0⟩ hJx
  have e : #[.func (.yield l) #[] #[]] ++ lb.toArray = (.func (.yield l) #[] #[] :: lb).toArray := by simp
  rw [e]
  exact callsIn_of_wp_marks (n := 0) hf hb trivial (this _ (Kn.enter (Nat.le_of_ble_eq_true (by simpa using hl))))
end Go.Proofs.Ytbohlpfndiiimaa

/- Loops over functions that lay boxes of their own: a round leaves all cells outside 'S' as they are. -/
namespace Go.Proofs.Ytbohlpfndiiimaa
open Go.RowKit Go
set_option linter.unusedVariables false
set_option linter.unusedSimpArgs false
/-- What is cells, outside 'S', stays; so does all below 'B', outside 'S'. -/
structure Kpt (S : Nat → Prop) (B : Nat) (w w' : World) : Prop where
  os : w'.os = w.os
  tape : w'.tape = w.tape
  output : w'.output = w.output
  size : w.heap.size ≤ w'.heap.size
  block : ∀ (k : Nat) (o : Obj), w.heap[k]? = some o → (o.isCells = true ∨ k < B) → ¬ S k → w'.heap[k]? = some o
section
variable {S : Nat → Prop} {B : Nat} {w w' w'' : World}
theorem Kpt.refl : Kpt S B w w := ⟨rfl, rfl, rfl, Nat.le_refl _, fun _ _ h _ _ => h⟩
theorem Kpt.trans (h : Kpt S B w w') (k : Kpt S B w' w'') : Kpt S B w w'' :=
  ⟨k.os.trans h.os, k.tape.trans h.tape, k.output.trans h.output, Nat.le_trans h.size k.size, fun i o hi ho hS => k.block i o (h.block i o hi ho hS) ho hS⟩
theorem Kpt.ofChg (h : Chg S w w') : Kpt S B w w' := ⟨h.os, h.tape, h.output, h.size, fun k o hk _ hS => (h.block k (Array.getElem?_eq_some_iff.1 hk).1 hS).trans hk⟩
theorem Kpt.ofBelow (h : Below w.heap.size w w') : Kpt S B w w' := Kpt.ofChg (.ofBelow h)
theorem Kpt.put {l : Nat} {o o' : Obj} (hl : B ≤ l) (h : w.heap[l]? = some o) (ho : o.isCells = false) : Kpt S B w (w.putObj l o') := by
  have hg := grownBy_putObj' w l o'
  refine ⟨hg.os, hg.tape, hg.output, hg.size, fun k u hk hu hS => (hg.block k (Array.getElem?_eq_some_iff.1 hk).1 (fun e => ?_)).trans hk⟩
  obtain rfl : k = l := Option.some.inj e
  rw [h] at hk; obtain rfl := Option.some.inj hk
  rcases hu with hu | hu
  · rw [ho] at hu; cases hu
  · omega
theorem Kpt.blk {b : Nat} {t : TypeId} {cs : Array Value} (k : Kpt S B w w') (h : Blk w b t cs) (hS : ¬ S b) : Blk w' b t cs := k.block b _ h (.inl rfl) hS
theorem Kpt.below {w0 : World} (k : Kpt S B w w') (h : Below w0.heap.size w0 w) (hB : w0.heap.size ≤ B) (hS : ∀ b, b < w0.heap.size → ¬ S b) : Below w0.heap.size w0 w' :=
  ⟨k.os.trans h.os, k.tape.trans h.tape, k.output.trans h.output, Nat.le_trans h.size k.size, fun i hi => by
    have := h.block i hi
    rw [Array.getElem?_eq_getElem hi] at this ⊢
    exact k.block i _ this (.inr (by omega)) (hS i hi)⟩
theorem Kpt.cell {p : Addr} {v : Value} (k : Kpt S B w w') (hS : ¬ S p.block) (h : w.cell? p = some v) : w'.cell? p = some v := by
  have hlt := World.block_lt_of_cell? _ _ h
  have hh := h
  unfold World.cell? at h ⊢
  rw [Array.getElem?_eq_getElem hlt] at h
  have hc : (w.heap[p.block]).isCells = true := by
    cases hx : w.heap[p.block] with
    | cells a b c => rfl
    | _ => simp [hx] at h
  rw [k.block p.block _ (Array.getElem?_eq_getElem hlt) (.inl hc) hS]
  exact h
end
section
variable {P : Program} {N : Nat} {ds : List Deferred}
end
structure Marks (B : Nat) (w : World) (l : List Nat) : Prop where
  nodup : l.Nodup
  at_ : ∀ D, D ∈ l → B ≤ D ∧ Mk w D
section
variable {B : Nat} {w w' : World} {l : List Nat}
theorem Marks.nil : Marks B w [] := ⟨List.nodup_nil, fun D h => by simp at h⟩
theorem Marks.base (h : Marks B w l) {D : Nat} (hD : D ∈ l) : B ≤ D := (h.at_ D hD).1
theorem Marks.lt (h : Marks B w l) {D : Nat} (hD : D ∈ l) : D < w.heap.size := (h.at_ D hD).2.lt
theorem Marks.below (h : Marks B w l) (hb : Below w.heap.size w w') : Marks B w' l := ⟨h.nodup, fun D hD => ⟨h.base hD, (h.at_ D hD).2.below hb⟩⟩
theorem Marks.upd {g : Nat} (h : Marks B w l) (hu : Upd g w w') (hg : ∃ o : Obj, w.heap[g]? = some o ∧ o.isCells = true) : Marks B w' l := ⟨h.nodup, fun D hD => ⟨h.base hD, (h.at_ D hD).2.upd hu (fun e => by
  obtain ⟨o, h1, h2⟩ := hg
  have h3 := (h.at_ D hD).2
  subst e
  unfold Mk at h3
  rw [h1] at h3
  obtain rfl := Option.some.inj h3
  cases h2)⟩⟩
theorem Marks.chg {S : Nat → Prop} (h : Marks B w l) (hc : Chg S w w') (hS : ∀ D, D ∈ l → ¬ S D) : Marks B w' l := ⟨h.nodup, fun D hD => ⟨h.base hD, (h.at_ D hD).2.chg hc (hS D hD)⟩⟩
theorem Marks.turn {Bt : Nat} (h : Marks B w l) (t : Turn Bt w w') (hl : ∀ D, D ∈ l → D < Bt) : Marks B w' l := ⟨h.nodup, fun D hD => ⟨h.base hD, t.block D _ (h.at_ D hD).2 (.inr (hl D hD))⟩⟩
theorem Marks.cons {D : Nat} (h : Marks B w l) (hw : Mk w D) (hB : B ≤ D) (hn : ∀ D', D' ∈ l → D' < D) : Marks B w (D :: l) :=
  ⟨List.nodup_cons.2 ⟨fun q => Nat.lt_irrefl _ (hn D q), h.nodup⟩, fun D' hD' => by
    rcases List.mem_cons.1 hD' with rfl | q
    · exact ⟨hB, hw⟩
    · exact h.at_ D' q⟩
end
section
variable {P : Program} {n : Fr} {K : Known} {w : World} {c : Code} {Q : Exit → Act → World → Prop}
end
end Go.Proofs.Ytbohlpfndiiimaa

/- A row of terms whose blocks are told, opened once. -/
namespace Go.Proofs.Ytbohlpfndiiimaa
open Go.RowKit Go
set_option linter.unusedVariables false
set_option linter.unusedSimpArgs false
theorem InTs.open {S : Nat → Prop} {w : World} {l : List T} {a : Option Addr} (h : InTs S w l a 0) : ∃ (b o : Nat) (A : Nat → Option Addr) (C : Nat → Nat), (∀ k, k < l.length → a = some ⟨b, o, none⟩) ∧
    ∀ k, k < l.length → w.cell? ⟨b, o + k * 2, none⟩ = some (.int .i64 (tget l k).f) ∧ w.cell? ⟨b, o + k * 2 + 1, none⟩ = some (.slice (A k) (tget l k).args.length (C k)) ∧ InT S w (tget l k) (.agg #[.int .i64 (tget l k).f, .slice (A k) (tget l k).args.length (C k)]) := by
  have key : ∀ k, k < l.length → ∃ (b o : Nat) (A : Option Addr) (C : Nat), a = some ⟨b, o, none⟩ ∧ w.cell? ⟨b, o + k * 2, none⟩ = some (.int .i64 (tget l k).f) ∧ w.cell? ⟨b, o + k * 2 + 1, none⟩ = some (.slice A (tget l k).args.length C) ∧ InT S w (tget l k) (.agg #[.int .i64 (tget l k).f, .slice A (tget l k).args.length C]) := by
    intro k hk
    obtain ⟨b, o, u, v, e, _, h1, h2, h3⟩ := h.at0 k hk
    rw [tget_lt hk]
    obtain ⟨_, A, C, e2, _⟩ := h3.form
    simp only [Value.agg.injEq, Array.mk.injEq, List.cons.injEq, and_true] at e2
    obtain ⟨rfl, rfl⟩ := e2
    rw [Nat.zero_add] at h1 h2
    exact ⟨b, o, A, C, e, h1, h2, h3⟩
  rcases Nat.eq_zero_or_pos l.length with h0 | h0
  · exact ⟨0, 0, fun _ => none, fun _ => 0, fun k hk => by omega, fun k hk => by omega⟩
  · obtain ⟨b, o, _, _, e, _⟩ := key 0 h0
    have key2 : ∀ k, ∃ (A : Option Addr) (C : Nat), k < l.length → w.cell? ⟨b, o + k * 2, none⟩ = some (.int .i64 (tget l k).f) ∧ w.cell? ⟨b, o + k * 2 + 1, none⟩ = some (.slice A (tget l k).args.length C) ∧ InT S w (tget l k) (.agg #[.int .i64 (tget l k).f, .slice A (tget l k).args.length C]) := by
      intro k
      by_cases hk : k < l.length
      · obtain ⟨b', o', A, C, e', h1, h2, h3⟩ := key k hk
        rw [e] at e'
        simp only [Option.some.injEq, Addr.mk.injEq, and_true] at e'
        obtain ⟨rfl, rfl⟩ := e'
        exact ⟨A, C, fun _ => ⟨h1, h2, h3⟩⟩
      · exact ⟨none, 0, fun h => absurd h hk⟩
    refine ⟨b, o, fun k => Classical.choose (key2 k), fun k => Classical.choose (Classical.choose_spec (key2 k)), fun _ _ => e, fun k hk => Classical.choose_spec (Classical.choose_spec (key2 k)) hk⟩
end Go.Proofs.Ytbohlpfndiiimaa

/- Literals, clauses: how they lie in memory. -/
namespace Go.Proofs.Ytbohlpfndiiimaa
open Go.RowKit Go
set_option linter.unusedVariables false
set_option linter.unusedSimpArgs false
/-- A literal. -/
structure Li where
  neg : Bool
  l : T
  r : T
instance : Inhabited Li := ⟨⟨false, .mk 0 [], .mk 0 []⟩⟩
def Li.size (x : Li) : Nat := x.l.size + x.r.size
theorem InT.parts {S : Nat → Prop} {w : World} {t : T} {u v : Value} (h : InT S w t (.agg #[u, v])) : ∃ (a : Option Addr) (c : Nat), u = .int .i64 t.f ∧ v = .slice a t.args.length c := by
  obtain ⟨_, a, c, e, _⟩ := h.form
  simp only [Value.agg.injEq, Array.mk.injEq, List.cons.injEq, and_true] at e
  exact ⟨a, c, e.1, e.2⟩
def eltL : Elt Li where
  k := 5
  In := fun S w x cs => ∃ u1 u2 u3 u4, cs = [.bool x.neg, u1, u2, u3, u4] ∧ InT S w x.l (.agg #[u1, u2]) ∧ InT S w x.r (.agg #[u3, u4])
  keep := fun hb ⟨u1, u2, u3, u4, e, h0, h⟩ => ⟨u1, u2, u3, u4, e, h0.keep hb, h.keep hb⟩
  mono := fun hb ⟨u1, u2, u3, u4, e, h0, h⟩ => ⟨u1, u2, u3, u4, e, h0.mono hb, h.mono hb⟩
  len := fun ⟨_, _, _, _, e, _⟩ => by rw [e]; rfl
  one := fun ⟨u1, u2, u3, u4, e, h0, h⟩ x hx => by
    obtain ⟨a1, c1, rfl, rfl⟩ := h0.parts
    obtain ⟨a2, c2, rfl, rfl⟩ := h.parts
    rw [e] at hx
    simp only [List.mem_cons, List.not_mem_nil, or_false] at hx
    rcases hx with rfl | rfl | rfl | rfl | rfl <;> rfl
/-- A clause that came in. -/
abbrev IsLs (w : World) (l : List Li) (a : Option Addr) : Prop := InRow eltL (fun _ => True) w l a
/-- A clause that came in: it lies in memory, is no longer than that, its terms are no larger. -/
structure IsCl (w : World) (s : List Li) (a : Option Addr) (c : Nat) : Prop where
  rows : IsLs w s a
  len : s.length ≤ c
  cap : c ≤ maxLen
  small : s.length ≤ 4294967296
  partsL : ∀ b ∈ s, b.l.size ≤ 4294967296
  partsR : ∀ b ∈ s, b.r.size ≤ 4294967296
theorem IsCl.below {w w' : World} {s : List Li} {a : Option Addr} {c : Nat} (h : IsCl w s a c) (hb : Below w.heap.size w w') : IsCl w' s a c := ⟨h.rows.below hb, h.len, h.cap, h.small, h.partsL, h.partsR⟩
/-- A literal in memory. -/
def IsLi (w : World) (x : Li) (v : Value) : Prop := ∃ u1 u2 u3 u4, v = .agg #[.bool x.neg, u1, u2, u3, u4] ∧ IsT w x.l (.agg #[u1, u2]) ∧ IsT w x.r (.agg #[u3, u4])
theorem IsLi.below {w w' : World} {x : Li} {v : Value} (hb : Below w.heap.size w w') (h : IsLi w x v) : IsLi w' x v := by
  obtain ⟨u1, u2, u3, u4, e, h1, h2⟩ := h
  exact ⟨u1, u2, u3, u4, e, h1.below hb, h2.below hb⟩
theorem IsLi.form {w : World} {x : Li} {v : Value} (h : IsLi w x v) : ∃ (a1 a2 : Option Addr) (c1 c2 : Nat), v = .agg #[.bool x.neg, .int .i64 x.l.f, .slice a1 x.l.args.length c1, .int .i64 x.r.f, .slice a2 x.r.args.length c2] ∧
    IsT w x.l (.agg #[.int .i64 x.l.f, .slice a1 x.l.args.length c1]) ∧ IsT w x.r (.agg #[.int .i64 x.r.f, .slice a2 x.r.args.length c2]) := by
  obtain ⟨u1, u2, u3, u4, e, h1, h2⟩ := h
  obtain ⟨p1, q1, rfl, rfl⟩ := h1.cells
  obtain ⟨p2, q2, rfl, rfl⟩ := h2.cells
  exact ⟨p1, p2, q1, q2, e, h1, h2⟩
/-- A literal in memory, made since. -/
def NewL (w0 w : World) (x : Li) (v : Value) : Prop := ∃ u1 u2 u3 u4, v = .agg #[.bool x.neg, u1, u2, u3, u4] ∧ InT (fun b => w0.heap.size ≤ b) w x.l (.agg #[u1, u2]) ∧ InT (fun b => w0.heap.size ≤ b) w x.r (.agg #[u3, u4])
/-- A literal in memory, in blocks of 'S'. -/
def LiIn (S : Nat → Prop) (w : World) (x : Li) (v : Value) : Prop := ∃ u1 u2 u3 u4, v = .agg #[.bool x.neg, u1, u2, u3, u4] ∧ InT S w x.l (.agg #[u1, u2]) ∧ InT S w x.r (.agg #[u3, u4])
theorem LiIn.keep {S : Nat → Prop} {w w' : World} {x : Li} {v : Value} (hb : ∀ (p : Addr) (y : Value), S p.block → w.cell? p = some y → w'.cell? p = some y) (h : LiIn S w x v) : LiIn S w' x v := by
  obtain ⟨u1, u2, u3, u4, e, h1, h2⟩ := h
  exact ⟨u1, u2, u3, u4, e, h1.keep hb, h2.keep hb⟩
theorem LiIn.mono {S S' : Nat → Prop} {w : World} {x : Li} {v : Value} (hb : ∀ b, S b → b < w.heap.size → S' b) (h : LiIn S w x v) : LiIn S' w x v := by
  obtain ⟨u1, u2, u3, u4, e, h1, h2⟩ := h
  exact ⟨u1, u2, u3, u4, e, h1.mono hb, h2.mono hb⟩
theorem LiIn.parts {S : Nat → Prop} {w : World} {x : Li} {v : Value} (h : LiIn S w x v) : ∃ (a1 a2 : Option Addr) (c1 c2 : Nat), v = .agg #[.bool x.neg, .int .i64 x.l.f, .slice a1 x.l.args.length c1, .int .i64 x.r.f, .slice a2 x.r.args.length c2] := by
  obtain ⟨u1, u2, u3, u4, e, h1, h2⟩ := h
  obtain ⟨p1, q1, rfl, rfl⟩ := h1.parts
  obtain ⟨p2, q2, rfl, rfl⟩ := h2.parts
  exact ⟨p1, p2, q1, q2, e⟩
theorem NewL.below {w0 w w' : World} {x : Li} {v : Value} (h : NewL w0 w x v) (hb : Below w.heap.size w w') : NewL w0 w' x v := by
  obtain ⟨u1, u2, u3, u4, e, h1, h2⟩ := h
  exact ⟨u1, u2, u3, u4, e, h1.below hb, h2.below hb⟩
theorem NewL.chg {S : Nat → Prop} {w0 w w' : World} {x : Li} {v : Value} (h : NewL w0 w x v) (hc : Chg S w w') (hS : ∀ b, w0.heap.size ≤ b → ¬ S b) : NewL w0 w' x v := by
  obtain ⟨u1, u2, u3, u4, e, h1, h2⟩ := h
  exact ⟨u1, u2, u3, u4, e, h1.chg hc hS, h2.chg hc hS⟩
theorem NewL.parts {w0 w : World} {x : Li} {v : Value} (h : NewL w0 w x v) : ∃ (a1 a2 : Option Addr) (c1 c2 : Nat), v = .agg #[.bool x.neg, .int .i64 x.l.f, .slice a1 x.l.args.length c1, .int .i64 x.r.f, .slice a2 x.r.args.length c2] := by
  obtain ⟨u1, u2, u3, u4, e, h1, h2⟩ := h
  obtain ⟨p1, q1, rfl, rfl⟩ := h1.parts
  obtain ⟨p2, q2, rfl, rfl⟩ := h2.parts
  exact ⟨p1, p2, q1, q2, e⟩
/-- A box in which a new literal lies. -/
def LiBox (w0 w : World) (g ty : Nat) (x : Li) : Prop := ∃ (a1 a2 : Option Addr) (c1 c2 : Nat), Blk w g ty #[.bool x.neg, .int .i64 x.l.f, .slice a1 x.l.args.length c1, .int .i64 x.r.f, .slice a2 x.r.args.length c2] ∧ NewL w0 w x (.agg #[.bool x.neg, .int .i64 x.l.f, .slice a1 x.l.args.length c1, .int .i64 x.r.f, .slice a2 x.r.args.length c2])
theorem LiBox.below {w0 w w' : World} {g ty : Nat} {x : Li} (h : LiBox w0 w g ty x) (hb : Below w.heap.size w w') : LiBox w0 w' g ty x := by
  obtain ⟨a1, a2, c1, c2, h1, h2⟩ := h
  exact ⟨a1, a2, c1, c2, h1.below hb, h2.below hb⟩
/-- A clause in memory, made since. -/
def NewC (w0 w : World) (l : List Li) (a : Option Addr) (c : Nat) : Prop := InRow eltL (fun b => w0.heap.size ≤ b) w l a ∧ l.length ≤ c ∧ c ≤ maxLen
theorem NewC.below {w0 w w' : World} {l : List Li} {a : Option Addr} {c : Nat} (h : NewC w0 w l a c) (hb : Below w.heap.size w w') : NewC w0 w' l a c := ⟨h.1.below hb, h.2⟩
end Go.Proofs.Ytbohlpfndiiimaa

/- Terms, literals, clauses that are built in a region: what is known of each. -/
namespace Go.Proofs.Ytbohlpfndiiimaa
open Go.RowKit Go
set_option linter.unusedVariables false
set_option linter.unusedSimpArgs false
/-- The value is a row of terms. -/
def RowT (l : List T) (v : Value) (w : World) : Prop := ∃ (a : Option Addr) (c : Nat), v = .slice a l.length c ∧ l.length ≤ c ∧ c ≤ maxLen ∧ IsTs w l a 0
theorem RowT.below {l : List T} {v : Value} {w w' : World} (hb : Below w.heap.size w w') (h : RowT l v w) : RowT l v w' := by
  obtain ⟨a, c, e, h1, h2, h3⟩ := h
  exact ⟨a, c, e, h1, h2, h3.below hb⟩
theorem RowT.nil {w : World} : RowT [] (.slice none 0 0) w := ⟨none, 0, rfl, Nat.le_refl _, Nat.zero_le _, trivial⟩
/-- The value is a clause. -/
def RowC (l : List Li) (v : Value) (w : World) : Prop := ∃ (a : Option Addr) (c : Nat), v = .slice a l.length c ∧ IsCl w l a c
theorem RowC.below {l : List Li} {v : Value} {w w' : World} (hb : Below w.heap.size w w') (h : RowC l v w) : RowC l v w' := by
  obtain ⟨a, c, e, h1⟩ := h
  exact ⟨a, c, e, h1.below hb⟩
end Go.Proofs.Ytbohlpfndiiimaa

/- Regions in whatever order: a call that makes something, calls that read it, a new box into which one value is stored. -/
namespace Go.Proofs.Ytbohlpfndiiimaa
open Go.RowKit Go
set_option linter.unusedVariables false
def ycells : Value → Array Value
  | .agg cs => cs
  | v => #[v]
section
variable {w0 w w' : World} {t g : Nat} {z : Array Value} {y : Value} {x va vp : Option Value} {P1 : World → Value → Prop}
/-- What was made; a box: new, behind 'w0'; empty, or the value lies in it. What was made stands, as long as nothing is stored. -/
structure B1S (w0 : World) (P1 : World → Value → Prop) (t : Nat) (z : Array Value) (y : Value) (x va vp : Option Value) (w : World) : Prop where
  below : Below w0.heap.size w0 w
  md : vp = none → ∀ v, x = some v → P1 w v
  box : ∀ v, va = some v → ∃ g, v = .pointer (some ⟨g, 0, none⟩) ∧ w0.heap.size ≤ g ∧ Blk w g t (if vp = none then z else ycells y)
  pa : va = none → vp = none
def B1G (w0 : World) (P1 : World → Value → Prop) (t : Nat) (z : Array Value) (y : Value) : List (Option Value) → World → Prop
  | [x, va, vp], w => B1S w0 P1 t z y x va vp w
  | _, _ => False
theorem B1S.step (k1 : ∀ w w' v, Below w.heap.size w w' → P1 w v → P1 w' v) (h : B1S w0 P1 t z y x va vp w) (hb : Below w.heap.size w w') : B1S w0 P1 t z y x va vp w' :=
  ⟨bstep h.below hb, fun e v hv => k1 _ _ _ hb (h.md e v hv), fun v hv => by
    obtain ⟨g, e, h1, h2⟩ := h.box v hv
    exact ⟨g, e, h1, h2.below hb⟩, h.pa⟩
theorem B1S.call (k1 : ∀ w w' v, Below w.heap.size w w' → P1 w v → P1 w' v) {v : Value} (h : B1S w0 P1 t z y none va vp w) (hb : Below w.heap.size w w') (hv : P1 w' v) : B1S w0 P1 t z y (some v) va vp w' :=
  ⟨bstep h.below hb, fun _ u hu => by obtain rfl := Option.some.inj hu; exact hv, (h.step k1 hb).box, h.pa⟩
theorem B1S.alloc (k1 : ∀ w w' v, Below w.heap.size w w' → P1 w v → P1 w' v) (h : B1S w0 P1 t z y x none vp w) : B1S w0 P1 t z y x (some (.pointer (some ⟨w.heap.size, 0, none⟩))) vp (w.alloc (.cells z t)) := by
  have hp := h.pa rfl
  subst hp
  have hst := h.step k1 (balloc w (.cells z t))
  exact ⟨hst.below, hst.md, fun v hv => ⟨_, (Option.some.inj hv).symm, h.below.size, Blk.new' rfl⟩, fun e => by cases e⟩
theorem B1S.store {q : Value} (h : B1S w0 P1 t z y x (some (.pointer (some ⟨g, 0, none⟩))) none w) (hu : Upd g w w') (hB : Blk w' g t (ycells y)) : B1S w0 P1 t z y x (some (.pointer (some ⟨g, 0, none⟩))) (some q) w' := by
  obtain ⟨g', e, h1, h2⟩ := h.box _ rfl
  simp only [Value.pointer.injEq, Option.some.injEq, Addr.mk.injEq, and_true] at e
  subst e
  exact ⟨upd_below h.below hu h1, fun e => (by cases e), fun v hv => ⟨g, (Option.some.inj hv).symm, h1, by rw [if_neg (by simp)]; exact hB⟩, fun e => (by cases e)⟩
end
section
variable {P : Program} {ops : Array Oper} {P1 : World → Value → Prop}
def valR1 (l : List (Bool × Value)) (i : Nat) (v : Value) : Prop := (l.getD i (true, undef)).1 = true → v = (l.getD i (true, undef)).2
structure CtxB1 (ops : Array Oper) (l : List (Bool × Value)) (P1 : World → Value → Prop) (ic ip : Nat) (chain : List Nat) (n : Fr) (K : Known) (w0 : World) (i : Nat) (o : Oper) (a : Act) (w : World) : Prop where
  below : Below w0.heap.size w0 w
  kn : Kn n K a
  dep : ∀ j d, depB ops o j d = true → chain.contains j = false → valR1 l j (a.tmps.getD d undef)
  made : ∀ d, depB ops o ic d = true → (ancL ops ip).contains i = true → P1 w (a.tmps.getD d undef)
/-- Each operation: one that yields what is listed (it may make memory); the call; the new box; the store. -/
def SoundB1 (P : Program) (ops : Array Oper) (Q : Exit → Act → World → Prop) (l : List (Bool × Value)) (n : Fr) (K : Known) (w0 : World) (P1 : World → Value → Prop) (t : Nat) (z : Array Value) (y : Value) (ic ia ip : Nat) : Nat → List Oper → Prop
  | _, [] => True
  | i, o :: r => (([ic, ia, ip].contains i = false ∧ o.guard = none ∧
        (∀ a w, CtxB1 ops l P1 ic ip [ic, ia, ip] n K w0 i o a w → o.wp P a w (fun a' w' => ∃ v, a' = Act.put a o.dst v ∧ Below w.heap.size w w' ∧ valR1 l i v) Q)) ∨
      (i = ic ∧ o.guard = none ∧ ∀ a w, CtxB1 ops l P1 ic ip [ic, ia, ip] n K w0 i o a w → o.wp P a w (fun a' w' => ∃ v, a' = Act.put a o.dst v ∧ Below w.heap.size w w' ∧ P1 w' v) Q) ∨
      (i = ia ∧ o.guard = none ∧ ∀ a w, CtxB1 ops l P1 ic ip [ic, ia, ip] n K w0 i o a w → o.wp P a w (fun a' w' => a' = Act.put a o.dst (.pointer (some ⟨w.heap.size, 0, none⟩)) ∧ w' = w.alloc (.cells z t)) Q) ∨
      (i = ip ∧ o.guard = none ∧ ∃ dp, depB ops o ia dp = true ∧ ∀ a w g, CtxB1 ops l P1 ic ip [ic, ia, ip] n K w0 i o a w → a.tmps.getD dp undef = .pointer (some ⟨g, 0, none⟩) → Blk w g t z → o.wp P a w (fun a' w' => ∃ v, a' = Act.put a o.dst v ∧ Upd g w w' ∧ Blk w' g t (ycells y)) Q)) ∧ SoundB1 P ops Q l n K w0 P1 t z y ic ia ip (i + 1) r
theorem SoundB1.gen (k1 : ∀ w w' v, Below w.heap.size w w' → P1 w v → P1 w' v) {Q : Exit → Act → World → Prop} {l : List (Bool × Value)} {n : Fr} {K : Known} {w0 : World} {t : Nat} {z : Array Value} {y : Value} {ic ia ip : Nat} : ∀ {lo : List Oper} {i : Nat}, SoundB1 P ops Q l n K w0 P1 t z y ic ia ip i lo →
    SoundFromG P ops Q [ic, ia, ip] (fun i v _ => valR1 l i v) (fun _ _ => True) (B1G w0 P1 t z y) n K i lo
  | [], _, _ => trivial
  | o :: r, i, ⟨h, hr⟩ => by
    refine ⟨?_, hr.gen k1⟩
    have mk : ∀ {a : Act} {w : World} {vs : List (Option Value)} (_ : CtxG ops [ic, ia, ip] (fun i v _ => valR1 l i v) (B1G w0 P1 t z y) n K i o a w vs), CtxB1 ops l P1 ic ip [ic, ia, ip] n K w0 i o a w := by
      intro a w vs C
      refine ⟨?_, C.kn, C.dep, fun d hd ha => ?_⟩
      · match vs, C.len, C.now with
        | [x, va, vp], _, hG => exact B1S.below hG
      · have e0 := C.link 0 ic d rfl hd
        have e1 := C.mostT 2 ip rfl ha
        match vs, C.len, e0, e1, C.now with
        | [x, va, vp], _, e0, e1, hG =>
          simp only [List.getElem?_cons_zero, List.getElem?_cons_succ, Option.some.injEq] at e0 e1
          subst e0 e1
          exact B1S.md hG rfl _ rfl
    rcases h with ⟨h1, h2, h3⟩ | ⟨rfl, h1, h2⟩ | ⟨rfl, h1, h2⟩ | ⟨rfl, h1, dp, h2, h3⟩
    · refine .inl ⟨h1, true, .none h2, fun g b hb => by (rw [h2] at hb; cases hb), fun e => (by cases e), fun _ a w vs C => ?_⟩
      refine Oper.wpIn_mono ?_ (wpIn_of (h3 a w (mk C)) (by rintro a' w' ⟨v, rfl, _⟩; exact put_defers _ _ _))
      rintro a' w' ⟨v, rfl, hb, hv⟩
      refine ⟨v, rfl, trivial, ?_, hv⟩
      match vs, C.len, C.now with
      | [x, va, vp], _, hG => exact B1S.step k1 hG hb
    · refine .inr ⟨0, rfl, h1, fun a w vs C hn => ?_⟩
      refine Oper.wpIn_mono ?_ (wpIn_of (h2 a w (mk C)) (by rintro a' w' ⟨v, rfl, _⟩; exact put_defers _ _ _))
      rintro a' w' ⟨v, rfl, hb, hv⟩
      match vs, C.len, hn, C.now with
      | [x, va, vp], _, hn, hG =>
        simp only [List.getElem?_cons_zero, Option.some.injEq] at hn
        subst hn
        exact ⟨_, rfl, trivial, B1S.call k1 hG hb hv⟩
    · refine .inr ⟨1, rfl, h1, fun a w vs C hn => ?_⟩
      refine Oper.wpIn_mono ?_ (wpIn_of (h2 a w (mk C)) (by rintro a' w' ⟨rfl, _⟩; exact put_defers _ _ _))
      rintro a' w' ⟨rfl, rfl⟩
      match vs, C.len, hn, C.now with
      | [x, va, vp], _, hn, hG =>
        simp only [List.getElem?_cons_zero, List.getElem?_cons_succ, Option.some.injEq] at hn
        subst hn
        exact ⟨_, rfl, trivial, B1S.alloc k1 hG⟩
    · refine .inr ⟨2, rfl, h1, fun a w vs C hn => ?_⟩
      have e0 := C.link 1 ia dp rfl h2
      match vs, C.len, hn, e0, C.now, C with
      | [x, va, vp], _, hn, e0, hG, C =>
        simp only [List.getElem?_cons_zero, List.getElem?_cons_succ, Option.some.injEq] at hn e0
        subst hn e0
        have hG' : B1S w0 P1 t z y x (some (a.tmps.getD dp undef)) none w := hG
        obtain ⟨g, h5, h6, h7⟩ := hG'.box _ rfl
        rw [if_pos rfl] at h7
        refine Oper.wpIn_mono ?_ (wpIn_of (h3 a w g (mk C) h5 h7) (by rintro a' w' ⟨v, rfl, _⟩; exact put_defers _ _ _))
        rintro a' w' ⟨v, rfl, h8, h9⟩
        refine ⟨v, rfl, trivial, ?_⟩
        show B1S w0 P1 t z y x (some (a.tmps.getD dp undef)) (some v) w'
        rw [h5] at hG' ⊢
        exact B1S.store hG' h8 h9
end
end Go.Proofs.Ytbohlpfndiiimaa

/- Regions in whatever order: a call whose outcome is one of many, and operations that hand its outcome on. -/
namespace Go.Proofs.Ytbohlpfndiiimaa
open Go.RowKit Go
set_option linter.unusedVariables false
section
variable {X : Type} {w0 w w' : World} {F : X → Nat → Value} {Px : X → World → Prop} {vs : List (Option Value)}
/-- Nothing has been told yet; or there is an outcome, and what has been handed on is of it. -/
structure CXS (w0 : World) (F : X → Nat → Value) (Px : X → World → Prop) (vs : List (Option Value)) (w : World) : Prop where
  below : Below w0.heap.size w0 w
  st : (∀ (p : Nat) (v : Value), vs[p]? ≠ some (some v)) ∨ ∃ x, Px x w ∧ ∀ (p : Nat) (v : Value), vs[p]? = some (some v) → v = F x p
theorem CXS.step (k1 : ∀ x w w', Below w.heap.size w w' → Px x w → Px x w') (h : CXS w0 F Px vs w) (hb : Below w.heap.size w w') : CXS w0 F Px vs w' :=
  ⟨bstep h.below hb, h.st.imp id (fun ⟨x, h1, h2⟩ => ⟨x, k1 _ _ _ hb h1, h2⟩)⟩
theorem CXS.call (h : CXS w0 F Px vs w) (hn : ∀ (p : Nat) (v : Value), vs[p]? ≠ some (some v)) {x : X} (hb : Below w.heap.size w w') (hP : Px x w') : CXS w0 F Px (vs.set 0 (some (F x 0))) w' :=
  ⟨bstep h.below hb, .inr ⟨x, hP, fun p v e => by
    cases p with
    | zero =>
      cases vs with
      | nil => simp at e
      | cons y r => simp only [List.set_cons_zero, List.getElem?_cons_zero, Option.some.injEq] at e; exact e.symm
    | succ p => rw [List.getElem?_set_ne (by omega)] at e; exact absurd e (hn _ _)⟩⟩
theorem CXS.pass (h : CXS w0 F Px vs w) {q p : Nat} {v : Value} (hq : vs[q]? = some (some v)) : ∃ x, v = F x q ∧ CXS w0 F Px (vs.set p (some (F x p))) w := by
  rcases h.st with h1 | ⟨x, h1, h2⟩
  · exact absurd hq (h1 q v)
  · refine ⟨x, h2 _ _ hq, h.below, .inr ⟨x, h1, fun p' v' e => ?_⟩⟩
    by_cases c : p' = p
    · subst c
      rw [List.getElem?_set] at e
      rw [if_pos rfl] at e
      split at e
      · simp only [Option.some.injEq] at e; exact e.symm
      · cases e
    · rw [List.getElem?_set_ne (Ne.symm c)] at e
      exact h2 _ _ e
end
section
variable {P : Program} {ops : Array Oper} {X : Type} {F : X → Nat → Value} {Px : X → World → Prop}
structure CtxCX (ops : Array Oper) (l : List (Bool × Value)) (chain : List Nat) (n : Fr) (K : Known) (w0 : World) (o : Oper) (a : Act) (w : World) : Prop where
  below : Below w0.heap.size w0 w
  kn : Kn n K a
  dep : ∀ j d, depB ops o j d = true → chain.contains j = false → valR1 l j (a.tmps.getD d undef)
/-- Each operation: one that yields what is listed; the call; one that hands on. -/
def SoundCX (P : Program) (ops : Array Oper) (Q : Exit → Act → World → Prop) (l : List (Bool × Value)) (f : Fr) (K : Known) (w0 : World) (F : X → Nat → Value) (Px : X → World → Prop) (chain : List Nat) : Nat → List Oper → Prop
  | _, [] => True
  | i, o :: r => ((chain.contains i = false ∧ o.guard = none ∧
        (∀ a w, CtxCX ops l chain f K w0 o a w → o.wp P a w (fun a' w' => ∃ v, a' = Act.put a o.dst v ∧ Below w.heap.size w w' ∧ valR1 l i v) Q)) ∨
      (chain[0]? = some i ∧ o.guard = none ∧ (chain.tail.all fun c => (ancL ops c).contains i) = true ∧ ∀ a w, CtxCX ops l chain f K w0 o a w → o.wp P a w (fun a' w' => ∃ x, a' = Act.put a o.dst (F x 0) ∧ Below w.heap.size w w' ∧ Px x w') Q) ∨
      (∃ (p q c d : Nat), chain[p]? = some i ∧ o.guard = none ∧ chain[q]? = some c ∧ depB ops o c d = true ∧ ∀ (a : Act) (w : World) x, a.tmps.getD d undef = F x q → o.wp P a w (fun a' w' => a' = Act.put a o.dst (F x p) ∧ w' = w) Q)) ∧ SoundCX P ops Q l f K w0 F Px chain (i + 1) r
theorem SoundCX.gen {w0 : World} {chain : List Nat} (k1 : ∀ x w w', Below w.heap.size w w' → Px x w → Px x w') {Q : Exit → Act → World → Prop} {l : List (Bool × Value)} {f : Fr} {K : Known} : ∀ {lo : List Oper} {i : Nat}, SoundCX P ops Q l f K w0 F Px chain i lo →
    SoundFromG P ops Q chain (fun i v _ => valR1 l i v) (fun _ _ => True) (CXS w0 F Px) f K i lo
  | [], _, _ => trivial
  | o :: r, i, ⟨h, hr⟩ => by
    refine ⟨?_, hr.gen k1⟩
    have mk : ∀ {a : Act} {w : World} {vs : List (Option Value)} (_ : CtxG ops chain (fun i v _ => valR1 l i v) (CXS w0 F Px) f K i o a w vs), CtxCX ops l chain f K w0 o a w := fun C => ⟨C.now.below, C.kn, C.dep⟩
    rcases h with ⟨h1, h2, h3⟩ | ⟨h0, h1, hc, h2⟩ | ⟨p, q, c, d, h0, h1, hq, hd, h2⟩
    · refine .inl ⟨h1, true, .none h2, fun g b hb => by (rw [h2] at hb; cases hb), fun e => (by cases e), fun _ a w vs C => ?_⟩
      refine Oper.wpIn_mono ?_ (wpIn_of (h3 a w (mk C)) (by rintro a' w' ⟨v, rfl, _⟩; exact put_defers _ _ _))
      rintro a' w' ⟨v, rfl, hb, hv⟩
      exact ⟨v, rfl, trivial, CXS.step k1 C.now hb, hv⟩
    · refine .inr ⟨0, h0, h1, fun a w vs C hn => ?_⟩
      have hnn : ∀ (p : Nat) (v : Value), vs[p]? ≠ some (some v) := fun p v e => by
        have hp : p < chain.length := by rw [← C.len]; exact (List.getElem?_eq_some_iff.1 e).1
        cases p with
        | zero => rw [hn] at e; cases e
        | succ p =>
          have e2 : chain[p + 1]? = some chain[p + 1] := List.getElem?_eq_some_iff.2 ⟨hp, rfl⟩
          have hm : chain[p + 1] ∈ chain.tail := by
            have e3 : chain.tail[p]? = some chain[p + 1] := by rw [List.getElem?_tail]; exact e2
            exact List.mem_of_getElem? e3
          rw [C.mostT (p + 1) _ e2 (List.all_eq_true.1 hc _ hm)] at e; cases e
      refine Oper.wpIn_mono ?_ (wpIn_of (h2 a w (mk C)) (by rintro a' w' ⟨v, rfl, _⟩; exact put_defers _ _ _))
      rintro a' w' ⟨x, rfl, hb, hP⟩
      exact ⟨_, rfl, trivial, CXS.call C.now hnn hb hP⟩
    · refine .inr ⟨p, h0, h1, fun a w vs C hn => ?_⟩
      obtain ⟨x, e1, h3⟩ := CXS.pass (p := p) C.now (C.link q c d hq hd)
      refine Oper.wpIn_mono ?_ (wpIn_of (h2 a w x e1) (by rintro a' w' ⟨rfl, _⟩; exact put_defers _ _ _))
      rintro a' w' ⟨rfl, rfl⟩
      exact ⟨_, rfl, trivial, h3⟩
end
end Go.Proofs.Ytbohlpfndiiimaa

namespace Go.Proofs.Ytbohlpfndiiimaa
open Go.RowKit Go
set_option linter.unusedVariables false
set_option linter.unusedSimpArgs false
theorem len_le_sizeL (l : List T) : l.length ≤ T.sizeL l := by
  induction l with
  | nil => simp [T.sizeL]
  | cons t r ih => simp only [List.length_cons, T.sizeL]; have : 1 ≤ t.size := by rw [T.size_eq]; omega
                   omega
theorem size_at {l : List T} {k N : Nat} {f : Int} (h : k < l.length) (hz : (T.mk f l).size ≤ N) : (tget l k).size ≤ N := by
  have h1 := T.size_le_sizeL (tget_mem h)
  simp only [T.size] at hz
  omega
end Go.Proofs.Ytbohlpfndiiimaa
