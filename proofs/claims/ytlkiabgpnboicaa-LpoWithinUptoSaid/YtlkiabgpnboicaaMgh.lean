/- A region that draws its order, of which some operations change the memory, one behind the other, and the others only read: walked once. -/
import Derived.Test.YtlkiabgpnboicaaMga
import Derived.Test.YtlkiabgpnboicaaMgf
import Derived.WalkKit

/- The walks through the document's check of an order: ranks, highest. -/
namespace Go.Proofs.Ytlkiabgpnboicaa
open Go.RowKit Go.Sort Go

/-- Ranks that differ, none but the first one as low as the first one. -/
def Ranks (p : List Int) : Prop := ∀ i (_ : i < p.length), (0 < i → p.getD 0 0 < p.getD i 0) ∧ ∀ k, k < i → p.getD i 0 ≠ p.getD k 0

set_option maxHeartbeats 2000000 in
theorem ranks_any (p : List Int) (n : Int) (w : World) (a : Option Addr) (c : Nat) (hc : p.length ≤ c) (hm : c ≤ maxLen) (hl : IsInts w p a) :
    Calls Try.prog 39 #[.slice a p.length c, .int .i64 n] w fun e w' => (∃ b, e = .returned (.bool b) ∧ (b = true → (p.length : Int) = n ∧ Ranks p)) ∧ Below w.heap.size w w' := by
  unfold maxLen at hm
  by_cases h0 : (p.length : Int) = n
  · have hb0 : ((p.length : Int) == n) = true := by simpa using h0
    subst h0
    go_enter Try.func39, Try.ntmps39
    go_wp2_with fail
    go_loopw [5, 6] (fun i _ wr => ∃ (k : Nat), k ≤ p.length ∧ i = .int .i64 k ∧ Hid (∀ j, j < k → (0 < j → p.getD 0 0 < p.getD j 0) ∧ ∀ m, m < j → p.getD j 0 ≠ p.getD m 0) ∧ Below w.heap.size w wr) (fun i _ _ => p.length - (intOf i).toNat)
    case atStart => exact ⟨0, Nat.zero_le _, rfl, fun j hj => absurd hj (by omega), Below.refl _ _⟩
    case round =>
      obtain ⟨k, hk, rfl, hall, hw⟩ := hrel
      by_cases hlt : k < p.length
      · obtain ⟨b, o, rfl, g0, _⟩ := hl.at_ hw k hlt
        obtain ⟨b', o', e', g1, _⟩ := hl.at_ hw 0 (by omega)
        simp only [Option.some.injEq, Addr.mk.injEq, and_true] at e'
        obtain ⟨rfl, rfl⟩ := e'
        simp only [Nat.add_zero] at g1
        have z0 : (0 : Int) ≤ (k : Int) := by omega
        have z1 : (k : Int) < (p.length : Int) := by omega
        have z2 : (0 : Int) < (p.length : Int) := by omega
        have z3 : 0 < p.length := by omega
        have r0 := cell_regrown g0
        have r1 := cell_regrown g1
        have e0 : p.getD k 0 = p[k] := by simp [hlt]
        have e1 : p.getD 0 0 = p[0] := by simp [show 0 < p.length by omega]
        by_cases hk0 : 0 < k
        · have hk0' : (0 : Int) < (k : Int) := by omega
          by_cases hle : p[k] ≤ p[0]
          · have Hhw := Lib.hid hw
            have Hhall := Lib.hid hall
            have He0 := Lib.hid e0
            have He1 := Lib.hid e1
            clear hw hall e0 e1
            go_wp2_with fail
            refine wp_region_quiet_below (by kernel_rfl) (by kernel_rfl) ?_
            repeat (quiet_step (fail))
            refine wpQuiet_nil ?_
            intro _ hw'
            obtain ⟨⟨dq, osq⟩, hw''⟩ := hw'
            subst hw''
            have hbq := below_regrown wr dq osq
            generalize grow (redrawn wr dq) osq = wq at hbq ⊢
            go_wp2_with fail
            go_ret
            exact ⟨⟨_, rfl, fun h => by cases h⟩, bstep Hhw.out hbq⟩
          · have Hhw := Lib.hid hw
            have Hhall := Lib.hid hall
            have He0 := Lib.hid e0
            have He1 := Lib.hid e1
            clear hw hall e0 e1
            go_wp2_with fail
            refine wp_region_quiet_below (by kernel_rfl) (by kernel_rfl) ?_
            repeat (quiet_step (fail))
            refine wpQuiet_nil ?_
            intro _ hw'
            obtain ⟨⟨dq, osq⟩, hw''⟩ := hw'
            subst hw''
            have hbq := below_regrown wr dq osq
            generalize grow (redrawn wr dq) osq = wq at hbq ⊢
            have hw1 := Lib.hid (bstep Hhw.out hbq)
            clear r0 r1 Hhw
            have g0 := bkeeps hbq _ _ g0
            go_wp2_with fail
            go_loopw [6] (fun j wr => ∃ (m : Nat), m ≤ k ∧ j = .int .i64 m ∧ Hid (∀ x, x < m → p.getD k 0 ≠ p.getD x 0) ∧ Below w.heap.size w wr) (fun j _ => k - (intOf j).toNat)
            case atStart => exact ⟨0, Nat.zero_le _, rfl, fun x hx => absurd hx (by omega), hw1.out⟩
            case round =>
              obtain ⟨m, hm, rfl, hin, hw⟩ := hrel
              by_cases hmk : m < k
              · obtain ⟨b', o', e', g1, _⟩ := hl.at_ hw m (by omega)
                obtain ⟨b2, o2, e2, g2, _⟩ := hl.at_ hw k hlt
                simp only [Option.some.injEq, Addr.mk.injEq, and_true] at e' e2
                obtain ⟨rfl, rfl⟩ := e'
                obtain ⟨rfl, rfl⟩ := e2
                have r0 := cell_regrown g2
                have r1 := cell_regrown g1
                have y0 : (0 : Int) ≤ (m : Int) := by omega
                have y1 : (m : Int) < (p.length : Int) := by omega
                have e3 : p.getD m 0 = p[m]'(by omega) := by simp [show m < p.length by omega]
                by_cases heq : p[k] = p[m]
                · have hbe : (p[k] == p[m]) = true := by simpa using heq
                  have Hhw := Lib.hid hw
                  have Hhin := Lib.hid hin
                  have He3 := Lib.hid e3
                  clear hw hin e3
                  clear heq
                  go_wp2_with fail
                  refine wp_region_quiet_below (by kernel_rfl) (by kernel_rfl) ?_
                  repeat (quiet_step (fail))
                  refine wpQuiet_nil ?_
                  intro _ hw'
                  obtain ⟨⟨dq, osq⟩, hw''⟩ := hw'
                  subst hw''
                  have hbq := below_regrown wr dq osq
                  generalize grow (redrawn wr dq) osq = wq at hbq ⊢
                  go_wp2_with fail
                  go_ret
                  exact ⟨⟨_, rfl, fun h => by cases h⟩, bstep Hhw.out hbq⟩
                · have hbe : (p[k] == p[m]) = false := by simpa using heq
                  have hne := Lib.hid heq
                  have Hhw := Lib.hid hw
                  have Hhin := Lib.hid hin
                  have He3 := Lib.hid e3
                  clear hw hin e3
                  clear heq
                  go_wp2_with fail
                  refine wp_region_quiet_below (by kernel_rfl) (by kernel_rfl) ?_
                  repeat (quiet_step (fail))
                  refine wpQuiet_nil ?_
                  intro _ hw'
                  obtain ⟨⟨dq, osq⟩, hw''⟩ := hw'
                  subst hw''
                  have hbq := below_regrown wr dq osq
                  generalize grow (redrawn wr dq) osq = wq at hbq ⊢
                  go_wp2_with fail
                  go_roundw
                  case rel =>
                    refine ⟨m + 1, by omega, by go_num, fun x hx => ?_, bstep Hhw.out hbq⟩
                    by_cases hxm : x = m
                    · subst hxm; rw [He0.out, He3.out]; exact hne.out
                    · exact Hhin.out x (by omega)
                  case measure => simp [intOf]; omega
              · obtain rfl : m = k := by omega
                have Hhw := Lib.hid hw
                have Hhin := Lib.hid hin
                clear hw hin
                go_wp2_with fail
                go_roundw
                case rel =>
                  refine ⟨m + 1, by omega, by go_num, fun j hj => ?_, Hhw.out⟩
                  by_cases hjm : j = m
                  · subst hjm; exact ⟨(by have h0 := He0.out; have h1 := He1.out; intro _; omega), Hhin.out⟩
                  · exact Hhall.out j (by omega)
                case measure => simp [intOf]; omega
        · obtain rfl : k = 0 := by omega
          clear r0 r1 g0 g1 e0 e1 z0 z1 z2 hk0
          have Hhw := Lib.hid hw
          have Hhall := Lib.hid hall
          clear hw hall
          go_wp2_with fail
          go_region
          go_wp2_with fail
          go_loopw [6] (fun j wr => j = .int .i64 0 ∧ Hid (Below w.heap.size w wr)) (fun _ _ => 0)
          case atStart => exact ⟨by first | rfl | trivial, by first | exact Hhw.out.drew | trivial⟩
          case round =>
            obtain ⟨rfl, hw2⟩ := hrel
            go_wp2_with fail
            go_roundw
            case rel => exact ⟨1, by omega, by go_num, fun j hj => ⟨fun h => absurd h (by omega), fun m hm => absurd hm (by omega)⟩, hw2.out⟩
            case measure => simp [intOf]; omega
      · obtain rfl : k = p.length := by omega
        go_wp2_with fail
        go_ret
        exact ⟨⟨_, rfl, fun _ => ⟨by first | rfl | trivial, fun i hi => hall.out i hi⟩⟩, hw⟩
  · have hb0 : ((p.length : Int) == n) = false := by simpa using h0
    go_enter Try.func39, Try.ntmps39
    go_wp2_with fail
    go_ret
    exact ⟨⟨_, rfl, fun h => by cases h⟩, Below.refl _ _⟩

/-- Has no symbol a higher rank? -/
def high (p : List Int) (i : Nat) : Bool := decide (∀ k, k < p.length → p.getD k 0 ≤ p.getD i 0)

set_option maxHeartbeats 1000000 in
theorem highest_any (p : List Int) (i : Nat) (w : World) (a : Option Addr) (c : Nat) (hi : i < p.length) (hc : p.length ≤ c) (hm : c ≤ maxLen) (hl : IsInts w p a) :
    Calls Try.prog 40 #[.slice a p.length c, .int .i64 i] w fun e w' => e = .returned (.bool (high p i)) ∧ Below w.heap.size w w' := by
  unfold maxLen at hm
  go_enter Try.func40, Try.ntmps40
  go_wp2_with fail
  go_loopw [5] (fun j wr => ∃ (k : Nat), k ≤ p.length ∧ j = .int .i64 k ∧ Hid (∀ x, x < k → p.getD x 0 ≤ p.getD i 0) ∧ Below w.heap.size w wr) (fun j _ => p.length - (intOf j).toNat)
  case atStart => exact ⟨0, Nat.zero_le _, rfl, fun x hx => absurd hx (by omega), Below.refl _ _⟩
  case round =>
    obtain ⟨k, hk, rfl, hall, hw⟩ := hrel
    by_cases hlt : k < p.length
    · obtain ⟨b, o, rfl, g0, _⟩ := hl.at_ hw k hlt
      obtain ⟨b', o', e', g1, _⟩ := hl.at_ hw i hi
      simp only [Option.some.injEq, Addr.mk.injEq, and_true] at e'
      obtain ⟨rfl, rfl⟩ := e'
      have z0 : (0 : Int) ≤ (k : Int) := by omega
      have z1 : (k : Int) < (p.length : Int) := by omega
      have z2 : (0 : Int) ≤ (i : Int) := by omega
      have z3 : (i : Int) < (p.length : Int) := by omega
      have e0 : p.getD k 0 = p[k] := by simp [hlt]
      have e1 : p.getD i 0 = p[i] := by simp [hi]
      by_cases hki : k = i
      · subst hki
        have Hhw := Lib.hid hw
        have Hhall := Lib.hid hall
        clear hw hall
        clear g0 g1 e0 e1
        go_wp2_with fail
        go_region
        go_wp2_with fail
        go_roundw
        case rel =>
          refine ⟨k + 1, by omega, by go_num, fun x hx => ?_, Hhw.out.drew⟩
          by_cases hxk : x = k
          · subst hxk; omega
          · exact Hhall.out x (by omega)
        case measure => simp [intOf]; omega
      · have hb : ((k : Int) == (i : Int)) = false := by simp only [beq_eq_false_iff_ne, ne_eq]; omega
        have hb2 : ¬ (k : Int) = (i : Int) := by omega
        have r0 := cell_regrown g0
        have r1 := cell_regrown g1
        by_cases hgt : p[i] < p[k]
        · have HV := Lib.hid (show high p i = false from decide_eq_false (fun h => by have := h k hlt; omega))
          have Hhw := Lib.hid hw
          have Hhall := Lib.hid hall
          have He0 := Lib.hid e0
          have He1 := Lib.hid e1
          clear hw hall e0 e1
          go_wp2_with fail
          refine wp_region_quiet_below (by kernel_rfl) (by kernel_rfl) ?_
          repeat (quiet_step (fail))
          refine wpQuiet_nil ?_
          intro _ hw'
          obtain ⟨⟨dq, osq⟩, hw''⟩ := hw'
          subst hw''
          have hbq := below_regrown wr dq osq
          generalize grow (redrawn wr dq) osq = wq at hbq ⊢
          go_wp2_with fail
          go_ret
          exact ⟨rbool HV.out, bstep Hhw.out hbq⟩
        · have hle := Lib.hid hgt
          have Hhw := Lib.hid hw
          have Hhall := Lib.hid hall
          have He0 := Lib.hid e0
          have He1 := Lib.hid e1
          clear hw hall e0 e1
          go_wp2_with fail
          refine wp_region_quiet_below (by kernel_rfl) (by kernel_rfl) ?_
          repeat (quiet_step (fail))
          refine wpQuiet_nil ?_
          intro _ hw'
          obtain ⟨⟨dq, osq⟩, hw''⟩ := hw'
          subst hw''
          have hbq := below_regrown wr dq osq
          generalize grow (redrawn wr dq) osq = wq at hbq ⊢
          go_wp2_with fail
          go_roundw
          case rel =>
            refine ⟨k + 1, by omega, by go_num, fun x hx => ?_, bstep Hhw.out hbq⟩
            by_cases hxk : x = k
            · have h0 := He0.out; have h1 := He1.out; have h2 := hle.out; rw [hxk]; omega
            · exact Hhall.out x (by omega)
          case measure => simp [intOf]; omega
    · go_wp2_with fail
      go_ret
      exact ⟨rbool (show high p i = true from decide_eq_true (fun x hx => hall.out x (by omega))), hw⟩

end Go.Proofs.Ytlkiabgpnboicaa

/- Signatures: how they lie in memory, that what reads as one is one; which ones may be, as plain functions. -/
namespace Go.Proofs.Ytlkiabgpnboicaa
open Go.RowKit

/-- A symbol. -/
structure Sy where
  name : ByteArray
  ar : Int
  pred : Bool
  deriving DecidableEq
instance : Inhabited Sy := ⟨⟨ByteArray.empty, 0, false⟩⟩

def IsSy (_ : World) (x : Sy) (cs : List Value) : Prop := cs = [.string x.name, .int .i64 x.ar, .bool x.pred] ∧ I64 x.ar ∧ x.name.size ≤ maxLen
def IsSys (w : World) (l : List Sy) (a : Option Addr) : Prop := IsRow w 3 IsSy l a
theorem IsSys.below {w w' : World} (hb : Below w.heap.size w w') {l : List Sy} {a : Option Addr} (h : IsSys w l a) : IsSys w' l a := IsRow.keep h hb (fun _ _ h => h)

theorem IsSys.at_ {w w' : World} {l : List Sy} {a : Option Addr} (h : IsSys w l a) (hb : Below w.heap.size w w') (k : Nat) (hk : k < l.length) :
    ∃ (b o : Nat), a = some ⟨b, o, none⟩ ∧ w'.cell? ⟨b, o + k * 3, none⟩ = some (.string l[k].name) ∧ w'.cell? ⟨b, o + k * 3 + 1, none⟩ = some (.int .i64 l[k].ar) ∧ w'.cell? ⟨b, o + k * 3 + 2, none⟩ = some (.bool l[k].pred) ∧ I64 l[k].ar ∧ l[k].name.size ≤ maxLen := by
  obtain ⟨b, o, cs, h1, _, h3, rfl, h4, h5⟩ := h k hk
  have e0 := h3 0 (by omega)
  have e1 := h3 1 (by omega)
  have e2 := h3 2 (by omega)
  simp only [List.getElem?_cons_zero, List.getElem?_cons_succ, Nat.add_zero] at e0 e1 e2
  exact ⟨b, o, h1, bkeeps hb _ _ e0, bkeeps hb _ _ e1, bkeeps hb _ _ e2, h4, h5⟩

/-- The value is the signature. -/
def IsSig (w : World) (l : List Sy) (v : Value) : Prop := ∃ (a : Option Addr) (c : Nat), v = .agg #[.slice a l.length c] ∧ l.length ≤ c ∧ c ≤ maxLen ∧ IsSys w l a
theorem IsSig.below {w w' : World} (hb : Below w.heap.size w w') {l : List Sy} {v : Value} (h : IsSig w l v) : IsSig w' l v := by
  obtain ⟨a, c, h1, h2, h3, h4⟩ := h
  exact ⟨a, c, h1, h2, h3, h4.below hb⟩

section
variable {H : Type} {enc : TypeId × Value → H} {w : World} {base : Nat} {spare : Nat → Bool} {held : Bool}

set_option maxRecDepth 100000 in
theorem open_Sy (fuel : Nat) (cs : List Value) (x : DataW H × List MemPlace) (h : DataW.trod enc Try.prog w base spare held fuel 79 cs = some x) : ∃ y : Sy, IsSy w y cs := by
  have hC : Try.prog.cellsOf 79 = 3 := by kernel_rfl
  have hC1 : Try.prog.cellsOf 9 = 1 := by kernel_rfl
  have hC2 : Try.prog.cellsOf 3 = 1 := by kernel_rfl
  have hC3 : Try.prog.cellsOf 4 = 1 := by kernel_rfl
  obtain ⟨xs, n, rfl, rfl, hl, hlen, hf⟩ := DataW.trod_struct Try.underlying79 h
  rw [hC] at hl
  match xs, hlen, cs, hl with
  | [y0, y1, y2], _, [c0, c1, c2], _ =>
    have g0 : DataW.trod enc Try.prog w base spare held n 9 [c0] = some y0 := by simpa [hC1] using hf 0 _ rfl
    have g1 : DataW.trod enc Try.prog w base spare held n 3 [c1] = some y1 := by simpa [hC2] using hf 1 _ rfl
    have g2 : DataW.trod enc Try.prog w base spare held n 4 [c2] = some y2 := by simpa [hC3] using hf 2 _ rfl
    obtain ⟨s, e0, rfl, hs⟩ := DataW.trod_string Try.underlying9 g0
    obtain ⟨m, e1, rfl, wf⟩ := DataW.trod_int Try.underlying3 g1
    obtain ⟨b, e2, rfl⟩ := DataW.trod_bool Try.underlying4 g2
    simp only [List.cons.injEq, and_true] at e0 e1 e2
    subst e0 e1 e2
    exact ⟨⟨s, m, b⟩, rfl, i64_wf wf, hs⟩

set_option maxRecDepth 100000 in
theorem open_Sys (fuel : Nat) (cs : List Value) (x : DataW H × List MemPlace) (h : DataW.trod enc Try.prog w base spare held fuel 33 cs = some x) :
    ∃ (l : List Sy) (a : Option Addr) (cap : Nat), cs = [.slice a l.length cap] ∧ l.length ≤ cap ∧ cap ≤ maxLen ∧ IsSys w l a := by
  obtain ⟨l, a, cap, ds, sp, rfl, h1, h2, h3, _⟩ := open_row Try.underlying33 (k := 3) (by kernel_rfl) (by omega) h (R := IsSy) (S := fun _ _ => True) (fun n cs x hx => by
    obtain ⟨y, hy⟩ := open_Sy _ _ _ hx
    exact ⟨y, hy, trivial⟩)
  exact ⟨l, a, cap, rfl, h1, h2, h3⟩

set_option maxRecDepth 100000 in
theorem open_Sig (fuel : Nat) (cs : List Value) (x : DataW H × List MemPlace) (h : DataW.trod enc Try.prog w base spare held fuel 35 cs = some x) :
    ∃ (l : List Sy) (v : Value), cs = [v] ∧ IsSig w l (.agg #[v]) := by
  have hC : Try.prog.cellsOf 35 = 1 := by kernel_rfl
  have hC1 : Try.prog.cellsOf 33 = 1 := by kernel_rfl
  obtain ⟨xs, n, rfl, rfl, hl, hlen, hf⟩ := DataW.trod_struct Try.underlying35 h
  rw [hC] at hl
  match xs, hlen, cs, hl with
  | [y0], _, [c0], _ =>
    have g0 : DataW.trod enc Try.prog w base spare held n 33 [c0] = some y0 := by simpa [hC1] using hf 0 _ rfl
    obtain ⟨l, a, cap, e, h1, h2, h3⟩ := open_Sys _ _ _ g0
    simp only [List.cons.injEq, and_true] at e
    subst e
    exact ⟨l, _, rfl, a, cap, rfl, h1, h2, h3⟩
end

/-! ### The plain functions -/

def byteOk (c : UInt8) : Bool := (97 ≤ c && c ≤ 122) || (65 ≤ c && c ≤ 90) || (48 ≤ c && c ≤ 57) || c == 95
def named (s : ByteArray) : Bool := decide (1 ≤ s.size ∧ s.size ≤ 40) && s.data.toList.all byteOk
def Sy.one (x : Sy) : Int := if named x.name then (if x.ar < 0 ∨ 6 < x.ar then 112 else 0) else 111
def truth : Sy := ⟨⟨#[36, 116, 114, 117, 101]⟩, 0, true⟩
/-- A symbol's place in a row, from 'k' on. -/
def syAt (x : Sy) : List Sy → Int → Int
  | [], _ => -1
  | y :: r, k => if y = x then k else syAt x r (k + 1)
/-- The first error among the symbols from the k-th on. -/
def symsErr (all : List Sy) : List Sy → Int → Int
  | [], _ => 0
  | x :: r, k => if x.one ≠ 0 then x.one else if syAt x all 0 < k then 113 else symsErr all r (k + 1)
def sigCheck (l : List Sy) : Int :=
  if 96 < l.length then 3 else if l.head? ≠ some truth then 110 else symsErr l (l.drop 1) 1

end Go.Proofs.Ytlkiabgpnboicaa

/- The walks through the document's check of a signature. -/
namespace Go.Proofs.Ytlkiabgpnboicaa
open Go.RowKit Go.Sort Go

theorem truth_any (w : World) : Calls Try.prog 49 #[] w fun e w' => e = .returned (.agg #[.string truth.name, .int .i64 truth.ar, .bool truth.pred]) ∧ Below w.heap.size w w' := by
  go_enter Try.func49, Try.ntmps49
  go_wp2_with fail
  refine bodyPost_ret (v := .agg #[.string truth.name, .int .i64 truth.ar, .bool truth.pred]) (by simp [results, Try.results49, go_sem, truth]) rfl ?_
  exact ⟨rfl, balloc _ _⟩

set_option maxHeartbeats 4000000 in
theorem named_any (s : ByteArray) (w : World) (hs : s.size ≤ maxLen) : Calls Try.prog 59 #[.string s] w fun e w' => e = .returned (.bool (named s)) ∧ Below w.heap.size w w' := by
  unfold maxLen at hs
  by_cases h1 : s.size < 1
  · have HV := Lib.hid (show named s = false by unfold named; simp; omega)
    go_enter Try.func59, Try.ntmps59
    go_wp2_with fail
    go_ret
    exact ⟨rbool HV.out, Below.refl _ _⟩
  by_cases h2 : 40 < s.size
  · have HV := Lib.hid (show named s = false by unfold named; simp; omega)
    go_enter Try.func59, Try.ntmps59
    go_wp2_with fail
    go_ret
    exact ⟨rbool HV.out, Below.refl _ _⟩
  have HV := Lib.hid (show named s = s.data.toList.all byteOk by
    unfold named
    rw [decide_eq_true (by omega), Bool.true_and])
  go_enter Try.func59, Try.ntmps59
  go_wp2_with fail
  go_loopw [3, 4] (fun i _ wr => ∃ (k : Nat), k ≤ s.size ∧ i = .int .i64 k ∧ Hid ((s.data.toList.take k).all byteOk = true) ∧ Hid (Below w.heap.size w wr)) (fun i _ _ => s.size - (intOf i).toNat)
  case atStart => exact ⟨0, Nat.zero_le _, rfl, rfl, Below.refl _ _⟩
  case round =>
    obtain ⟨k, hk, rfl, hall, hw⟩ := hrel
    by_cases hlt : k < s.size
    · have hd : k < s.data.toList.length := by simpa using hlt
      have hg : s.data.toList[k] = s[k] := by simp [ByteArray.getElem_eq_getElem_data]
      have htk : (s.data.toList.take (k + 1)).all byteOk = byteOk s[k] := by
        rw [List.take_succ_eq_append_getElem hd, List.all_append, hall.out, hg]; simp
      have hP : byteOk s[k] = true ↔ (97 ≤ (s[k].toNat : Int) ∧ (s[k].toNat : Int) ≤ 122) ∨ (65 ≤ (s[k].toNat : Int) ∧ (s[k].toNat : Int) ≤ 90) ∨ (48 ≤ (s[k].toNat : Int) ∧ (s[k].toNat : Int) ≤ 57) ∨ (s[k].toNat : Int) = 95 := by
        unfold byteOk
        simp only [Bool.or_eq_true, Bool.and_eq_true, decide_eq_true_eq, beq_iff_eq, UInt8.le_iff_toNat_le, ← UInt8.toNat_inj]
        simp
        omega
      cases hb : byteOk s[k] with
      | true =>
        rw [hb] at htk
        have hP := Lib.hid (hP.1 hb)
        have htk := Lib.hid htk
        clear hb hall
        go_wp2_with fail
        all_goals first
          | (exfalso; have hq := hP.out; (try simp only [Bool.not_eq_true', decide_eq_false_iff_not, beq_eq_false_iff_ne, ne_eq] at *); omega)
          | (go_roundw
             case rel => exact ⟨k + 1, by omega, by go_num, htk.out, hw.out⟩
             case measure => simp [intOf]; omega)
      | false =>
        have HN := Lib.hid (show named s = false by
          rw [HV.out]
          refine List.all_eq_false.2 ⟨s[k], ?_, by rw [hb]; simp⟩
          rw [← hg]; exact List.getElem_mem hd)
        have hP := Lib.hid (mt hP.2 (by rw [hb]; simp))
        clear hb hall htk
        go_wp2_with fail
        all_goals first
          | (exfalso; have hq := hP.out; (try simp only [Bool.not_eq_true', Bool.not_eq_false', decide_eq_false_iff_not, decide_eq_true_eq, beq_eq_false_iff_ne, beq_iff_eq, ne_eq] at *); omega)
          | (go_ret
             exact ⟨rbool HN.out, hw.out⟩)
    · obtain rfl : k = s.size := by omega
      have HN := Lib.hid (show named s = true by
        rw [HV.out]
        have := hall.out
        rwa [List.take_of_length_le (by simp)] at this)
      go_wp2_with fail
      go_ret
      exact ⟨rbool HN.out, hw.out⟩

end Go.Proofs.Ytlkiabgpnboicaa

/- The walks through the document's check of a signature, the rest. -/
namespace Go.Proofs.Ytlkiabgpnboicaa
open Go.RowKit Go.Sort Go

def Sy.val (x : Sy) : Value := .agg #[.string x.name, .int .i64 x.ar, .bool x.pred]

theorem bytes_ext {n m : ByteArray} (h : n.toList = m.toList) : n = m := by
  rw [ByteArray.toList_eq, ByteArray.toList_eq] at h
  exact ByteArray.ext (Array.toList_inj.1 h)

theorem eqSy (n m : ByteArray) (a b : Int) (p q : Bool) (w : World) : (binOp .eql 79 (.agg #[.string n, .int .i64 a, .bool p]) (.agg #[.string m, .int .i64 b, .bool q])).run Try.prog w = .ok (.bool (decide ((⟨n, a, p⟩ : Sy) = ⟨m, b, q⟩))) w := by
  have hS : Try.prog.underlying 79 = some (.struct (Try.prog.fieldsOf 79)) := by kernel_rfl
  have hp : Try.prog.stoodInHeld 79 = false := by kernel_rfl
  have u1 := Try.underlying9
  have u2 := Try.underlying3
  have u3 := Try.underlying4
  rw [run_eql_struct, show (10000 : Nat) = 9999 + 1 from rfl, run_equalIn_agg w 9999 79 _ _ hS hp]
  simp only [Program.fieldsOf, Try.underlying79]
  go_simp
  have hn : ¬ n = m → ¬ n.toList = m.toList := fun h e => h (bytes_ext e)
  by_cases h1 : n = m <;> by_cases h2 : a = b <;> by_cases h3 : p = q <;> simp_all

theorem neqSy (n m : ByteArray) (a b : Int) (p q : Bool) (w : World) : (binOp .neq 79 (.agg #[.string n, .int .i64 a, .bool p]) (.agg #[.string m, .int .i64 b, .bool q])).run Try.prog w = .ok (.bool (!decide ((⟨n, a, p⟩ : Sy) = ⟨m, b, q⟩))) w := by
  have h := eqSy n m a b p q w
  rw [run_eql_struct] at h
  rw [run_neq_struct]
  cases hr : (Op.equalIn 10000 79 (.agg #[.string n, .int .i64 a, .bool p]) (.agg #[.string m, .int .i64 b, .bool q])).run Try.prog w with
  | ok b' w' =>
    rw [hr] at h
    simp only [Result.andThen_ok, Result.ok.injEq, Value.bool.injEq] at h ⊢
    exact ⟨by rw [h.1], h.2⟩
  | halt x w' => rw [hr] at h; simp [Result.andThen] at h

theorem guardSy (op : BinOp) (x y : Operand) (xs ys : Array Value) (w : World) : (eqGuard op 79 x y (.agg xs) (.agg ys)).run Try.prog w = .ok () w := run_eqGuard_agg w op _ x y xs ys (by kernel_rfl)

theorem one_any (x : Sy) (w : World) (hs : x.name.size ≤ maxLen) : Calls Try.prog 50 #[x.val] w fun e w' => e = .returned (.int .i64 x.one) ∧ Below w.heap.size w w' := by
  have NM := fun w => named_any x.name w hs
  have E : x.one = if named x.name then (if x.ar < 0 ∨ 6 < x.ar then 112 else 0) else 111 := rfl
  obtain ⟨name, ar, pred⟩ := x
  unfold Sy.val
  generalize Sy.one ⟨name, ar, pred⟩ = r at *
  simp only at *
  generalize named name = b at *
  cases b with
  | false =>
    have HE := Lib.hid (show r = 111 by rw [E]; rfl)
    clear E
    go_enter Try.func50, Try.ntmps50
    go_wp2_with fail
    refine (NM _).mono ?_
    rintro e w1 ⟨rfl, hb1⟩
    go_wp2_with fail
    go_ret
    exact ⟨rint HE.out, bcall hb1⟩
  | true =>
    have HE := Lib.hid (show r = if ar < 0 ∨ 6 < ar then 112 else 0 by rw [E]; simp)
    clear E
    go_enter Try.func50, Try.ntmps50
    go_wp2_with fail
    refine (NM _).mono ?_
    rintro e w1 ⟨rfl, hb1⟩
    obtain ⟨B1, hw⟩ := box1 hb1
    have k0 := B1 0 _ rfl
    have k1 := B1 1 _ rfl
    have k2 := B1 2 _ rfl
    have Hhw := Lib.hid hw
    clear hw
    clear hb1 B1
    by_cases h1 : ar < 0
    · have HV := Lib.hid (show r = 112 by rw [HE.out, if_pos (.inl h1)])
      go_wp2_with fail
      go_ret
      exact ⟨rint HV.out, Hhw.out⟩
    · by_cases h2 : 6 < ar
      · have HV := Lib.hid (show r = 112 by rw [HE.out, if_pos (.inr h2)])
        go_wp2_with fail
        go_ret
        exact ⟨rint HV.out, Hhw.out⟩
      · have HV := Lib.hid (show r = 0 by rw [HE.out, if_neg (by omega)])
        go_wp2_with fail
        go_ret
        exact ⟨rint HV.out, Hhw.out⟩

theorem syAt_range (x : Sy) : ∀ (l : List Sy) (k : Int), 0 ≤ k → syAt x l k = -1 ∨ k ≤ syAt x l k ∧ syAt x l k < k + l.length
  | [], k, _ => .inl rfl
  | y :: r, k, h => by
    rw [syAt]
    by_cases e : y = x
    · rw [if_pos e]; right; simp only [List.length_cons]; omega
    · rw [if_neg e]
      rcases syAt_range x r (k + 1) (by omega) with h | h
      · exact .inl h
      · simp only [List.length_cons]; omega

theorem at_any (x : Sy) (l : List Sy) (w : World) (a : Option Addr) (c : Nat) (hc : l.length ≤ c) (hm : c ≤ maxLen) (hl : IsSys w l a) :
    Calls Try.prog 51 #[.slice a l.length c, x.val] w fun e w' => e = .returned (.int .i64 (syAt x l 0)) ∧ Below w.heap.size w w' := by
  unfold maxLen at hm
  obtain ⟨name, ar, pred⟩ := x
  unfold Sy.val
  simp only
  go_enter Try.func51, Try.ntmps51
  go_wp2_with fail
  go_loopw [5] (fun i wr => ∃ (k : Nat), k ≤ l.length ∧ i = .int .i64 k ∧ Hid (syAt ⟨name, ar, pred⟩ l 0 = syAt ⟨name, ar, pred⟩ (l.drop k) k) ∧ Below w.heap.size w wr ∧ Box wr w.heap.size [.string name, .int .i64 ar, .bool pred]) (fun i _ => l.length - (intOf i).toNat)
  case atStart => exact ⟨0, Nat.zero_le _, rfl, by simp [Hid], balloc _ _, Box.new _ _ _⟩
  case round =>
    obtain ⟨k, hk, rfl, hx, hw, hB⟩ := hrel
    by_cases hlt : k < l.length
    · obtain ⟨b, o, rfl, g0, g1, g2, _, _⟩ := hl.at_ hw k hlt
      have k0 := hB 0 _ rfl
      have k1 := hB 1 _ rfl
      have k2 := hB 2 _ rfl
      have r0 := cell_regrown k0
      have r1 := cell_regrown k1
      have r2 := cell_regrown k2
      have r3 := cell_regrown g0
      have r4 := cell_regrown g1
      have r5 := cell_regrown g2
      have z0 : (0 : Int) ≤ (k : Int) := by omega
      have z1 : (k : Int) < (l.length : Int) := by omega
      have hd : syAt ⟨name, ar, pred⟩ (l.drop k) k = if l[k] = ⟨name, ar, pred⟩ then (k : Int) else syAt ⟨name, ar, pred⟩ (l.drop (k + 1)) (k + 1 : Nat) := by
        rw [List.drop_eq_getElem_cons hlt, syAt]; rfl
      have Hhw := Lib.hid hw
      have HhB := Lib.hid hB
      have Hhd := Lib.hid hd
      clear hw hB hd
      go_wp2_with fail
      have GD := guardSy
      by_cases he : l[k] = ⟨name, ar, pred⟩
      · have EQ := fun w => eqSy l[k].name name l[k].ar ar l[k].pred pred w
        rw [decide_eq_true (show (⟨l[k].name, l[k].ar, l[k].pred⟩ : Sy) = ⟨name, ar, pred⟩ from he)] at EQ
        have HV := Lib.hid (show syAt ⟨name, ar, pred⟩ l 0 = k by rw [hx.out, Hhd.out, if_pos he])
        clear he
        refine wp_region_quiet_below (by kernel_rfl) (by kernel_rfl) ?_
        repeat (quiet_step (fail))
        refine wpQuiet_nil ?_
        intro _ hw'
        obtain ⟨⟨dq, osq⟩, hw''⟩ := hw'
        subst hw''
        have hbq := below_regrown wr dq osq
        generalize grow (redrawn wr dq) osq = wq at hbq ⊢
        go_wp2_with fail
        go_ret
        exact ⟨rint HV.out, bstep Hhw.out hbq⟩
      · have EQ := fun w => eqSy l[k].name name l[k].ar ar l[k].pred pred w
        rw [decide_eq_false (show ¬ (⟨l[k].name, l[k].ar, l[k].pred⟩ : Sy) = ⟨name, ar, pred⟩ from he)] at EQ
        have HV := Lib.hid (show syAt ⟨name, ar, pred⟩ l 0 = syAt ⟨name, ar, pred⟩ (l.drop (k + 1)) (k + 1 : Nat) by rw [hx.out, Hhd.out, if_neg he])
        clear he
        refine wp_region_quiet_below (by kernel_rfl) (by kernel_rfl) ?_
        repeat (quiet_step (fail))
        refine wpQuiet_nil ?_
        intro _ hw'
        obtain ⟨⟨dq, osq⟩, hw''⟩ := hw'
        subst hw''
        have hbq := below_regrown wr dq osq
        generalize grow (redrawn wr dq) osq = wq at hbq ⊢
        go_wp2_with fail
        go_roundw
        case rel => exact ⟨k + 1, by omega, by go_num, HV.out, bstep Hhw.out hbq, HhB.out.below hbq⟩
        case measure => simp [intOf]; omega
    · have HV := Lib.hid (show syAt ⟨name, ar, pred⟩ l 0 = -1 by rw [hx.out, List.drop_eq_nil_of_le (by omega), syAt])
      go_wp2_with fail
      go_ret
      exact ⟨rint HV.out, hw⟩

end Go.Proofs.Ytlkiabgpnboicaa

/- The walk through the document's check of a signature: the check. -/
namespace Go.Proofs.Ytlkiabgpnboicaa
open Go.RowKit Go.Sort Go

set_option maxHeartbeats 1000000 in
theorem sigCheck_any (l : List Sy) (w : World) (v : Value) (hv : IsSig w l v) :
    Calls Try.prog 38 #[v] w fun e w' => e = .returned (.int .i64 (sigCheck l)) ∧ Below w.heap.size w w' := by
  obtain ⟨a, c, rfl, hc, hm, hl⟩ := hv
  have hm0 := hm
  unfold maxLen at hm
  have E : sigCheck l = if 96 < l.length then 3 else if l.head? ≠ some truth then 110 else symsErr l (l.drop 1) 1 := rfl
  generalize hr : sigCheck l = r at *
  clear hr
  by_cases h1 : 96 < l.length
  · have HE := Lib.hid (show r = 3 by rw [E, if_pos h1])
    clear E
    go_enter Try.func38, Try.ntmps38
    go_wp2_with fail
    go_ret
    exact ⟨rint HE.out, balloc _ _⟩
  rw [if_neg h1] at E
  by_cases h2 : l.length = 0
  · obtain rfl : l = [] := List.length_eq_zero_iff.1 h2
    have HE := Lib.hid (show r = 110 by rw [E, if_pos (by simp)])
    clear E h1 h2 hl
    simp only [List.length_nil] at *
    go_enter Try.func38, Try.ntmps38
    go_wp2_with fail
    obtain ⟨B1, hw⟩ := box1 (Below.refl _ (w.alloc (.cells #[.slice a 0 c] 35)))
    generalize w.alloc (.cells #[.slice a 0 c] 35) = W0 at B1 hw ⊢
    have r0 := cell_regrown (B1 0 _ rfl)
    have Hhw := Lib.hid hw
    clear hw
    refine wp_region_quiet_below (by kernel_rfl) (by kernel_rfl) ?_
    repeat (quiet_step (fail))
    refine wpQuiet_nil ?_
    intro _ hw'
    obtain ⟨⟨dq, osq⟩, hw''⟩ := hw'
    subst hw''
    have hbq := below_regrown W0 dq osq
    generalize grow (redrawn W0 dq) osq = wq at hbq ⊢
    go_wp2_with fail
    go_ret
    exact ⟨rint HE.out, bstep Hhw.out hbq⟩
  have hb2 : ((l.length : Int) == 0) = false := by simp only [beq_eq_false_iff_ne, ne_eq]; omega
  have h0 : 0 < l.length := by omega
  have hhd : l.head? = some l[0] := by rw [List.head?_eq_getElem?, List.getElem?_eq_getElem h0]
  rw [hhd] at E
  have TR := fun w => truth_any w
  have GD := guardSy
  by_cases h3 : l[0] = truth
  · rw [if_neg (by rw [h3]; simp)] at E
    have HE := Lib.hid E
    have EQ := fun w => neqSy l[0].name truth.name l[0].ar truth.ar l[0].pred truth.pred w
    rw [decide_eq_true (show (⟨l[0].name, l[0].ar, l[0].pred⟩ : Sy) = ⟨truth.name, truth.ar, truth.pred⟩ from h3)] at EQ
    clear E h3 hhd
    go_enter Try.func38, Try.ntmps38
    go_wp2_with fail
    obtain ⟨B1, hw⟩ := box1 (Below.refl _ (w.alloc (.cells #[.slice a l.length c] 35)))
    generalize w.alloc (.cells #[.slice a l.length c] 35) = W0 at B1 hw ⊢
    have k0 := B1 0 _ rfl
    obtain ⟨b, o, rfl, g0, g1, g2, _, _⟩ := hl.at_ hw 0 h0
    simp only [Nat.zero_mul, Nat.add_zero] at g0 g1 g2
    have r0 := cell_regrown k0
    have r1 := cell_regrown g0
    have r2 := cell_regrown g1
    have r3 := cell_regrown g2
    have Hhw := Lib.hid hw
    have HB1 := Lib.hid B1
    clear hw B1
    refine wp_region_quiet_below (by kernel_rfl) (by kernel_rfl) ?_
    repeat (quiet_step (exact Calls.regrown_of (TR _)))
    refine wpQuiet_nil ?_
    intro _ hw'
    obtain ⟨⟨dq, osq⟩, hw''⟩ := hw'
    subst hw''
    have hbq := below_regrown W0 dq osq
    generalize grow (redrawn W0 dq) osq = wq at hbq ⊢
    have hw0 := Lib.hid (bstep Hhw.out hbq)
    have hB0 := Lib.hid (HB1.out.below hbq)
    clear r0 r1 r2 r3 k0 g0 g1 g2 hbq Hhw HB1 EQ TR
    go_wp2_with fail
    go_loopw [3] (fun i wr => ∃ (k : Nat), 1 ≤ k ∧ k ≤ l.length ∧ i = .int .i64 k ∧ Hid (r = symsErr l (l.drop k) k) ∧ Below w.heap.size w wr ∧ Box wr w.heap.size [.slice (some ⟨b, o, none⟩) l.length c]) (fun i _ => l.length - (intOf i).toNat)
    case atStart => exact ⟨1, by omega, by omega, rfl, HE.out, hw0.out, hB0.out⟩
    case round =>
      obtain ⟨k, hk0, hk, rfl, hx, hw, hB⟩ := hrel
      have k0 := hB 0 _ rfl
      by_cases hlt : k < l.length
      · obtain ⟨b', o', e', g0, g1, g2, _, hnm⟩ := hl.at_ hw k hlt
        simp only [Option.some.injEq, Addr.mk.injEq, and_true] at e'
        obtain ⟨rfl, rfl⟩ := e'
        have ON := fun w => one_any l[k] w hnm
        have AT := fun w h => at_any l[k] l w (some ⟨b, o, none⟩) c hc hm0 h
        have hd : symsErr l (l.drop k) k = if l[k].one ≠ 0 then l[k].one else if syAt l[k] l 0 < k then 113 else symsErr l (l.drop (k + 1)) (k + 1 : Nat) := by
          rw [List.drop_eq_getElem_cons hlt, symsErr]; rfl
        have hx := hx.out.trans hd
        clear hd
        unfold Sy.val at ON AT
        generalize l[k].one = q at *
        generalize syAt l[k] l 0 = p at *
        by_cases hq : q = 0
        · rw [if_neg (by simp [hq])] at hx
          have hqb : (q == 0) = true := by simpa using hq
          by_cases hp : p < k
          · rw [if_pos hp] at hx
            have Hhw := Lib.hid hw
            have HhB := Lib.hid hB
            have Hhx := Lib.hid hx
            clear hw hB hx
            clear hq
            go_wp2_with fail
            refine (ON _).mono ?_
            rintro e w1 ⟨rfl, hb1⟩
            have r0 := cell_regrown (bkeeps hb1 _ _ k0)
            have r1 := cell_regrown (bkeeps hb1 _ _ g0)
            have r2 := cell_regrown (bkeeps hb1 _ _ g1)
            have r3 := cell_regrown (bkeeps hb1 _ _ g2)
            have z0 : (0 : Int) ≤ (k : Int) := by omega
            have z1 : (k : Int) < (l.length : Int) := by omega
            have hw1 := Lib.hid (bstep Hhw.out hb1)
            have hB1 := Lib.hid (HhB.out.below hb1)
            have hl1 := Lib.hid (hl.below hw1.out)
            clear hb1 Hhw HhB hl
            go_wp2_with fail
            refine wp_region_quiet_below (by kernel_rfl) (by kernel_rfl) ?_
            repeat (quiet_step (exact Calls.regrown_of (AT _ (hl1.out.below (below_regrown _ _ _)))))
            refine wpQuiet_nil ?_
            intro _ hw'
            obtain ⟨⟨dq, osq⟩, hw''⟩ := hw'
            subst hw''
            have hbq := below_regrown w1 dq osq
            generalize grow (redrawn w1 dq) osq = wq at hbq ⊢
            go_wp2_with fail
            go_ret
            exact ⟨rint Hhx.out, bstep hw1.out hbq⟩
          · rw [if_neg hp] at hx
            have Hhw := Lib.hid hw
            have HhB := Lib.hid hB
            have Hhx := Lib.hid hx
            clear hw hB hx
            clear hq
            go_wp2_with fail
            refine (ON _).mono ?_
            rintro e w1 ⟨rfl, hb1⟩
            have r0 := cell_regrown (bkeeps hb1 _ _ k0)
            have r1 := cell_regrown (bkeeps hb1 _ _ g0)
            have r2 := cell_regrown (bkeeps hb1 _ _ g1)
            have r3 := cell_regrown (bkeeps hb1 _ _ g2)
            have z0 : (0 : Int) ≤ (k : Int) := by omega
            have z1 : (k : Int) < (l.length : Int) := by omega
            have hw1 := Lib.hid (bstep Hhw.out hb1)
            have hB1 := Lib.hid (HhB.out.below hb1)
            have hl1 := Lib.hid (hl.below hw1.out)
            clear hb1 Hhw HhB hl
            go_wp2_with fail
            refine wp_region_quiet_below (by kernel_rfl) (by kernel_rfl) ?_
            repeat (quiet_step (exact Calls.regrown_of (AT _ (hl1.out.below (below_regrown _ _ _)))))
            refine wpQuiet_nil ?_
            intro _ hw'
            obtain ⟨⟨dq, osq⟩, hw''⟩ := hw'
            subst hw''
            have hbq := below_regrown w1 dq osq
            generalize grow (redrawn w1 dq) osq = wq at hbq ⊢
            go_wp2_with fail
            go_roundw
            case rel => exact ⟨k + 1, by omega, by omega, by go_num, Hhx.out, bstep hw1.out hbq, hB1.out.below hbq⟩
            case measure => simp [intOf]; omega
        · rw [if_pos hq] at hx
          have hqb : (q == 0) = false := by simpa using hq
          have Hhw := Lib.hid hw
          have HhB := Lib.hid hB
          have Hhx := Lib.hid hx
          clear hw hB hx
          clear hq
          go_wp2_with fail
          refine (ON _).mono ?_
          rintro e w1 ⟨rfl, hb1⟩
          go_wp2_with fail
          go_ret
          exact ⟨rint Hhx.out, bstep Hhw.out hb1⟩
      · have HV := Lib.hid (show r = 0 by rw [hx.out, List.drop_eq_nil_of_le (by omega), symsErr])
        go_wp2_with fail
        go_ret
        exact ⟨rint HV.out, hw⟩
  · rw [if_pos (by simpa using h3)] at E
    have HE := Lib.hid E
    have EQ := fun w => neqSy l[0].name truth.name l[0].ar truth.ar l[0].pred truth.pred w
    rw [decide_eq_false (show ¬ (⟨l[0].name, l[0].ar, l[0].pred⟩ : Sy) = ⟨truth.name, truth.ar, truth.pred⟩ from h3)] at EQ
    clear E h3 hhd
    go_enter Try.func38, Try.ntmps38
    go_wp2_with fail
    obtain ⟨B1, hw⟩ := box1 (Below.refl _ (w.alloc (.cells #[.slice a l.length c] 35)))
    generalize w.alloc (.cells #[.slice a l.length c] 35) = W0 at B1 hw ⊢
    have k0 := B1 0 _ rfl
    obtain ⟨b, o, rfl, g0, g1, g2, _, _⟩ := hl.at_ hw 0 h0
    simp only [Nat.zero_mul, Nat.add_zero] at g0 g1 g2
    have r0 := cell_regrown k0
    have r1 := cell_regrown g0
    have r2 := cell_regrown g1
    have r3 := cell_regrown g2
    have Hhw := Lib.hid hw
    have HB1 := Lib.hid B1
    clear hw B1
    refine wp_region_quiet_below (by kernel_rfl) (by kernel_rfl) ?_
    repeat (quiet_step (exact Calls.regrown_of (TR _)))
    refine wpQuiet_nil ?_
    intro _ hw'
    obtain ⟨⟨dq, osq⟩, hw''⟩ := hw'
    subst hw''
    have hbq := below_regrown W0 dq osq
    generalize grow (redrawn W0 dq) osq = wq at hbq ⊢
    go_wp2_with fail
    go_ret
    exact ⟨rint HE.out, bstep Hhw.out hbq⟩

end Go.Proofs.Ytlkiabgpnboicaa

/- The walks through the document's check of a term. -/
namespace Go.Proofs.Ytlkiabgpnboicaa
open Go.RowKit Go.Sort Go

namespace T
mutual
def depth : T → Nat
  | .mk _ l => depthL l + 1
def depthL : List T → Nat
  | [] => 0
  | a :: r => max (depth a) (depthL r)
end
mutual
theorem depth_le : ∀ t : T, depth t ≤ size t
  | .mk f l => by have := depthL_le l; rw [depth, size]; omega
theorem depthL_le : ∀ l : List T, depthL l ≤ sizeL l
  | [] => by simp [depthL]
  | a :: r => by have := depth_le a; have := depthL_le r; have := size_eq a; rw [depthL, sizeL]; omega
end
theorem depthL_take_succ (l : List T) (k : Nat) (h : k < l.length) : depthL (l.take (k + 1)) = max (depthL (l.take k)) (depth l[k]) := by
  induction l generalizing k with
  | nil => simp at h
  | cons t r ih =>
    cases k with
    | zero => simp [depthL]
    | succ k => simp [depthL, ih k (by simpa using h), Nat.max_assoc]
theorem depthL_take_le (l : List T) (k : Nat) : depthL (l.take k) ≤ depthL l := by
  induction l generalizing k with
  | nil => simp [depthL]
  | cons t r ih =>
    cases k with
    | zero => simp [depthL]
    | succ k => simp only [List.take_succ_cons, depthL]; have := ih k; omega

mutual
def low (m : Int) : T → Bool
  | .mk f l => if f < 0 then decide (-m ≤ f) && l.isEmpty else lowL m l
def lowL (m : Int) : List T → Bool
  | [] => true
  | a :: r => low m a && lowL m r
end
theorem lowL_all (m : Int) : ∀ l, lowL m l = l.all (low m)
  | [] => rfl
  | a :: r => by rw [lowL, List.all_cons, lowL_all m r]

def small (m : Int) (t : T) : Bool := decide (t.size ≤ 300) && (decide (t.depth ≤ 30) && t.low m)

mutual
def over (sg : List Sy) : Bool → T → Bool
  | top, .mk f l => if f < 0 then true else match sg[f.toNat]? with
    | none => false
    | some s => if s.ar ≠ l.length ∨ (s.pred = true ∧ top = false) then false else overL sg l
def overL (sg : List Sy) : List T → Bool
  | [] => true
  | a :: r => over sg false a && overL sg r
end
theorem overL_all (sg : List Sy) : ∀ l, overL sg l = l.all (over sg false)
  | [] => rfl
  | a :: r => by rw [overL, List.all_cons, overL_all sg r]
end T


theorem depth_any (t : T) : ∀ (w : World) (v : Value), t.size ≤ 4294967296 → IsT w t v →
    Calls Try.prog 52 #[v] w fun e w' => e = .returned (.int .i64 t.depth) ∧ Below w.heap.size w w' := by
  induction t using T.ind with
  | h f l ih =>
  intro w v hz hv
  obtain ⟨_, a, c, rfl, hc, hm, hl⟩ := hv
  unfold maxLen at hm
  have hz2 : T.sizeL l ≤ 4294967296 := by rw [T.size] at hz; omega
  have hd := T.depthL_le l
  have E := Lib.hid (show (T.mk f l).depth = T.depthL l + 1 by rw [T.depth])
  clear hz
  go_enter Try.func52, Try.ntmps52
  go_wp2
  go_loopw [3, 4] (fun n i wr => ∃ (k : Nat), k ≤ l.length ∧ i = .int .i64 k ∧ n = .int .i64 (T.depthL (l.take k) : Nat) ∧ Below w.heap.size w wr ∧ Box wr w.heap.size [.int .i64 f, .slice a l.length c]) (fun _ i _ => l.length - (intOf i).toNat)
  case atStart => exact ⟨0, Nat.zero_le _, rfl, vint (by simp [T.depthL]), balloc _ _, Box.new _ _ _⟩
  case round =>
    obtain ⟨k, hk, rfl, rfl, hw, hB⟩ := hrel
    obtain ⟨_, b1⟩ := hB.two
    have hd2 := T.depthL_take_le l k
    by_cases hlt : k < l.length
    · obtain ⟨b, o, a', c', rfl, g1, g2, h3⟩ := hl.at_ hw k hlt
      have hsz := T.size_le_sizeL (List.getElem_mem hlt)
      have IH := fun w v => ih l[k] (List.getElem_mem hlt) w v (by omega)
      have hs := Lib.hid (T.depthL_take_succ l k hlt)
      have hd3 := T.depth_le l[k]
      generalize T.depthL (l.take k) = p at *
      generalize T.depth l[k] = q at *
      have Hh3 := Lib.hid h3
      have HhB := Lib.hid hB
      have Hhw := Lib.hid hw
      clear h3 hB hw
      clear ih hl
      go_wp2_with (go_at_call 52; refine (IH _ _ Hh3.out).mono ?_; rintro e w' ⟨rfl, hb'⟩)
      go_roundw
      case rel => exact ⟨k + 1, by omega, by go_num, by rw [hs.out]; congr 1; omega, bstep Hhw.out hb', HhB.out.below hb'⟩
      case measure => simp [intOf]; omega
    · obtain rfl : k = l.length := by omega
      go_wp2_with fail
      go_ret
      exact ⟨rint (by rw [E.out]; simp), hw⟩

theorem low_any (m : Int) (hm : 0 ≤ m ∧ m ≤ 1000) (t : T) : ∀ (w : World) (v : Value), IsT w t v →
    Calls Try.prog 53 #[v, .int .i64 m] w fun e w' => e = .returned (.bool (t.low m)) ∧ Below w.heap.size w w' := by
  induction t using T.ind with
  | h f l ih =>
  intro w v hv
  obtain ⟨hi, a, c, rfl, hc, hmm, hl⟩ := hv
  unfold maxLen at hmm
  have E : (T.mk f l).low m = if f < 0 then decide (-m ≤ f) && l.isEmpty else l.all (T.low m) := by rw [T.low, T.lowL_all]
  generalize hr : (T.mk f l).low m = r at *
  clear hr
  by_cases h0 : f < 0
  · rw [if_pos h0] at E
    by_cases h1 : -m ≤ f
    · have HE := Lib.hid (show r = ((l.length : Int) == 0) by rw [E, decide_eq_true h1]; cases l <;> simp; omega)
      clear E
      go_enter Try.func53, Try.ntmps53
      go_wp2_with fail
      go_ret
      exact ⟨rbool HE.out, balloc _ _⟩
    · have HE := Lib.hid (show r = false by rw [E, decide_eq_false h1]; rfl)
      clear E
      go_enter Try.func53, Try.ntmps53
      go_wp2_with fail
      go_ret
      exact ⟨rbool HE.out, balloc _ _⟩
  · rw [if_neg h0] at E
    have HE := Lib.hid E
    clear E
    go_enter Try.func53, Try.ntmps53
    go_wp2_with fail
    go_loopw [5] (fun i wr => ∃ (k : Nat), k ≤ l.length ∧ i = .int .i64 k ∧ Hid ((l.take k).all (T.low m) = true) ∧ Below w.heap.size w wr ∧ Box wr w.heap.size [.int .i64 f, .slice a l.length c]) (fun i _ => l.length - (intOf i).toNat)
    case atStart => exact ⟨0, Nat.zero_le _, rfl, rfl, balloc _ _, Box.new _ _ _⟩
    case round =>
      obtain ⟨k, hk, rfl, hall, hw, hB⟩ := hrel
      obtain ⟨_, b1⟩ := hB.two
      by_cases hlt : k < l.length
      · obtain ⟨b, o, a', c', rfl, g1, g2, h3⟩ := hl.at_ hw k hlt
        have IH := fun w v => ih l[k] (List.getElem_mem hlt) w v
        have hs : (l.take (k + 1)).all (T.low m) = T.low m l[k] := by
          rw [List.take_succ_eq_append_getElem hlt, List.all_append, hall.out]; simp
        have hf : T.low m l[k] = false → r = false := fun h => by
          rw [HE.out]; exact List.all_eq_false.2 ⟨l[k], List.getElem_mem hlt, by rw [h]; simp⟩
        cases hq : T.low m l[k] with
        | true =>
          rw [hq] at hs IH
          have Hh3 := Lib.hid h3
          have HhB := Lib.hid hB
          have Hhw := Lib.hid hw
          have Hhs := Lib.hid hs
          clear h3 hB hw hs
          clear ih hl hf hq
          go_wp2_with (go_at_call 53; refine (IH _ _ Hh3.out).mono ?_; rintro e w' ⟨rfl, hb'⟩)
          go_roundw
          case rel => exact ⟨k + 1, by omega, by go_num, Hhs.out, bstep Hhw.out hb', HhB.out.below hb'⟩
          case measure => simp [intOf]; omega
        | false =>
          rw [hq] at IH
          have HV := Lib.hid (hf hq)
          have Hh3 := Lib.hid h3
          have HhB := Lib.hid hB
          have Hhw := Lib.hid hw
          clear h3 hB hw
          clear ih hl hf hq hs
          go_wp2_with (go_at_call 53; refine (IH _ _ Hh3.out).mono ?_; rintro e w' ⟨rfl, hb'⟩)
          go_ret
          exact ⟨rbool HV.out, bstep Hhw.out hb'⟩
      · have HV := Lib.hid (show r = true by
          have := hall.out
          rw [List.take_of_length_le (by omega)] at this
          rw [HE.out, this])
        go_wp2_with fail
        go_ret
        exact ⟨rbool HV.out, hw⟩

theorem small_any (m : Int) (hm : 0 ≤ m ∧ m ≤ 1000) (t : T) (w : World) (v : Value) (hz : t.size ≤ 4294967296) (hv : IsT w t v) :
    Calls Try.prog 41 #[v, .int .i64 m] w fun e w' => e = .returned (.bool (t.small m)) ∧ Below w.heap.size w w' := by
  have hv0 := hv
  obtain ⟨_, a, c, rfl, _, _, _⟩ := hv.form
  have SZ := fun w v => size_any t w v
  have DP := fun w v => depth_any t w v hz
  have LW := fun w v => low_any m hm t w v
  have ew : wrap64 t.size = (t.size : Int) := wrap64_id (by omega)
  rw [ew] at SZ
  have E : t.small m = (decide (t.size ≤ 300) && (decide (t.depth ≤ 30) && t.low m)) := rfl
  generalize t.small m = r at *
  have hdz := T.depth_le t
  generalize t.depth = d at *
  generalize t.low m = lo at *
  have Hhv0 := Lib.hid hv0
  clear hv0
  clear hv ew
  by_cases h1 : t.size ≤ 300
  · have h1' : (t.size : Int) ≤ 300 := by omega
    by_cases h2 : d ≤ 30
    · have h2' : (d : Int) ≤ 30 := by omega
      have HE := Lib.hid (show r = lo by rw [E]; simp [h1, h2])
      clear E
      go_enter Try.func41, Try.ntmps41
      go_wp2_with fail
      refine (SZ _ _ (Hhv0.out.below (balloc _ _))).mono ?_
      rintro e w1 ⟨rfl, hb1⟩
      obtain ⟨B1, hw1⟩ := box1 hb1
      obtain ⟨t0, t1⟩ := B1.two
      have Hhw1 := Lib.hid hw1
      clear hw1
      go_wp2_with fail
      refine (DP _ _ (Hhv0.out.below Hhw1.out)).mono ?_
      rintro e w2 ⟨rfl, hb2⟩
      have B2 := B1.below hb2
      clear t0 t1 B1 hb1
      obtain ⟨t0, t1⟩ := B2.two
      have hw2 := bstep Hhw1.out hb2
      have Hhw2 := Lib.hid hw2
      clear hw2
      go_wp2_with fail
      refine (LW _ _ (Hhv0.out.below Hhw2.out)).mono ?_
      rintro e w3 ⟨rfl, hb3⟩
      go_wp2_with fail
      go_ret
      exact ⟨rbool HE.out, bstep Hhw2.out hb3⟩
    · have h2' : ¬ (d : Int) ≤ 30 := by omega
      have HE := Lib.hid (show r = false by rw [E]; simp [h2])
      clear E
      go_enter Try.func41, Try.ntmps41
      go_wp2_with fail
      refine (SZ _ _ (Hhv0.out.below (balloc _ _))).mono ?_
      rintro e w1 ⟨rfl, hb1⟩
      obtain ⟨B1, hw1⟩ := box1 hb1
      obtain ⟨t0, t1⟩ := B1.two
      have Hhw1 := Lib.hid hw1
      clear hw1
      go_wp2_with fail
      refine (DP _ _ (Hhv0.out.below Hhw1.out)).mono ?_
      rintro e w2 ⟨rfl, hb2⟩
      go_wp2_with fail
      go_ret
      exact ⟨rbool HE.out, bstep Hhw1.out hb2⟩
  · have h1' : ¬ (t.size : Int) ≤ 300 := by omega
    have HE := Lib.hid (show r = false by rw [E]; simp [h1])
    clear E
    go_enter Try.func41, Try.ntmps41
    go_wp2_with fail
    refine (SZ _ _ (Hhv0.out.below (balloc _ _))).mono ?_
    rintro e w1 ⟨rfl, hb1⟩
    go_wp2_with fail
    go_ret
    exact ⟨rbool HE.out, bcall hb1⟩

theorem over_any (sg : List Sy) (t : T) : ∀ (top : Bool) (w : World) (vs v : Value), IsSig w sg vs → IsT w t v →
    Calls Try.prog 42 #[vs, v, .bool top] w fun e w' => e = .returned (.bool (t.over sg top)) ∧ Below w.heap.size w w' := by
  induction t using T.ind with
  | h f l ih =>
  intro top w vs v hs hv
  have hs0 := hs
  obtain ⟨a', c', rfl, hc', hm', hsl⟩ := hs
  obtain ⟨⟨hf1, hf2⟩, a, c, rfl, hc, hm, hl⟩ := hv
  unfold maxLen at hm hm'
  have E : (T.mk f l).over sg top = if f < 0 then true else match sg[f.toNat]? with
    | none => false
    | some s => if s.ar ≠ l.length ∨ (s.pred = true ∧ top = false) then false else l.all (T.over sg false) := by
    rw [T.over]; simp only [T.overL_all]
  generalize hr : (T.mk f l).over sg top = r at *
  clear hr
  by_cases h0 : f < 0
  · have HE := Lib.hid (show r = true by rw [E, if_pos h0])
    clear E
    go_enter Try.func42, Try.ntmps42
    go_wp2_with fail
    go_ret
    exact ⟨rbool HE.out, balloc2 _ _ _⟩
  rw [if_neg h0] at E
  by_cases h1 : f < sg.length
  · obtain ⟨n, rfl⟩ : ∃ n : Nat, f = n := ⟨f.toNat, by omega⟩
    have hn : n < sg.length := by omega
    simp only [Int.toNat_natCast] at E
    rw [List.getElem?_eq_getElem hn] at E
    simp only at E
    obtain ⟨b, o, rfl, g0, g1, g2, ⟨hi1, hi2⟩, _⟩ := hsl.at_ (Below.refl _ w) n hn
    generalize sg[n].ar = ar at *
    generalize sg[n].name = nm at *
    generalize sg[n].pred = pr at *
    have q0 := calloc (calloc g0 (.cells #[.slice (some ⟨b, o, none⟩) sg.length c'] 35)) (.cells #[.int .i64 n, .slice a l.length c] 27)
    have q1 := calloc (calloc g1 (.cells #[.slice (some ⟨b, o, none⟩) sg.length c'] 35)) (.cells #[.int .i64 n, .slice a l.length c] 27)
    have q2 := calloc (calloc g2 (.cells #[.slice (some ⟨b, o, none⟩) sg.length c'] 35)) (.cells #[.int .i64 n, .slice a l.length c] 27)
    by_cases h2 : ar = l.length
    · have hb2 : (ar == (l.length : Int)) = true := by simpa using h2
      by_cases h3 : pr = true ∧ top = false
      · have HE := Lib.hid (show r = false by rw [E, if_pos (.inr h3)])
        obtain ⟨rfl, rfl⟩ := h3
        clear E
        go_enter Try.func42, Try.ntmps42
        go_wp2_with fail
        go_ret
        exact ⟨rbool HE.out, bstep (balloc2 _ _ _) (balloc _ _)⟩
      · have HE := Lib.hid (show r = l.all (T.over sg false) by rw [E, if_neg]; rintro (h | h); exact h h2; exact h3 h)
        have key : (pr = false) ∨ (pr = true ∧ top = true) := by cases pr <;> cases top <;> simp_all
        clear E h3
        rcases key with rfl | ⟨rfl, rfl⟩
        · go_enter Try.func42, Try.ntmps42
          go_wp2_with fail
          go_loopw [8] (fun i wr => ∃ (k : Nat), k ≤ l.length ∧ i = .int .i64 k ∧ Hid ((l.take k).all (T.over sg false) = true) ∧ Below w.heap.size w wr ∧ Box wr w.heap.size [.slice (some ⟨b, o, none⟩) sg.length c'] ∧ Box wr (w.heap.size + 1) [.int .i64 n, .slice a l.length c]) (fun i _ => l.length - (intOf i).toNat)
          case atStart =>
            obtain ⟨B1, B2, hb⟩ := box2 (balloc ((w.alloc (.cells #[.slice (some ⟨b, o, none⟩) sg.length c'] 35)).alloc (.cells #[.int .i64 n, .slice a l.length c] 27)) _)
            exact ⟨0, Nat.zero_le _, rfl, rfl, hb, B1, B2⟩
          case round =>
            obtain ⟨k, hk, rfl, hall, hw, hB1, hB2⟩ := hrel
            obtain ⟨t0, t1⟩ := hB2.two
            have u0 := hB1 0 _ rfl
            clear q0 q1 q2 g0 g1 g2
            by_cases hlt : k < l.length
            · obtain ⟨b2, o2, a2, c2, rfl, g1, g2, h3⟩ := hl.at_ hw k hlt
              have IH := fun w vs v => ih l[k] (List.getElem_mem hlt) false w vs v
              have hs2 : (l.take (k + 1)).all (T.over sg false) = T.over sg false l[k] := by
                rw [List.take_succ_eq_append_getElem hlt, List.all_append, hall.out]; simp
              have hf : T.over sg false l[k] = false → r = false := fun h => by
                rw [HE.out]; exact List.all_eq_false.2 ⟨l[k], List.getElem_mem hlt, by rw [h]; simp⟩
              have r0 := cell_regrown u0
              have r1 := cell_regrown t0
              have r2 := cell_regrown t1
              have r3 := cell_regrown g1
              have r4 := cell_regrown g2
              have z0 : (0 : Int) ≤ (k : Int) := by omega
              have z1 : (k : Int) < (l.length : Int) := by omega
              have hsw := Lib.hid (hs0.below hw)
              cases hq : T.over sg false l[k] with
              | true =>
                rw [hq] at hs2 IH
                have Hh3 := Lib.hid h3
                have HhB1 := Lib.hid hB1
                have HhB2 := Lib.hid hB2
                have Hhw := Lib.hid hw
                have Hhs2 := Lib.hid hs2
                clear h3 hB1 hB2 hw hs2
                clear ih hl hf hq hs0 hsl
                go_wp2_with fail
                refine wp_region_quiet_below (by kernel_rfl) (by kernel_rfl) ?_
                repeat (quiet_step (exact Calls.regrown_of (IH _ _ _ (hsw.out.below (below_regrown _ _ _)) (Hh3.out.below (below_regrown _ _ _)))))
                refine wpQuiet_nil ?_
                intro _ hw'
                obtain ⟨⟨dq, osq⟩, hw''⟩ := hw'
                subst hw''
                have hbq := below_regrown wr dq osq
                generalize grow (redrawn wr dq) osq = wq at hbq ⊢
                go_wp2_with fail
                go_roundw
                case rel => exact ⟨k + 1, by omega, by go_num, Hhs2.out, bstep Hhw.out hbq, HhB1.out.below hbq, HhB2.out.below hbq⟩
                case measure => simp [intOf]; omega
              | false =>
                rw [hq] at IH
                have HV := Lib.hid (hf hq)
                have Hh3 := Lib.hid h3
                have HhB1 := Lib.hid hB1
                have HhB2 := Lib.hid hB2
                have Hhw := Lib.hid hw
                clear h3 hB1 hB2 hw
                clear ih hl hf hq hs2 hs0 hsl
                go_wp2_with fail
                refine wp_region_quiet_below (by kernel_rfl) (by kernel_rfl) ?_
                repeat (quiet_step (exact Calls.regrown_of (IH _ _ _ (hsw.out.below (below_regrown _ _ _)) (Hh3.out.below (below_regrown _ _ _)))))
                refine wpQuiet_nil ?_
                intro _ hw'
                obtain ⟨⟨dq, osq⟩, hw''⟩ := hw'
                subst hw''
                have hbq := below_regrown wr dq osq
                generalize grow (redrawn wr dq) osq = wq at hbq ⊢
                go_wp2_with fail
                go_ret
                exact ⟨rbool HV.out, bstep Hhw.out hbq⟩
            · have HV := Lib.hid (show r = true by
                have := hall.out
                rw [List.take_of_length_le (by omega)] at this
                rw [HE.out, this])
              go_wp2_with fail
              go_ret
              exact ⟨rbool HV.out, hw⟩
        · go_enter Try.func42, Try.ntmps42
          go_wp2_with fail
          go_loopw [8] (fun i wr => ∃ (k : Nat), k ≤ l.length ∧ i = .int .i64 k ∧ Hid ((l.take k).all (T.over sg false) = true) ∧ Below w.heap.size w wr ∧ Box wr w.heap.size [.slice (some ⟨b, o, none⟩) sg.length c'] ∧ Box wr (w.heap.size + 1) [.int .i64 n, .slice a l.length c]) (fun i _ => l.length - (intOf i).toNat)
          case atStart =>
            obtain ⟨B1, B2, hb⟩ := box2 (balloc ((w.alloc (.cells #[.slice (some ⟨b, o, none⟩) sg.length c'] 35)).alloc (.cells #[.int .i64 n, .slice a l.length c] 27)) _)
            exact ⟨0, Nat.zero_le _, rfl, rfl, hb, B1, B2⟩
          case round =>
            obtain ⟨k, hk, rfl, hall, hw, hB1, hB2⟩ := hrel
            obtain ⟨t0, t1⟩ := hB2.two
            have u0 := hB1 0 _ rfl
            clear q0 q1 q2 g0 g1 g2
            by_cases hlt : k < l.length
            · obtain ⟨b2, o2, a2, c2, rfl, g1, g2, h3⟩ := hl.at_ hw k hlt
              have IH := fun w vs v => ih l[k] (List.getElem_mem hlt) false w vs v
              have hs2 : (l.take (k + 1)).all (T.over sg false) = T.over sg false l[k] := by
                rw [List.take_succ_eq_append_getElem hlt, List.all_append, hall.out]; simp
              have hf : T.over sg false l[k] = false → r = false := fun h => by
                rw [HE.out]; exact List.all_eq_false.2 ⟨l[k], List.getElem_mem hlt, by rw [h]; simp⟩
              have r0 := cell_regrown u0
              have r1 := cell_regrown t0
              have r2 := cell_regrown t1
              have r3 := cell_regrown g1
              have r4 := cell_regrown g2
              have z0 : (0 : Int) ≤ (k : Int) := by omega
              have z1 : (k : Int) < (l.length : Int) := by omega
              have hsw := Lib.hid (hs0.below hw)
              cases hq : T.over sg false l[k] with
              | true =>
                rw [hq] at hs2 IH
                have Hh3 := Lib.hid h3
                have HhB1 := Lib.hid hB1
                have HhB2 := Lib.hid hB2
                have Hhw := Lib.hid hw
                have Hhs2 := Lib.hid hs2
                clear h3 hB1 hB2 hw hs2
                clear ih hl hf hq hs0 hsl
                go_wp2_with fail
                refine wp_region_quiet_below (by kernel_rfl) (by kernel_rfl) ?_
                repeat (quiet_step (exact Calls.regrown_of (IH _ _ _ (hsw.out.below (below_regrown _ _ _)) (Hh3.out.below (below_regrown _ _ _)))))
                refine wpQuiet_nil ?_
                intro _ hw'
                obtain ⟨⟨dq, osq⟩, hw''⟩ := hw'
                subst hw''
                have hbq := below_regrown wr dq osq
                generalize grow (redrawn wr dq) osq = wq at hbq ⊢
                go_wp2_with fail
                go_roundw
                case rel => exact ⟨k + 1, by omega, by go_num, Hhs2.out, bstep Hhw.out hbq, HhB1.out.below hbq, HhB2.out.below hbq⟩
                case measure => simp [intOf]; omega
              | false =>
                rw [hq] at IH
                have HV := Lib.hid (hf hq)
                have Hh3 := Lib.hid h3
                have HhB1 := Lib.hid hB1
                have HhB2 := Lib.hid hB2
                have Hhw := Lib.hid hw
                clear h3 hB1 hB2 hw
                clear ih hl hf hq hs2 hs0 hsl
                go_wp2_with fail
                refine wp_region_quiet_below (by kernel_rfl) (by kernel_rfl) ?_
                repeat (quiet_step (exact Calls.regrown_of (IH _ _ _ (hsw.out.below (below_regrown _ _ _)) (Hh3.out.below (below_regrown _ _ _)))))
                refine wpQuiet_nil ?_
                intro _ hw'
                obtain ⟨⟨dq, osq⟩, hw''⟩ := hw'
                subst hw''
                have hbq := below_regrown wr dq osq
                generalize grow (redrawn wr dq) osq = wq at hbq ⊢
                go_wp2_with fail
                go_ret
                exact ⟨rbool HV.out, bstep Hhw.out hbq⟩
            · have HV := Lib.hid (show r = true by
                have := hall.out
                rw [List.take_of_length_le (by omega)] at this
                rw [HE.out, this])
              go_wp2_with fail
              go_ret
              exact ⟨rbool HV.out, hw⟩
    · have HE := Lib.hid (show r = false by rw [E, if_pos (.inl h2)])
      have hb2 : (ar == (l.length : Int)) = false := by simpa using h2
      clear E
      go_enter Try.func42, Try.ntmps42
      go_wp2_with fail
      go_ret
      exact ⟨rbool HE.out, bstep (balloc2 _ _ _) (balloc _ _)⟩
  · have HE := Lib.hid (show r = false by rw [E, List.getElem?_eq_none (by omega)])
    clear E
    go_enter Try.func42, Try.ntmps42
    go_wp2_with fail
    go_ret
    exact ⟨rbool HE.out, balloc2 _ _ _⟩

end Go.Proofs.Ytlkiabgpnboicaa

/- What orders and terms that may be over a signature have, plainly. -/
namespace Go.Proofs.Ytlkiabgpnboicaa

def SymOk (o : Od) (x : Sy) (i : Nat) : Prop := (0 ≤ o.weights.getD i 0 ∧ o.weights.getD i 0 ≤ 1000) ∧ (x.ar = 0 → o.var ≤ o.weights.getD i 0) ∧ (x.ar = 1 → o.weights.getD i 0 = 0 → ∀ k, k < o.prec.length → o.prec.getD k 0 ≤ o.prec.getD i 0)
/-- What an order that may be over a signature has. -/
structure OrdOk (sg : List Sy) (o : Od) : Prop where
  sig : sigCheck sg = 0
  len : o.prec.length = sg.length
  ranks : Ranks o.prec
  kbo : o.lpo = false → o.weights.length = sg.length ∧ 1 ≤ o.var ∧ o.var ≤ 1000 ∧ o.weights.getD 0 0 = o.var ∧
    ∀ i (h : i < sg.length), SymOk o sg[i] i

theorem sigCheck_pos {sg : List Sy} (h : sigCheck sg = 0) : 0 < sg.length := by
  cases sg with
  | nil => unfold sigCheck at h; simp at h
  | cons a r => simp

/-- May the term be over the signature? -/
def T.check (sg : List Sy) (t : T) : Int := if sigCheck sg = 0 ∧ t.small 48 = true ∧ t.over sg true = true then 0 else 2

def FitsOk (sg : List Sy) (o : Od) (l : List T) : Prop := o.lpo = false ∧ OrdOk sg o ∧ ∀ t ∈ l, t.check sg = 0

end Go.Proofs.Ytlkiabgpnboicaa

/- A region that draws its order and whose operations make memory, walked once: each operation has a relation between its value and the memory that outlives whatever is added to the memory. -/
namespace Go.Proofs.Ytlkiabgpnboicaa
open Go.RowKit Go

section
variable {P : Program} {ops : Array Oper}

/-- The frame's temporaries behind the region: 'u' at the slots of the list, as they were elsewhere. -/
def fin (ds : List Nat) (u : Nat → Value) : Nat → List Value → List Value
  | _, [] => []
  | k, x :: r => (if ds.contains k then u k else x) :: fin ds u (k + 1) r

theorem fin_len (ds : List Nat) (u : Nat → Value) : ∀ (l : List Value) (k : Nat), (fin ds u k l).length = l.length
  | [], _ => rfl
  | _ :: r, k => by simp [fin, fin_len ds u r (k + 1)]
theorem fin_at (ds : List Nat) (u : Nat → Value) : ∀ (l : List Value) (k i : Nat), i < l.length → (fin ds u k l)[i]? = some (if ds.contains (k + i) then u (k + i) else l.getD i undef)
  | [], _, i, h => by simp at h
  | x :: r, k, 0, _ => by simp [fin]
  | x :: r, k, i + 1, h => by
    have := fin_at ds u r (k + 1) i (by simpa using h)
    simp only [fin, List.getElem?_cons_succ, this, List.getD_cons_succ]
    rw [show k + 1 + i = k + (i + 1) by omega]

/-- One operation holds its relation. -/
def Sound (P : Program) (ops : Array Oper) (Q : Exit → Act → World → Prop) (R : Nat → Value → World → Prop) (w0 : World) (a0 : Act) (i : Nat) (o : Oper) : Prop :=
  (∀ g b, o.guard = some (g, b) → ∀ v w, R g v w → v = .bool b) ∧
  ∀ (f : Nat → Value) (w : World), Below w0.heap.size w0 w → (∀ d, (dstsOf ops).contains d = false → f d = a0.tmps.getD d undef) →
    (∀ j d, depB ops o j d = true → R j (f d) w) →
    o.wp P ⟨((List.range a0.tmps.size).map f).toArray, a0.defers⟩ w (fun a' w' => ∃ v, a' = Act.put ⟨((List.range a0.tmps.size).map f).toArray, a0.defers⟩ o.dst v ∧ Below w.heap.size w w' ∧ R i v w') Q

def SoundFrom (P : Program) (ops : Array Oper) (Q : Exit → Act → World → Prop) (R : Nat → Value → World → Prop) (w0 : World) (a0 : Act) : Nat → List Oper → Prop
  | _, [] => True
  | k, o :: r => Sound P ops Q R w0 a0 k o ∧ SoundFrom P ops Q R w0 a0 (k + 1) r

theorem SoundFrom.at_ {Q : Exit → Act → World → Prop} {R : Nat → Value → World → Prop} {w0 : World} {a0 : Act} : ∀ {l : List Oper} {k : Nat}, SoundFrom P ops Q R w0 a0 k l → ∀ i o, l[i]? = some o → Sound P ops Q R w0 a0 (k + i) o
  | [], _, _, i, o, h => by simp at h
  | x :: r, k, h, 0, o, ho => by simp at ho; subst ho; exact h.1
  | x :: r, k, h, i + 1, o, ho => by
    have := h.2.at_ i o (by simpa using ho)
    rwa [show k + 1 + i = k + (i + 1) by omega] at this

theorem wp_region_rel {id : Nat} {Q : Exit → Act → World → Prop} {a0 : Act} {w0 : World} (R : Nat → Value → World → Prop) (hm : P.follows .mixedOrders = true) (hB : opsB ops a0.tmps.size = true)
    (hR : ∀ i v w w', R i v w → Below w.heap.size w w' → R i v w')
    (h : SoundFrom P ops Q R w0 a0 0 ops.toList)
    (hQ : ∀ (u : Nat → Value) (w : World), Below w0.heap.size w0 w → (∀ i d, (ops[i]?).bind (·.dst) = some d → R i (u d) w) → Q .normal ⟨(fin (dstsOf ops) u 0 a0.tmps.toList).toArray, a0.defers⟩ w) :
    (Code.region id ops true).wp P Q a0 w0 := by
  refine wp_region_any hm ?_
  have main : ∀ (fuel : Nat) (listed : Array Bool) (f : Nat → Value) (w : World), listed.size = ops.size → listed.toList.count false ≤ fuel → Below w0.heap.size w0 w →
      (∀ d, (dstsOf ops).contains d = false → f d = a0.tmps.getD d undef) →
      (∀ i d, listed.getD i false = true → (ops[i]?).bind (·.dst) = some d → R i (f d) w) →
      wpAny P .any ops Q fuel listed ⟨((List.range a0.tmps.size).map f).toArray, a0.defers⟩ w := by
    intro fuel
    have done : ∀ (listed : Array Bool) (f : Nat → Value) (w : World), listed.size = ops.size → Region.ready .any ops listed = [] → Below w0.heap.size w0 w →
      (∀ d, (dstsOf ops).contains d = false → f d = a0.tmps.getD d undef) →
      (∀ i d, listed.getD i false = true → (ops[i]?).bind (·.dst) = some d → R i (f d) w) →
      Q .normal ⟨((List.range a0.tmps.size).map f).toArray, a0.defers⟩ w := by
      intro listed f w hs hr hw hn hl
      have := hQ f w hw (fun i d hd => by
        have hi : i < ops.size := by
          rcases Nat.lt_or_ge i ops.size with h | h
          · exact h
          · simp [Array.getElem?_eq_none h] at hd
        have := ready_nil hB hs hr i hi
        exact hl i d (by simpa [Array.getD, show i < listed.size by omega] using this) hd)
      have e : fin (dstsOf ops) f 0 a0.tmps.toList = (List.range a0.tmps.size).map f := by
        apply List.ext_getElem?
        intro k
        by_cases hk : k < a0.tmps.size
        · rw [fin_at _ _ _ _ _ (by simpa using hk)]
          simp only [Nat.zero_add, List.getElem?_map, List.getElem?_range hk, Option.map_some]
          congr 1
          cases hc : (dstsOf ops).contains k with
          | true => simp
          | false => simp [hn k hc, hk]
        · rw [List.getElem?_eq_none (by rw [fin_len]; simpa using hk), List.getElem?_eq_none (by simpa using hk)]
      rwa [e] at this
    induction fuel with
    | zero =>
      intro listed f w hs hc hw hn hl
      have hr : Region.ready .any ops listed = [] := by
        cases hr : Region.ready .any ops listed with
        | nil => rfl
        | cons i r =>
          have := (mem_ready (md := .any) (ops := ops) (j := i) (listed := listed)).1 (by rw [hr]; simp)
          rw [count_zero hc i] at this
          simp at this
      exact ⟨hr, done listed f w hs hr hw hn hl⟩
    | succ fuel ih =>
      intro listed f w hs hc hw hn hl
      refine ⟨fun hr => done listed f w hs hr hw hn hl, fun i hi => ?_⟩
      obtain ⟨hun, o, ho, haf⟩ := mem_ready.1 hi
      have hilt : i < ops.size := by
        rcases Nat.lt_or_ge i ops.size with h | h
        · exact h
        · simp [Array.getElem?_eq_none h] at ho
      have ok := opsB_spec hB ho
      obtain ⟨hg, hs2⟩ := h.at_ i o (by simpa using ho)
      rw [Nat.zero_add] at hs2
      have hdep : ∀ j d, depB ops o j d = true → R j (f d) w := by
        intro j d hj
        simp only [depB, Bool.and_eq_true, Array.any_eq_true, beq_iff_eq] at hj
        obtain ⟨⟨k, hk, h1, h2⟩, h3⟩ := hj
        exact hl j d (h1 ▸ haf _ (Array.getElem_mem hk) h2) h3
      unfold wpOp
      simp only [ho]
      have hwant : Region.wanted o (yielded ops ((List.range a0.tmps.size).map f).toArray) = true := by
        unfold Region.wanted
        split
        · rfl
        · rename_i g b hgb
          obtain ⟨⟨e, he, h1, h2⟩, d, hd⟩ := ok.guard g b hgb
          have hv := hg g b hgb (f d) w (hl g d (h1 ▸ haf e he h2) hd)
          have hdlt : d < a0.tmps.size := by
            obtain ⟨og, hog, hgd⟩ := Option.bind_eq_some_iff.1 hd
            exact (opsB_spec hB hog).lt d hgd
          have : yielded ops ((List.range a0.tmps.size).map f).toArray g = some b := by
            unfold yielded
            rw [hd]
            simp [hdlt, hv]
          simp [this]
      simp only [hwant, if_true]
      refine Or.inl (Oper.wp_mono ?_ (hs2 f w hw hn hdep))
      rintro a' w' ⟨v, rfl, hb, hRi⟩
      have hw' : Below w0.heap.size w0 w' := bstep hw hb
      have hs' : (listed.setIfInBounds i true).size = ops.size := by simpa using hs
      have hc' := count_set (l := listed) (by omega) hun hc
      cases hd : o.dst with
      | none =>
        refine ih _ f w' hs' hc' hw' hn (fun j d hj hjd => ?_)
        have hji : j ≠ i := by rintro rfl; rw [ho] at hjd; simp [hd] at hjd
        have : listed.getD j false = true := by rwa [getD_set_ne false (Ne.symm hji)] at hj
        exact hR _ _ _ _ (hl j d this hjd) hb
      | some d =>
        have hdlt := ok.lt d hd
        have e : Act.put ⟨((List.range a0.tmps.size).map f).toArray, a0.defers⟩ (some d) v = ⟨((List.range a0.tmps.size).map (fun k => if k = d then v else f k)).toArray, a0.defers⟩ := by
          simp only [Act.put, Act.mk.injEq, and_true]
          apply Array.ext_getElem?
          intro k
          rw [Array.getElem?_setIfInBounds]
          by_cases hk : k < a0.tmps.size
          · by_cases hkd : d = k
            · subst hkd; simp [hk]
            · simp [hk, hkd, Ne.symm hkd]
          · have : ¬ d = k := fun e => hk (e ▸ hdlt)
            simp [this, hk]
        rw [e]
        refine ih _ _ w' hs' hc' hw' (fun k hk => ?_) (fun j k hj hjk => ?_)
        · have : k ≠ d := by rintro rfl; rw [mem_dsts ho hd] at hk; simp at hk
          simp [this, hn k hk]
        · by_cases hji : j = i
          · subst hji
            rw [ho] at hjk
            simp [hd] at hjk
            subst hjk
            simpa using hRi
          · have hj' : listed.getD j false = true := by rwa [getD_set_ne false (Ne.symm hji)] at hj
            have hkd : k ≠ d := by
              rintro rfl
              have hjlt : j < ops.size := by
                rcases Nat.lt_or_ge j ops.size with h | h
                · exact h
                · simp [Array.getElem?_eq_none h] at hjk
              exact hji (ok.own k j hd hjlt hjk).symm
            simp only [hkd, if_false]
            exact hR _ _ _ _ (hl j k hj' hjk) hb
  have e0 : a0 = ⟨((List.range a0.tmps.size).map (fun d => a0.tmps.getD d undef)).toArray, a0.defers⟩ := by
    obtain ⟨t, df⟩ := a0
    simp only [Act.mk.injEq, and_true]
    apply Array.ext_getElem?
    intro k
    by_cases hk : k < t.size <;> simp [hk]
  rw [e0]
  refine main _ _ _ _ (by simp) (by simp) ⟨rfl, rfl, rfl, Nat.le_refl _, fun _ _ => rfl⟩ (fun _ _ => rfl) (fun i d hi => ?_)
  rcases Nat.lt_or_ge i ops.size with h | h
  · simp [Array.getD, h] at hi
  · simp [Array.getD, Nat.not_lt.2 h] at hi

/-- The same; behind it the frame is a row of which each slot is known. -/
theorem wp_region_rel_at {id : Nat} {Q : Exit → Act → World → Prop} {a0 : Act} {w0 : World} (R : Nat → Value → World → Prop) (hm : P.follows .mixedOrders = true) (hB : opsB ops a0.tmps.size = true)
    (hR : ∀ i v w w', R i v w → Below w.heap.size w w' → R i v w')
    (h : SoundFrom P ops Q R w0 a0 0 ops.toList)
    (hQ : ∀ (L : Array Value) (w : World), Below w0.heap.size w0 w → (∀ i d, (ops[i]?).bind (·.dst) = some d → ∃ v, L[d]? = some v ∧ R i v w) → (∀ d, (dstsOf ops).contains d = false → L[d]? = a0.tmps[d]?) → Q .normal ⟨L, a0.defers⟩ w) :
    (Code.region id ops true).wp P Q a0 w0 := by
  refine wp_region_rel R hm hB hR h (fun u w hw hu => hQ _ w hw (fun i d hd => ⟨u d, ?_, hu i d hd⟩) (fun d hd => ?_))
  · obtain ⟨o, ho, hod⟩ := Option.bind_eq_some_iff.1 hd
    have hlt := (opsB_spec hB ho).lt d hod
    rw [List.getElem?_toArray, fin_at _ _ _ _ _ (by simpa using hlt), Nat.zero_add, if_pos (mem_dsts ho hod)]
  · rw [List.getElem?_toArray]
    by_cases hk : d < a0.tmps.size
    · rw [fin_at _ _ _ _ _ (by simpa using hk), Nat.zero_add, hd]
      simp [hk]
    · rw [List.getElem?_eq_none (by rw [fin_len]; simpa using hk), Array.getElem?_eq_none (by simpa using hk)]

end
end Go.Proofs.Ytlkiabgpnboicaa

/- The kinds of operations of a region whose operations make terms. -/
namespace Go.Proofs.Ytlkiabgpnboicaa
open Go.RowKit Go

/-- What is known of an operation's value. -/
inductive Spec where
  | any
  | val (v : Value)
  | term (t : T)
  | terms (l : List T)
  | order (o : Od)

def Spec.holds : Spec → Value → World → Prop
  | .any, _, _ => True
  | .val x, v, _ => v = x
  | .term t, v, w => IsT w t v
  | .terms l, v, w => ∃ (a : Option Addr) (c : Nat), v = .slice a l.length c ∧ l.length ≤ c ∧ c ≤ maxLen ∧ IsTs w l a 0
  | .order o, v, w => IsOd w o v

theorem Spec.keep (s : Spec) {v : Value} {w w' : World} (h : s.holds v w) (hb : Below w.heap.size w w') : s.holds v w' := by
  cases s with
  | any => trivial
  | val x => exact h
  | term t => exact IsT.below hb h
  | terms l => obtain ⟨a, c, h1, h2, h3, h4⟩ := h; exact ⟨a, c, h1, h2, h3, h4.below hb⟩
  | order o => exact IsOd.below hb h

def specR (l : List Spec) (i : Nat) : Value → World → Prop := (l.getD i .any).holds

section
variable {w : World} {a : Act} {K : Act → World → Prop} {Q : Exit → Act → World → Prop} {o : Oper}

theorem wp_load4 {x : Operand} {b : Nat} {x0 x1 x2 x3 : Value} (ho : o.op = .load 24 x) (hx : a.eval x = .pointer (some ⟨b, 0, none⟩)) (hB : Box w b [x0, x1, x2, x3]) (hK : K (a.put o.dst (.agg #[x0, x1, x2, x3])) w) : o.wp Try.prog a w K Q := by
  obtain ⟨h0, h1, h2, h3⟩ := hB.four
  unfold Oper.wp execOp
  simp only [ho, hx]
  go_simp
  exact hK

theorem wp_load2 {x : Operand} {b : Nat} {x0 x1 : Value} (ho : o.op = .load 27 x) (hx : a.eval x = .pointer (some ⟨b, 0, none⟩)) (hB : Box w b [x0, x1]) (hK : K (a.put o.dst (.agg #[x0, x1])) w) : o.wp Try.prog a w K Q := by
  obtain ⟨h0, h1⟩ := hB.two
  unfold Oper.wp execOp
  simp only [ho, hx]
  go_simp
  exact hK

theorem terms1 {t : T} {u v : Value} (hu : IsT w t (.agg #[u, v])) : Below w.heap.size w (w.alloc (.cells #[u, v] 27)) ∧ (Spec.terms [t]).holds (.slice (some ⟨w.heap.size, 0, none⟩) 1 1) (w.alloc (.cells #[u, v] 27)) := by
  have hb := balloc w (.cells #[u, v] 27)
  exact ⟨hb, _, _, rfl, Nat.le_refl _, by unfold maxLen; simp, ⟨⟨_, 0, _, _, rfl, by simp, by simp, hu.below hb⟩, trivial⟩⟩

theorem terms2 {t s : T} {u v x y : Value} (hu : IsT w t (.agg #[u, v])) (hx : IsT w s (.agg #[x, y])) : Below w.heap.size w (w.alloc (.cells #[u, v, x, y] 27)) ∧ (Spec.terms [t, s]).holds (.slice (some ⟨w.heap.size, 0, none⟩) 2 2) (w.alloc (.cells #[u, v, x, y] 27)) := by
  have hb := balloc w (.cells #[u, v, x, y] 27)
  exact ⟨hb, _, _, rfl, Nat.le_refl _, by unfold maxLen; simp, ⟨⟨_, 0, _, _, rfl, by simp, by simp, hu.below hb⟩, ⟨_, 0, _, _, rfl, by simp, by simp, hx.below hb⟩, trivial⟩⟩

theorem wp_row1 {x : Operand} {t : T} {u : Value} (ho : o.op = .buildSlice 25 1 #[(0, x)]) (hx : a.eval x = u) (hu : IsT w t u) (hK : ∀ v w', Below w.heap.size w w' ∧ (Spec.terms [t]).holds v w' → K (a.put o.dst v) w') : o.wp Try.prog a w K Q := by
  obtain ⟨_, a1, c1, rfl, _, _, _⟩ := id hu.form
  unfold Oper.wp execOp
  simp only [ho, hx, List.map_toArray, List.map_cons, List.map_nil]
  go_simp
  exact hK _ _ (terms1 hu)

theorem wp_row2 {x y : Operand} {t s : T} {u v : Value} (ho : o.op = .buildSlice 25 2 #[(0, x), (1, y)]) (hx : a.eval x = u) (hy : a.eval y = v) (hu : IsT w t u) (hv : IsT w s v) (hK : ∀ v w', Below w.heap.size w w' ∧ (Spec.terms [t, s]).holds v w' → K (a.put o.dst v) w') : o.wp Try.prog a w K Q := by
  obtain ⟨_, a1, c1, rfl, _, _, _⟩ := id hu.form
  obtain ⟨_, a2, c2, rfl, _, _, _⟩ := id hv.form
  unfold Oper.wp execOp
  simp only [ho, hx, hy, List.map_toArray, List.map_cons, List.map_nil]
  go_simp
  exact hK _ _ (terms2 hu hv)

theorem wp_eql {x : Operand} {k : Int} {ty : TypeId} (ho : o.op = .binOp .eql ty x (.const (.int .i64 k)) ty) (hx : a.eval x = .int .i64 k) (hK : K (a.put o.dst (.bool true)) w) : o.wp Try.prog a w K Q := by
  have hc : a.eval (.const (.int .i64 k)) = .int .i64 k := rfl
  unfold Oper.wp execOp
  simp only [ho, hx, hc]
  go_simp
  exact hK

theorem wp_eqi {x y : Operand} {m n : Int} {b : Bool} {ty : TypeId} (ho : o.op = .binOp .eql ty x y ty) (hx : a.eval x = .int .i64 m) (hy : a.eval y = .int .i64 n) (hb : (m == n) = b) (hK : K (a.put o.dst (.bool b)) w) : o.wp Try.prog a w K Q := by
  subst hb
  unfold Oper.wp execOp
  simp only [ho, hx, hy]
  go_simp
  exact hK

theorem wp_eqb {x y : Operand} {m n b : Bool} (ho : o.op = .binOp .eql 4 x y 4) (hx : a.eval x = .bool m) (hy : a.eval y = .bool n) (hb : (m == n) = b) (hK : K (a.put o.dst (.bool b)) w) : o.wp Try.prog a w K Q := by
  subst hb
  unfold Oper.wp execOp
  simp only [ho, hx, hy]
  go_simp
  exact hK

theorem wp_pick {P : Program} {x y z : Operand} {v : Value} (ho : o.op = .pick x y z) (hx : a.eval x = .bool true) (hy : a.eval y = v) (hK : K (a.put o.dst v) w) : o.wp P a w K Q := by
  unfold Oper.wp execOp
  simp only [ho, hx, hy]
  exact hK

theorem fin_first {ds : List Nat} (u : Nat → Value) {x v : Value} {l r : List Value} (h : ds.contains 0 = true) (hu : u 0 = v) (hl : l = x :: r) : ∃ r', fin ds u 0 l = v :: r' := by
  subst hl hu
  exact ⟨_, by rw [fin, if_pos h]⟩

theorem fin_slot {ds : List Nat} (u : Nat → Value) {l : List Value} {j : Nat} {v : Value} (h : ds.contains j = true) (hj : Nat.blt j l.length = true) (hu : u j = v) : (fin ds u 0 l)[j]? = some v := by
  rw [fin_at _ _ _ _ _ (by simpa [Nat.blt_eq] using hj), Nat.zero_add, if_pos h, hu]

theorem spec_of {P : Program} {F : FuncId} {vs : Array Value} {v : Value} (h : Calls P F vs w fun e w' => e = .returned v ∧ Below w.heap.size w w') :
    Calls P F vs w fun e w' => ∃ v', e = .returned v' ∧ (Below w.heap.size w w' ∧ (Spec.val v).holds v' w') :=
  h.mono (by rintro e w' ⟨rfl, hb⟩; exact ⟨_, rfl, hb, rfl⟩)

theorem rel_eval {f : Nat → Value} {n d : Nat} {df : List Deferred} (h : Nat.blt d n = true) : Act.eval ⟨((List.range n).map f).toArray, df⟩ (.tmp d) = f d := by
  have : d < n := by simpa [Nat.blt_eq] using h
  simp [Act.eval, this]

end
end Go.Proofs.Ytlkiabgpnboicaa

/- As in Rel, and a guard may be so or not: the value of an operation that is passed over is not defined. -/
namespace Go.Proofs.Ytlkiabgpnboicaa
open Go.RowKit Go

section
variable {P : Program} {ops : Array Oper}

/-- One operation holds its relation. -/
def Sound2 (P : Program) (ops : Array Oper) (Q : Exit → Act → World → Prop) (R : Nat → Value → World → Prop) (w0 : World) (a0 : Act) (i : Nat) (o : Oper) : Prop :=
  ∃ β, GuardIs R o β ∧ (β = false → ∀ w, R i undef w) ∧
  (β = true → ∀ (f : Nat → Value) (w : World), Below w0.heap.size w0 w → (∀ d, (dstsOf ops).contains d = false → f d = a0.tmps.getD d undef) →
    (∀ j d, depB ops o j d = true → R j (f d) w) →
    o.wp P ⟨((List.range a0.tmps.size).map f).toArray, a0.defers⟩ w (fun a' w' => ∃ v, a' = Act.put ⟨((List.range a0.tmps.size).map f).toArray, a0.defers⟩ o.dst v ∧ Below w.heap.size w w' ∧ R i v w') Q)

def SoundFrom2 (P : Program) (ops : Array Oper) (Q : Exit → Act → World → Prop) (R : Nat → Value → World → Prop) (w0 : World) (a0 : Act) : Nat → List Oper → Prop
  | _, [] => True
  | k, o :: r => Sound2 P ops Q R w0 a0 k o ∧ SoundFrom2 P ops Q R w0 a0 (k + 1) r

theorem SoundFrom2.at_ {Q : Exit → Act → World → Prop} {R : Nat → Value → World → Prop} {w0 : World} {a0 : Act} : ∀ {l : List Oper} {k : Nat}, SoundFrom2 P ops Q R w0 a0 k l → ∀ i o, l[i]? = some o → Sound2 P ops Q R w0 a0 (k + i) o
  | [], _, _, i, o, h => by simp at h
  | x :: r, k, h, 0, o, ho => by simp at ho; subst ho; exact h.1
  | x :: r, k, h, i + 1, o, ho => by
    have := h.2.at_ i o (by simpa using ho)
    rwa [show k + 1 + i = k + (i + 1) by omega] at this

theorem wp_any_opt {Q : Exit → Act → World → Prop} {a0 : Act} {w0 : World} (R : Nat → Value → World → Prop) (hB : opsB ops a0.tmps.size = true)
    (hR : ∀ i v w w', R i v w → Below w.heap.size w w' → R i v w')
    (h : SoundFrom2 P ops Q R w0 a0 0 ops.toList)
    (hQ : ∀ (u : Nat → Value) (w : World), Below w0.heap.size w0 w → (∀ i d, (ops[i]?).bind (·.dst) = some d → R i (u d) w) → Q .normal ⟨(fin (dstsOf ops) u 0 a0.tmps.toList).toArray, a0.defers⟩ w) :
    ∀ w1, Below w0.heap.size w0 w1 → wpAny P .any ops Q ops.size (Array.replicate ops.size false) a0 w1 := by
  intro w1 hw1
  have main : ∀ (fuel : Nat) (listed : Array Bool) (f : Nat → Value) (w : World), listed.size = ops.size → listed.toList.count false ≤ fuel → Below w0.heap.size w0 w →
      (∀ d, (dstsOf ops).contains d = false → f d = a0.tmps.getD d undef) →
      (∀ i d, listed.getD i false = true → (ops[i]?).bind (·.dst) = some d → R i (f d) w) →
      wpAny P .any ops Q fuel listed ⟨((List.range a0.tmps.size).map f).toArray, a0.defers⟩ w := by
    intro fuel
    have done : ∀ (listed : Array Bool) (f : Nat → Value) (w : World), listed.size = ops.size → Region.ready .any ops listed = [] → Below w0.heap.size w0 w →
      (∀ d, (dstsOf ops).contains d = false → f d = a0.tmps.getD d undef) →
      (∀ i d, listed.getD i false = true → (ops[i]?).bind (·.dst) = some d → R i (f d) w) →
      Q .normal ⟨((List.range a0.tmps.size).map f).toArray, a0.defers⟩ w := by
      intro listed f w hs hr hw hn hl
      have := hQ f w hw (fun i d hd => by
        have hi : i < ops.size := by
          rcases Nat.lt_or_ge i ops.size with h | h
          · exact h
          · simp [Array.getElem?_eq_none h] at hd
        have := ready_nil hB hs hr i hi
        exact hl i d (by simpa [Array.getD, show i < listed.size by omega] using this) hd)
      have e : fin (dstsOf ops) f 0 a0.tmps.toList = (List.range a0.tmps.size).map f := by
        apply List.ext_getElem?
        intro k
        by_cases hk : k < a0.tmps.size
        · rw [fin_at _ _ _ _ _ (by simpa using hk)]
          simp only [Nat.zero_add, List.getElem?_map, List.getElem?_range hk, Option.map_some]
          congr 1
          cases hc : (dstsOf ops).contains k with
          | true => simp
          | false => simp [hn k hc, hk]
        · rw [List.getElem?_eq_none (by rw [fin_len]; simpa using hk), List.getElem?_eq_none (by simpa using hk)]
      rwa [e] at this
    induction fuel with
    | zero =>
      intro listed f w hs hc hw hn hl
      have hr : Region.ready .any ops listed = [] := by
        cases hr : Region.ready .any ops listed with
        | nil => rfl
        | cons i r =>
          have := (mem_ready (md := .any) (ops := ops) (j := i) (listed := listed)).1 (by rw [hr]; simp)
          rw [count_zero hc i] at this
          simp at this
      exact ⟨hr, done listed f w hs hr hw hn hl⟩
    | succ fuel ih =>
      intro listed f w hs hc hw hn hl
      refine ⟨fun hr => done listed f w hs hr hw hn hl, fun i hi => ?_⟩
      obtain ⟨hun, o, ho, haf⟩ := mem_ready.1 hi
      have hilt : i < ops.size := by
        rcases Nat.lt_or_ge i ops.size with h | h
        · exact h
        · simp [Array.getElem?_eq_none h] at ho
      have ok := opsB_spec hB ho
      obtain ⟨β, hg, hs1, hs2⟩ := h.at_ i o (by simpa using ho)
      rw [Nat.zero_add] at hs1 hs2
      have hdep : ∀ j d, depB ops o j d = true → R j (f d) w := by
        intro j d hj
        simp only [depB, Bool.and_eq_true, Array.any_eq_true, beq_iff_eq] at hj
        obtain ⟨⟨k, hk, h1, h2⟩, h3⟩ := hj
        exact hl j d (h1 ▸ haf _ (Array.getElem_mem hk) h2) h3
      unfold wpOp
      simp only [ho]
      have hwant : Region.wanted o (yielded ops ((List.range a0.tmps.size).map f).toArray) = β := by
        have known : ∀ g c d b, o.guard = some (g, b) → (∀ v w, R g v w → (d = true → v = .bool c) ∧ (d = false → v = undef)) → yielded ops ((List.range a0.tmps.size).map f).toArray g = if d then some c else none := by
          intro g c dd b hgb hv
          obtain ⟨⟨e, he, h1, h2⟩, d, hd⟩ := ok.guard g b hgb
          have hv := hv (f d) w (hl g d (h1 ▸ haf e he h2) hd)
          have hdlt : d < a0.tmps.size := by
            obtain ⟨og, hog, hgd⟩ := Option.bind_eq_some_iff.1 hd
            exact (opsB_spec hB hog).lt d hgd
          unfold yielded
          rw [hd]
          cases dd with
          | true => simp [hdlt, hv.1 rfl]
          | false => simp [hdlt, hv.2 rfl, undef]
        cases hg with
        | none h => unfold Region.wanted; rw [h]
        | @yes g c d h hv => have := known _ _ _ _ h hv; unfold Region.wanted; rw [h]; cases d <;> simp [this]
        | @no g c d h hv => have := known _ _ _ _ h hv; unfold Region.wanted; rw [h]; cases d <;> cases c <;> simp [this]
      have step : ∀ (v : Value) (w' : World), Below w.heap.size w w' → R i v w' → wpAny P .any ops Q fuel (listed.setIfInBounds i true) (Act.put ⟨((List.range a0.tmps.size).map f).toArray, a0.defers⟩ o.dst v) w' := by
        intro v w' hb hRi
        have hw' : Below w0.heap.size w0 w' := bstep hw hb
        have hs' : (listed.setIfInBounds i true).size = ops.size := by simpa using hs
        have hc' := count_set (l := listed) (by omega) hun hc
        cases hd : o.dst with
        | none =>
          refine ih _ f w' hs' hc' hw' hn (fun j d hj hjd => ?_)
          have hji : j ≠ i := by rintro rfl; rw [ho] at hjd; simp [hd] at hjd
          have : listed.getD j false = true := by rwa [getD_set_ne false (Ne.symm hji)] at hj
          exact hR _ _ _ _ (hl j d this hjd) hb
        | some d =>
          have hdlt := ok.lt d hd
          have e : Act.put ⟨((List.range a0.tmps.size).map f).toArray, a0.defers⟩ (some d) v = ⟨((List.range a0.tmps.size).map (fun k => if k = d then v else f k)).toArray, a0.defers⟩ := by
            simp only [Act.put, Act.mk.injEq, and_true]
            apply Array.ext_getElem?
            intro k
            rw [Array.getElem?_setIfInBounds]
            by_cases hk : k < a0.tmps.size
            · by_cases hkd : d = k
              · subst hkd; simp [hk]
              · simp [hk, hkd, Ne.symm hkd]
            · have : ¬ d = k := fun e => hk (e ▸ hdlt)
              simp [this, hk]
          rw [e]
          refine ih _ _ w' hs' hc' hw' (fun k hk => ?_) (fun j k hj hjk => ?_)
          · have : k ≠ d := by rintro rfl; rw [mem_dsts ho hd] at hk; simp at hk
            simp [this, hn k hk]
          · by_cases hji : j = i
            · subst hji
              rw [ho] at hjk
              simp [hd] at hjk
              subst hjk
              simpa using hRi
            · have hj' : listed.getD j false = true := by rwa [getD_set_ne false (Ne.symm hji)] at hj
              have hkd : k ≠ d := by
                rintro rfl
                have hjlt : j < ops.size := by
                  rcases Nat.lt_or_ge j ops.size with h | h
                  · exact h
                  · simp [Array.getElem?_eq_none h] at hjk
                exact hji (ok.own k j hd hjlt hjk).symm
              simp only [hkd, if_false]
              exact hR _ _ _ _ (hl j k hj' hjk) hb
      cases hβ : β with
      | false =>
        rw [hβ] at hwant
        simp only [hwant, Bool.false_eq_true, if_false]
        exact step undef w (Below.refl _ _) (hs1 hβ w)
      | true =>
        rw [hβ] at hwant
        simp only [hwant, if_true]
        refine Or.inl (Oper.wp_mono ?_ (hs2 hβ f w hw hn hdep))
        rintro a' w' ⟨v, rfl, hb, hRi⟩
        exact step v w' hb hRi
  have e0 : a0 = ⟨((List.range a0.tmps.size).map (fun d => a0.tmps.getD d undef)).toArray, a0.defers⟩ := by
    obtain ⟨t, df⟩ := a0
    simp only [Act.mk.injEq, and_true]
    apply Array.ext_getElem?
    intro k
    by_cases hk : k < t.size <;> simp [hk]
  rw [e0]
  refine main _ _ _ _ (by simp) (by simp) hw1 (fun _ _ => rfl) (fun i d hi => ?_)
  rcases Nat.lt_or_ge i ops.size with h | h
  · simp [Array.getD, h] at hi
  · simp [Array.getD, Nat.not_lt.2 h] at hi

theorem wp_region_opt {id : Nat} {dr : Bool} {Q : Exit → Act → World → Prop} {a0 : Act} {w0 : World} (R : Nat → Value → World → Prop) (hm : P.follows .mixedOrders = true) (hB : opsB ops a0.tmps.size = true)
    (hR : ∀ i v w w', R i v w → Below w.heap.size w w' → R i v w')
    (h : SoundFrom2 P ops Q R w0 a0 0 ops.toList)
    (hQ : ∀ (u : Nat → Value) (w : World), Below w0.heap.size w0 w → (∀ i d, (ops[i]?).bind (·.dst) = some d → R i (u d) w) → Q .normal ⟨(fin (dstsOf ops) u 0 a0.tmps.toList).toArray, a0.defers⟩ w) :
    (Code.region id ops dr).wp P Q a0 w0 := by
  cases dr with
  | true => exact wp_region_any hm (wp_any_opt R hB hR h hQ _ ⟨rfl, rfl, rfl, Nat.le_refl _, fun _ _ => rfl⟩)
  | false => exact any_start hB (wp_any_opt R hB hR h hQ _ (Below.refl _ _))

/-- The same; behind it the frame is a row of which each slot is known. -/
theorem wp_region_opt_at {id : Nat} {dr : Bool} {Q : Exit → Act → World → Prop} {a0 : Act} {w0 : World} (R : Nat → Value → World → Prop) (hm : P.follows .mixedOrders = true) (hB : opsB ops a0.tmps.size = true)
    (hR : ∀ i v w w', R i v w → Below w.heap.size w w' → R i v w')
    (h : SoundFrom2 P ops Q R w0 a0 0 ops.toList)
    (hQ : ∀ (L : Array Value) (w : World), Below w0.heap.size w0 w → (∀ i d, (ops[i]?).bind (·.dst) = some d → ∃ v, L[d]? = some v ∧ R i v w) → (∀ d, (dstsOf ops).contains d = false → L[d]? = a0.tmps[d]?) → Q .normal ⟨L, a0.defers⟩ w) :
    (Code.region id ops dr).wp P Q a0 w0 := by
  refine wp_region_opt R hm hB hR h (fun u w hw hu => hQ _ w hw (fun i d hd => ⟨u d, ?_, hu i d hd⟩) (fun d hd => ?_))
  · obtain ⟨o, ho, hod⟩ := Option.bind_eq_some_iff.1 hd
    have hlt := (opsB_spec hB ho).lt d hod
    rw [List.getElem?_toArray, fin_at _ _ _ _ _ (by simpa using hlt), Nat.zero_add, if_pos (mem_dsts ho hod)]
  · rw [List.getElem?_toArray]
    by_cases hk : d < a0.tmps.size
    · rw [fin_at _ _ _ _ _ (by simpa using hk), Nat.zero_add, hd]
      simp [hk]
    · rw [List.getElem?_eq_none (by rw [fin_len]; simpa using hk), Array.getElem?_eq_none (by simpa using hk)]

/-- The frame behind the region, slot by slot: a mask tells which slots are the region's own. -/
def finM (u : Nat → Value) : List Bool → Nat → List Value → List Value
  | _, _, [] => []
  | [], _, x :: r => x :: r
  | true :: m, k, _ :: r => u k :: finM u m (k + 1) r
  | false :: m, k, x :: r => x :: finM u m (k + 1) r
def maskOf (ops : Array Oper) (n : Nat) : List Bool := (List.range n).map fun d => (dstsOf ops).contains d

theorem finM_fin (ds : List Nat) (u : Nat → Value) : ∀ (l : List Value) (k : Nat), finM u ((List.range' k l.length).map fun d => ds.contains d) k l = fin ds u k l
  | [], k => by simp [finM, fin]
  | x :: r, k => by
    rw [List.length_cons, List.range'_succ, List.map_cons, fin]
    cases h : ds.contains k with
    | true => rw [finM, finM_fin ds u r (k + 1)]; simp
    | false => rw [finM, finM_fin ds u r (k + 1)]; simp

theorem wp_region_lit {id : Nat} {dr : Bool} {Q : Exit → Act → World → Prop} {tmps : List Value} {defers : List Deferred} {w0 : World} (R : Nat → Value → World → Prop) (m : List Bool) (hm : P.follows .mixedOrders = true) (hB : opsB ops tmps.length = true) (hmask : maskOf ops tmps.length = m)
    (hR : ∀ i v w w', R i v w → Below w.heap.size w w' → R i v w')
    (h : SoundFrom2 P ops Q R w0 ⟨tmps.toArray, defers⟩ 0 ops.toList)
    (hQ : ∀ (u : Nat → Value) (w : World), Below w0.heap.size w0 w → (∀ i d, (ops[i]?).bind (·.dst) = some d → R i (u d) w) → Q .normal ⟨(finM u m 0 tmps).toArray, defers⟩ w) :
    (Code.region id ops dr).wp P Q ⟨tmps.toArray, defers⟩ w0 := by
  refine wp_region_opt R hm (by simpa using hB) hR h (fun u w hw hu => ?_)
  have := hQ u w hw hu
  rw [← hmask, maskOf, List.range_eq_range', finM_fin] at this
  exact this

/-- Where a walk stops: 'go_wp2_with (refine stop_region ?_)'. -/
structure Stop (p : Prop) : Prop where
  out : p
theorem stop_at {id : Nat} {ops : Array Oper} {dr : Bool} {Q : Exit → Act → World → Prop} {a : Act} {w : World} (h : Stop ((Code.region id ops dr).wp P Q a w)) : (Code.region id ops dr).wp P Q a w := h.out
theorem stop_region {id : Nat} {ops : Array Oper} {Q : Exit → Act → World → Prop} {a : Act} {w : World} (h : Stop ((Code.region id ops true).wp P Q a w)) : (Code.region id ops true).wp P Q a w := h.out

/-! ### Operations that are wanted or not, by a Bool that is written down -/

section
variable {w : World} {a : Act} {K : Act → World → Prop} {Q : Exit → Act → World → Prop} {o : Oper}
theorem wp_eqi2 {x y : Operand} {m n : Int} {ty : TypeId} (ho : o.op = .binOp .eql ty x y ty) (hx : a.eval x = .int .i64 m) (hy : a.eval y = .int .i64 n) (hK : K (a.put o.dst (.bool (m == n))) w) : o.wp Try.prog a w K Q := wp_eqi ho hx hy rfl hK
theorem spec_of2 {P : Program} {F : FuncId} {vs : Array Value} {v : Value} (h : Calls P F vs w fun e w' => e = .returned v ∧ Below w.heap.size w w') :
    Calls P F vs w fun e w' => ∃ v', e = .returned v' ∧ (Below w.heap.size w w' ∧ v' = v) :=
  h.mono (by rintro e w' ⟨rfl, hb⟩; exact ⟨_, rfl, hb, rfl⟩)
theorem wp_nei {x y : Operand} {m n : Int} {ty : TypeId} (ho : o.op = .binOp .neq ty x y ty) (hx : a.eval x = .int .i64 m) (hy : a.eval y = .int .i64 n) (hK : K (a.put o.dst (.bool (m != n))) w) : o.wp Try.prog a w K Q := by
  unfold Oper.wp execOp
  simp only [ho, hx, hy]
  go_simp
  exact hK
theorem wp_lti {x y : Operand} {m n : Int} {ty : TypeId} (ho : o.op = .binOp .lss ty x y ty) (hx : a.eval x = .int .i64 m) (hy : a.eval y = .int .i64 n) (hK : K (a.put o.dst (.bool (decide (m < n)))) w) : o.wp Try.prog a w K Q := by
  unfold Oper.wp execOp
  simp only [ho, hx, hy]
  go_simp
  exact hK
theorem wp_gti {x y : Operand} {m n : Int} {ty : TypeId} (ho : o.op = .binOp .gtr ty x y ty) (hx : a.eval x = .int .i64 m) (hy : a.eval y = .int .i64 n) (hK : K (a.put o.dst (.bool (decide (n < m)))) w) : o.wp Try.prog a w K Q := by
  unfold Oper.wp execOp
  simp only [ho, hx, hy]
  go_simp
  exact hK
theorem wp_lei {x y : Operand} {m n : Int} {ty : TypeId} (ho : o.op = .binOp .leq ty x y ty) (hx : a.eval x = .int .i64 m) (hy : a.eval y = .int .i64 n) (hK : K (a.put o.dst (.bool (decide (m ≤ n)))) w) : o.wp Try.prog a w K Q := by
  unfold Oper.wp execOp
  simp only [ho, hx, hy]
  go_simp
  exact hK
theorem wp_gei {x y : Operand} {m n : Int} {ty : TypeId} (ho : o.op = .binOp .geq ty x y ty) (hx : a.eval x = .int .i64 m) (hy : a.eval y = .int .i64 n) (hK : K (a.put o.dst (.bool (decide (n ≤ m)))) w) : o.wp Try.prog a w K Q := by
  unfold Oper.wp execOp
  simp only [ho, hx, hy]
  go_simp
  exact hK
end

end
end Go.Proofs.Ytlkiabgpnboicaa

namespace Go.Proofs.Ytlkiabgpnboicaa
open Go.RowKit Go

section
variable {P : Program} {ops : Array Oper}

def chainB (ops : Array Oper) (chain : List Nat) : Bool := (List.range chain.length).all fun p => p == 0 || afterB ops (chain.getD p 0) (chain.getD (p - 1) 0)

inductive GuardC (R : Nat → Value → Prop) (chain : List Nat) (o : Oper) : Bool → Prop where
  | none (h : o.guard = none) : GuardC R chain o true
  | yes {g : Nat} {c d : Bool} (h : o.guard = some (g, true)) (hc : chain.contains g = false) (hv : ∀ v, R g v → (d = true → v = .bool c) ∧ (d = false → v = undef)) : GuardC R chain o (d && c)
  | no {g : Nat} {c d : Bool} (h : o.guard = some (g, false)) (hc : chain.contains g = false) (hv : ∀ v, R g v → (d = true → v = .bool c) ∧ (d = false → v = undef)) : GuardC R chain o (d && !c)

structure Ctx (ops : Array Oper) (chain : List Nat) (R : Nat → Value → Prop) (G : List Value → World → Prop) (tmps : Array Value) (i : Nat) (o : Oper) (f : Nat → Value) (w : World) (vs : List Value) : Prop where
  now : G vs w
  keep : ∀ d, (dstsOf ops).contains d = false → f d = tmps.getD d undef
  dep : ∀ j d, depB ops o j d = true → chain.contains j = false → R j (f d)
  link : ∀ (p c d : Nat), chain[p]? = some c → depB ops o c d = true → vs[p]? = some (f d)
  most : ∀ (p c : Nat), chain[p]? = some c → afterB ops c i = true → vs.length ≤ p

def SoundC (P : Program) (ops : Array Oper) (Q : Exit → Act → World → Prop) (chain : List Nat) (R : Nat → Value → Prop) (G : List Value → World → Prop) (tmps : Array Value) (defers : List Deferred) (i : Nat) (o : Oper) : Prop :=
  (chain.contains i = false ∧ ∃ β, GuardC R chain o β ∧ (β = false → R i undef) ∧
    (β = true → ∀ (f : Nat → Value) (w : World) (vs : List Value), Ctx ops chain R G tmps i o f w vs →
      o.wp P ⟨((List.range tmps.size).map f).toArray, defers⟩ w (fun a' w' => ∃ v, a' = Act.put ⟨((List.range tmps.size).map f).toArray, defers⟩ o.dst v ∧ w' = w ∧ R i v) Q)) ∨
  (∃ p, chain[p]? = some i ∧ o.guard = none ∧ ∀ (f : Nat → Value) (w : World) (vs : List Value), Ctx ops chain R G tmps i o f w vs → vs.length = p →
      o.wp P ⟨((List.range tmps.size).map f).toArray, defers⟩ w (fun a' w' => ∃ v, a' = Act.put ⟨((List.range tmps.size).map f).toArray, defers⟩ o.dst v ∧ G (vs ++ [v]) w') Q)

def SoundFromC (P : Program) (ops : Array Oper) (Q : Exit → Act → World → Prop) (chain : List Nat) (R : Nat → Value → Prop) (G : List Value → World → Prop) (tmps : Array Value) (defers : List Deferred) : Nat → List Oper → Prop
  | _, [] => True
  | k, o :: r => SoundC P ops Q chain R G tmps defers k o ∧ SoundFromC P ops Q chain R G tmps defers (k + 1) r

theorem SoundFromC.at_ {Q : Exit → Act → World → Prop} {chain : List Nat} {R : Nat → Value → Prop} {G : List Value → World → Prop} {tmps : Array Value} {defers : List Deferred} : ∀ {l : List Oper} {k : Nat}, SoundFromC P ops Q chain R G tmps defers k l → ∀ i o, l[i]? = some o → SoundC P ops Q chain R G tmps defers (k + i) o
  | [], _, _, i, o, h => by simp at h
  | x :: r, k, h, 0, o, ho => by simp at ho; subst ho; exact h.1
  | x :: r, k, h, i + 1, o, ho => by
    have := h.2.at_ i o (by simpa using ho)
    rwa [show k + 1 + i = k + (i + 1) by omega] at this

structure At (ops : Array Oper) (chain : List Nat) (R : Nat → Value → Prop) (G : List Value → World → Prop) (tmps : Array Value) (listed : Array Bool) (f : Nat → Value) (vs : List Value) (w : World) : Prop where
  size : listed.size = ops.size
  keep : ∀ d, (dstsOf ops).contains d = false → f d = tmps.getD d undef
  plain : ∀ i d, chain.contains i = false → listed.getD i false = true → (ops[i]?).bind (·.dst) = some d → R i (f d)
  link : ∀ p c : Nat, chain[p]? = some c → (listed.getD c false = true ↔ p < vs.length)
  vals : ∀ (p c d : Nat), chain[p]? = some c → p < vs.length → (ops[c]?).bind (·.dst) = some d → vs[p]? = some (f d)
  len : vs.length ≤ chain.length
  closed : ∀ i o, ops[i]? = some o → listed.getD i false = true → ∀ e ∈ o.after, Region.binds .any e = true → listed.getD e.on false = true
  now : G vs w

theorem wp_any_chain {Q : Exit → Act → World → Prop} {tmps : List Value} {defers : List Deferred} {w0 : World} (chain : List Nat) (R : Nat → Value → Prop) (G : List Value → World → Prop) (m : List Bool)
    (hB : opsB ops tmps.length = true) (hC : chainB ops chain = true) (hnd : chain.Nodup) (hin : (chain.all fun c => Nat.blt c ops.size) = true) (hmask : maskOf ops tmps.length = m) (h0 : G [] w0)
    (h : SoundFromC P ops Q chain R G tmps.toArray defers 0 ops.toList)
    (hQ : ∀ (u : Nat → Value) (w : World) (vs : List Value), vs.length = chain.length → G vs w → (∀ i d, (ops[i]?).bind (·.dst) = some d → chain.contains i = false → R i (u d)) → (∀ (p c d : Nat), chain[p]? = some c → (ops[c]?).bind (·.dst) = some d → vs[p]? = some (u d)) → Q .normal ⟨(finM u m 0 tmps).toArray, defers⟩ w) :
    wpAny P .any ops Q ops.size (Array.replicate ops.size false) ⟨tmps.toArray, defers⟩ w0 := by
  have hB' : opsB ops tmps.toArray.size = true := by simpa using hB
  have main : ∀ (fuel : Nat) (listed : Array Bool) (f : Nat → Value) (vs : List Value) (w : World), listed.toList.count false ≤ fuel → At ops chain R G tmps.toArray listed f vs w →
      wpAny P .any ops Q fuel listed ⟨((List.range tmps.toArray.size).map f).toArray, defers⟩ w := by
    intro fuel
    have done : ∀ (listed : Array Bool) (f : Nat → Value) (vs : List Value) (w : World), Region.ready .any ops listed = [] → At ops chain R G tmps.toArray listed f vs w →
      Q .normal ⟨((List.range tmps.toArray.size).map f).toArray, defers⟩ w := by
      intro listed f vs w hr H
      have all : ∀ i, i < ops.size → listed.getD i false = true := fun i hi => by
        have := ready_nil hB' H.size hr i hi
        have hs := H.size
        simpa [Array.getD, show i < listed.size by omega] using this
      have hlen : vs.length = chain.length := by
        have h1 := H.len
        rcases Nat.lt_or_ge vs.length chain.length with h2 | h2
        · have hc : chain[vs.length]? = some chain[vs.length] := by simp [h2]
          have hlt : chain[vs.length] < ops.size := by
            have := List.all_eq_true.1 hin _ (List.getElem_mem h2)
            simpa [Nat.blt_eq] using this
          have := (H.link _ _ hc).1 (all _ hlt)
          omega
        · omega
      have lt_of : ∀ i d, (ops[i]?).bind (·.dst) = some d → i < ops.size := fun i d hd => by
        rcases Nat.lt_or_ge i ops.size with h | h
        · exact h
        · simp [Array.getElem?_eq_none h] at hd
      have := hQ f w vs hlen H.now (fun i d hd hc => H.plain i d hc (all i (lt_of i d hd)) hd) (fun p c d hc hd => H.vals p c d hc (by
        have : p < chain.length := by
          rcases Nat.lt_or_ge p chain.length with h | h
          · exact h
          · simp [List.getElem?_eq_none h] at hc
        omega) hd)
      rw [← hmask, maskOf, List.range_eq_range', finM_fin] at this
      have e : fin (dstsOf ops) f 0 tmps = (List.range tmps.toArray.size).map f := by
        apply List.ext_getElem?
        intro k
        by_cases hk : k < tmps.length
        · rw [fin_at _ _ _ _ _ hk]
          simp only [List.size_toArray, Nat.zero_add, List.getElem?_map, List.getElem?_range hk, Option.map_some]
          congr 1
          cases hc : (dstsOf ops).contains k with
          | true => simp
          | false => simp [H.keep k hc, hk]
        · rw [List.getElem?_eq_none (by rw [fin_len]; simpa using hk), List.getElem?_eq_none (by simpa using hk)]
      rwa [e] at this
    induction fuel with
    | zero =>
      intro listed f vs w hc H
      have hr : Region.ready .any ops listed = [] := by
        cases hr : Region.ready .any ops listed with
        | nil => rfl
        | cons i r =>
          have := (mem_ready (md := .any) (ops := ops) (j := i) (listed := listed)).1 (by rw [hr]; simp)
          rw [count_zero hc i] at this
          simp at this
      exact ⟨hr, done listed f vs w hr H⟩
    | succ fuel ih =>
      intro listed f vs w hc H
      refine ⟨fun hr => done listed f vs w hr H, fun i hi => ?_⟩
      obtain ⟨hun, o, ho, haf⟩ := mem_ready.1 hi
      have hilt : i < ops.size := by
        rcases Nat.lt_or_ge i ops.size with h | h
        · exact h
        · simp [Array.getElem?_eq_none h] at ho
      have hils : i < listed.size := by have := H.size; omega
      have hun' := getD_false_of hun
      have ok := opsB_spec hB' ho
      have hs2 := h.at_ i o (by simpa using ho)
      rw [Nat.zero_add] at hs2
      have after_of : ∀ j d, depB ops o j d = true → listed.getD j false = true ∧ (ops[j]?).bind (·.dst) = some d := by
        intro j d hj
        simp only [depB, Bool.and_eq_true, Array.any_eq_true, beq_iff_eq] at hj
        obtain ⟨⟨k, hk, h1, h2⟩, h3⟩ := hj
        exact ⟨h1 ▸ haf _ (Array.getElem_mem hk) h2, h3⟩
      have ctx : Ctx ops chain R G tmps.toArray i o f w vs := by
        refine ⟨H.now, H.keep, fun j d hj hc => H.plain j d hc (after_of j d hj).1 (after_of j d hj).2, fun p c d hc hj => ?_, fun p c hc ha => ?_⟩
        · exact H.vals p c d hc ((H.link p c hc).1 (after_of c d hj).1) (after_of c d hj).2
        · rcases Nat.lt_or_ge p vs.length with hp | hp
          · exfalso
            have hl := (H.link p c hc).2 hp
            unfold afterB at ha
            split at ha
            · rename_i oc hoc
              simp only [Array.any_eq_true, Bool.and_eq_true, beq_iff_eq] at ha
              obtain ⟨k, hk, h1, h2⟩ := ha
              have := H.closed c oc hoc hl _ (Array.getElem_mem hk) h2
              rw [h1, hun'] at this
              cases this
            · cases ha
          · exact hp
      unfold wpOp
      simp only [ho]
      -- what is behind a step
      have step : ∀ (v : Value) (vs' : List Value) (w' : World), G vs' w' → (∀ d, o.dst = some d → chain.contains i = false → R i v) →
          ((chain.contains i = false ∧ vs' = vs) ∨ (∃ p, chain[p]? = some i ∧ vs.length = p ∧ vs' = vs ++ [v])) →
          wpAny P .any ops Q fuel (listed.setIfInBounds i true) (Act.put ⟨((List.range tmps.toArray.size).map f).toArray, defers⟩ o.dst v) w' := by
        intro v vs' w' hG hRi hvs
        have hc' := count_set (l := listed) hils hun hc
        have hset : ∀ j, (listed.setIfInBounds i true).getD j false = true ↔ j = i ∨ listed.getD j false = true := by
          intro j
          by_cases hj : j = i
          · subst hj; simp [getD_set_eq hils]
          · rw [getD_set_ne false (Ne.symm hj)]; simp [hj]
        obtain ⟨f', hf', hput⟩ : ∃ f', (∀ k, f' k = match o.dst with | some d => if k = d then v else f k | none => f k) ∧ Act.put ⟨((List.range tmps.toArray.size).map f).toArray, defers⟩ o.dst v = ⟨((List.range tmps.toArray.size).map f').toArray, defers⟩ := by
          cases hd : o.dst with
          | none => exact ⟨f, fun k => rfl, rfl⟩
          | some d =>
            have hdlt := ok.lt d hd
            refine ⟨fun k => if k = d then v else f k, fun k => rfl, ?_⟩
            simp only [Act.put, Act.mk.injEq, and_true]
            apply Array.ext_getElem?
            intro k
            rw [Array.getElem?_setIfInBounds]
            by_cases hk : k < tmps.toArray.size
            · by_cases hkd : d = k
              · subst hkd; simp at hk; simp [hk]
              · simp at hk; simp [hk, hkd, Ne.symm hkd]
            · have : ¬ d = k := fun e => hk (e ▸ hdlt)
              simp only [this, if_false]
              rw [Array.getElem?_eq_none (by simpa using hk), Array.getElem?_eq_none (by simpa using hk)]
        rw [hput]
        have hother : ∀ j k, j ≠ i → (ops[j]?).bind (·.dst) = some k → f' k = f k := by
          intro j k hji hjk
          rw [hf']
          cases hd : o.dst with
          | none => rfl
          | some d =>
            have hkd : k ≠ d := by
              rintro rfl
              have hjlt : j < ops.size := by
                rcases Nat.lt_or_ge j ops.size with h | h
                · exact h
                · simp [Array.getElem?_eq_none h] at hjk
              exact hji (ok.own k j hd hjlt hjk).symm
            simp [hkd]
        have hself : ∀ d, (ops[i]?).bind (·.dst) = some d → f' d = v := by
          intro d hd
          rw [ho] at hd
          simp only [Option.bind_some] at hd
          rw [hf', hd]; simp
        refine ih _ f' vs' w' hc' ⟨by simpa using H.size, fun d hd => ?_, fun j d hjc hj hjd => ?_, fun p c hpc => ?_, fun p c d hpc hp hcd => ?_, ?_, fun j oj hoj hj e he hb => ?_, hG⟩
        · rw [hf']
          cases hd2 : o.dst with
          | none => exact H.keep d hd
          | some d' =>
            have : d ≠ d' := by rintro rfl; rw [mem_dsts ho hd2] at hd; cases hd
            simp only [this, if_false]
            exact H.keep d hd
        · by_cases hji : j = i
          · subst hji
            rw [hself d hjd]
            rw [ho] at hjd
            exact hRi d hjd hjc
          · rw [hother j d hji hjd]
            exact H.plain j d hjc (((hset j).1 hj).resolve_left hji) hjd
        · rw [hset]
          rcases hvs with ⟨hci, rfl⟩ | ⟨q, hq, hlen, rfl⟩
          · have : c ≠ i := by
              rintro rfl
              have := List.mem_of_getElem? hpc
              simp [this] at hci
            exact ⟨fun h => (H.link p c hpc).1 (h.resolve_left this), fun h => .inr ((H.link p c hpc).2 h)⟩
          · by_cases hpq : p = q
            · subst hpq
              rw [hq] at hpc
              simp only [Option.some.injEq] at hpc
              subst hpc
              exact ⟨fun _ => by simp; omega, fun _ => .inl rfl⟩
            · have hci : c ≠ i := by
                rintro rfl
                exact hpq ((List.getElem?_inj (List.getElem?_eq_some_iff.1 hpc).1 hnd).1 (hpc.trans hq.symm))
              have hlk := H.link p c hpc
              refine ⟨fun h => ?_, fun h => .inr (hlk.2 ?_)⟩
              · have := hlk.1 (h.resolve_left hci)
                simp; omega
              · simp at h; omega
        · rcases hvs with ⟨hci, rfl⟩ | ⟨q, hq, hlen, rfl⟩
          · have hne : c ≠ i := by
              rintro rfl
              have := List.mem_of_getElem? hpc
              simp [this] at hci
            rw [hother c d hne hcd]
            exact H.vals p c d hpc hp hcd
          · by_cases hpq : p = q
            · subst hpq
              rw [hq] at hpc
              simp only [Option.some.injEq] at hpc
              subst hpc
              rw [hself d hcd, ← hlen]
              simp
            · have hne : c ≠ i := by
                rintro rfl
                exact hpq ((List.getElem?_inj (List.getElem?_eq_some_iff.1 hpc).1 hnd).1 (hpc.trans hq.symm))
              have hp' : p < vs.length := by simp at hp; omega
              rw [hother c d hne hcd, List.getElem?_append_left hp']
              exact H.vals p c d hpc hp' hcd
        · rcases hvs with ⟨hci, rfl⟩ | ⟨q, hq, hlen, rfl⟩
          · exact H.len
          · have := (List.getElem?_eq_some_iff.1 hq).1
            simp; omega
        · rw [hset]
          by_cases hji : j = i
          · subst hji
            rw [ho] at hoj
            simp only [Option.some.injEq] at hoj
            subst hoj
            exact .inr (haf e he hb)
          · exact .inr (H.closed j oj hoj (((hset j).1 hj).resolve_left hji) e he hb)
      rcases hs2 with ⟨hci, β, hg, hs1, hs2⟩ | ⟨p, hp, hgn, hs2⟩
      · have hwant : Region.wanted o (yielded ops ((List.range tmps.toArray.size).map f).toArray) = β := by
          have known : ∀ g c d b, o.guard = some (g, b) → chain.contains g = false → (∀ v, R g v → (d = true → v = .bool c) ∧ (d = false → v = undef)) → yielded ops ((List.range tmps.toArray.size).map f).toArray g = if d then some c else none := by
            intro g c dd b hgb hgc hv
            obtain ⟨⟨e, he, h1, h2⟩, d, hd⟩ := ok.guard g b hgb
            have hv := hv (f d) (H.plain g d hgc (h1 ▸ haf e he h2) hd)
            have hdlt : d < tmps.toArray.size := by
              obtain ⟨og, hog, hgd⟩ := Option.bind_eq_some_iff.1 hd
              exact (opsB_spec hB' hog).lt d hgd
            simp only [List.size_toArray] at hdlt
            unfold yielded
            rw [hd]
            cases dd with
            | true => simp [hdlt, hv.1 rfl]
            | false => simp [hdlt, hv.2 rfl, undef]
          cases hg with
          | none h => unfold Region.wanted; rw [h]
          | @yes g c d h hc hv => have := known _ _ _ _ h hc hv; unfold Region.wanted; rw [h]; simp only [this]; cases d <;> simp
          | @no g c d h hc hv => have := known _ _ _ _ h hc hv; unfold Region.wanted; rw [h]; simp only [this]; cases d <;> cases c <;> simp
        cases hβ : β with
        | false =>
          rw [hβ] at hwant
          simp only [hwant, Bool.false_eq_true, if_false]
          exact step undef vs w H.now (fun _ _ _ => hs1 hβ) (.inl ⟨hci, rfl⟩)
        | true =>
          rw [hβ] at hwant
          simp only [hwant, if_true]
          refine Or.inl (Oper.wp_mono ?_ (hs2 hβ f w vs ctx))
          rintro a' w' ⟨v, rfl, rfl, hRi⟩
          exact step v vs w' H.now (fun _ _ _ => hRi) (.inl ⟨hci, rfl⟩)
      · have hwant : Region.wanted o (yielded ops ((List.range tmps.toArray.size).map f).toArray) = true := by unfold Region.wanted; rw [hgn]
        have hnl : ¬ p < vs.length := fun hlt => by
          have := (H.link p i hp).2 hlt
          rw [hun'] at this; cases this
        have hpl : p < chain.length := (List.getElem?_eq_some_iff.1 hp).1
        have hlen : vs.length = p := by
          rcases Nat.eq_zero_or_pos p with h0 | hpos
          · omega
          · have := List.all_eq_true.1 hC p (by simpa using hpl)
            simp only [Bool.or_eq_true, beq_iff_eq] at this
            have ha := this.resolve_left (by omega)
            have e1 : chain.getD p 0 = i := by rw [List.getD_eq_getElem?_getD, hp]; rfl
            rw [e1] at ha
            unfold afterB at ha
            rw [ho] at ha
            simp only [Array.any_eq_true, Bool.and_eq_true, beq_iff_eq] at ha
            obtain ⟨k, hk, h1, h2⟩ := ha
            have hl := haf _ (Array.getElem_mem hk) h2
            rw [h1] at hl
            have hc1 : chain[p - 1]? = some (chain.getD (p - 1) 0) := by
              rw [List.getD_eq_getElem?_getD, List.getElem?_eq_getElem (by omega)]; rfl
            have := (H.link _ _ hc1).1 hl
            omega
        simp only [hwant, if_true]
        refine Or.inl (Oper.wp_mono ?_ (hs2 f w vs ctx hlen))
        rintro a' w' ⟨v, rfl, hG⟩
        have hcc : chain.contains i = true := by
          have := List.mem_of_getElem? hp
          simpa using this
        exact step v (vs ++ [v]) w' hG (fun _ _ h => by rw [hcc] at h; cases h) (.inr ⟨p, hp, hlen, rfl⟩)
  have e0 : (⟨tmps.toArray, defers⟩ : Act) = ⟨((List.range tmps.toArray.size).map (fun d => tmps.toArray.getD d undef)).toArray, defers⟩ := by
    simp only [Act.mk.injEq, and_true]
    apply Array.ext_getElem?
    intro k
    by_cases hk : k < tmps.length <;> simp [hk]
  rw [e0]
  have nothing : ∀ i, ((List.replicate ops.size false).toArray).getD i false = false := fun i => by
    by_cases h : i < ops.size <;> simp [Array.getD, h]
  have nothing' : ∀ i, (Array.replicate ops.size false).getD i false = false := fun i => by
    by_cases h : i < ops.size <;> simp [Array.getD, h]
  refine main _ _ _ [] _ (by simp) ⟨by simp, fun _ _ => rfl, fun i d _ hi => ?_, fun p c _ => ?_, fun p c d _ hp => by simp at hp, by simp, fun i o _ hi => ?_, h0⟩
  · rw [nothing'] at hi; cases hi
  · rw [nothing']; simp
  · rw [nothing'] at hi; cases hi

theorem wp_region_chain {id : Nat} {dr : Bool} {Q : Exit → Act → World → Prop} {tmps : List Value} {defers : List Deferred} {w0 : World} (chain : List Nat) (R : Nat → Value → Prop) (G : List Value → World → Prop) (m : List Bool)
    (hm : P.follows .mixedOrders = true) (hB : opsB ops tmps.length = true) (hC : chainB ops chain = true) (hnd : chain.Nodup) (hin : (chain.all fun c => Nat.blt c ops.size) = true) (hmask : maskOf ops tmps.length = m) (h0 : G [] (bif dr then w0.drew else w0))
    (h : SoundFromC P ops Q chain R G tmps.toArray defers 0 ops.toList)
    (hQ : ∀ (u : Nat → Value) (w : World) (vs : List Value), vs.length = chain.length → G vs w → (∀ i d, (ops[i]?).bind (·.dst) = some d → chain.contains i = false → R i (u d)) → (∀ (p c d : Nat), chain[p]? = some c → (ops[c]?).bind (·.dst) = some d → vs[p]? = some (u d)) → Q .normal ⟨(finM u m 0 tmps).toArray, defers⟩ w) :
    (Code.region id ops dr).wp P Q ⟨tmps.toArray, defers⟩ w0 := by
  cases dr with
  | true => exact wp_region_any hm (wp_any_chain chain R G m hB hC hnd hin hmask h0 h hQ)
  | false => exact any_start hB (wp_any_chain chain R G m hB hC hnd hin hmask h0 h hQ)

/-! ### Operations of such a region that only read -/

def optP (l : List (Bool × Value)) (i : Nat) (v : Value) : Prop := ((l.getD i (true, undef)).1 = true → v = (l.getD i (true, undef)).2) ∧ ((l.getD i (true, undef)).1 = false → v = undef)
theorem optPVal {l : List (Bool × Value)} {i : Nat} {v x : Value} {β : Bool} (h : optP l i v) (e : l.getD i (true, undef) = (β, x)) (hβ : β = true) : v = x := by
  have := h.1 (by rw [e]; exact hβ)
  rw [e] at this
  exact this

end
end Go.Proofs.Ytlkiabgpnboicaa
