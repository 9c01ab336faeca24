/- Terms that are the same: the program's way. -/
import Derived.Test.YtcmfjnadjddboaaTerm
import Derived.Test.YtcmfjnadjddboaaSamePlain
namespace Go.Proofs.Ytcmfjnadjddboaa
open Go.RowKit Go.Sort Go

theorem T.sameL_len : ∀ (l q : List T), l.length ≠ q.length → T.sameL l q = false
  | [], [], h => absurd rfl h
  | _ :: r, _ :: q, h => by rw [T.sameL, T.sameL_len r q (by simpa using h), Bool.and_false]
  | [], _ :: _, _ => rfl
  | _ :: _, [], _ => rfl
theorem T.sameL_drop (l q : List T) (k : Nat) (h : k < l.length) (h' : k < q.length) : T.sameL (l.drop k) (q.drop k) = (T.same l[k] q[k] && T.sameL (l.drop (k + 1)) (q.drop (k + 1))) := by
  rw [List.drop_eq_getElem_cons h, List.drop_eq_getElem_cons h', T.sameL]
theorem T.sameL_end (l q : List T) (h : l.length = q.length) : T.sameL (l.drop l.length) (q.drop l.length) = true := by
  rw [List.drop_eq_nil_of_le (Nat.le_refl _), List.drop_eq_nil_of_le (by omega), T.sameL]

theorem equalFunc_any (l q : List T) (ih : ∀ a ∈ l, ∀ (t : T) (w : World) (v u : Value), IsT w a v → IsT w t u →
      Calls Try.prog 35 #[v, u] w fun e w' => e = .returned (.bool (T.same a t)) ∧ Below w.heap.size w w')
    (w : World) (a a' : Option Addr) (c c' : Nat) (hc : l.length ≤ c) (_hc' : q.length ≤ c') (hm : c ≤ maxLen) (_hm' : c' ≤ maxLen) (hl : IsTs w l a 0) (hq : IsTs w q a' 0) :
    Calls Try.prog 58 #[.slice a l.length c, .slice a' q.length c', .func (.func 35) #[] #[]] w fun e w' => e = .returned (.bool (T.sameL l q)) ∧ Below w.heap.size w w' := by
  unfold maxLen at hm
  by_cases hlen : l.length = q.length
  · have hne : ((l.length : Int) != (q.length : Int)) = false := by simp [hlen]
    have HL := Lib.hid hlen
    go_enter Try.func58, Try.ntmps58
    clear hlen
    go_wp2_with fail
    go_loopw [17] (fun i wr => ∃ (k : Nat), k ≤ l.length ∧ i = .int .i64 k ∧ Hid (T.sameL l q = T.sameL (l.drop k) (q.drop k)) ∧ Below w.heap.size w wr) (fun i _ => l.length - (intOf i).toNat)
    case atStart => exact ⟨0, Nat.zero_le _, rfl, rfl, Below.refl _ _⟩
    case round =>
      obtain ⟨k, hk, rfl, hx, hw⟩ := hrel
      by_cases hlt : k < l.length
      · have hlq : k < q.length := by have := HL.out; omega
        obtain ⟨b1, o1, a1, c1, rfl, g1, g2, h3⟩ := hl.at_ hw k hlt
        obtain ⟨b2, o2, a2, c2, rfl, g3, g4, h4⟩ := hq.at_ hw k hlq
        have IH := fun w v u => ih l[k] (List.getElem_mem hlt) q[k] w v u
        have q5 := T.sameL_drop l q k hlt hlq
        have g3 := calloc g3
        have g4 := calloc g4
        cases hz : T.same l[k] q[k] with
        | true =>
          rw [hz] at IH
          have Hh3 := Lib.hid h3
          have Hh4 := Lib.hid h4
          have Hhw := Lib.hid hw
          have Hq5 := Lib.hid q5
          have Hhx := Lib.hid hx
          have Hhz := Lib.hid hz
          clear h3 h4 hw q5 hx hz
          clear ih hl hq
          go_wp2_with (go_at_call 35; refine (IH _ _ _ (Hh3.out.below (balloc2 _ _ _)) (Hh4.out.below (balloc2 _ _ _))).mono ?_; rintro e w' ⟨rfl, hb'⟩)
          go_roundw
          case rel => exact ⟨k + 1, by omega, by go_num, by unfold Hid; rw [Hhx.out, Hq5.out, Hhz.out, Bool.true_and], bstep (bstep Hhw.out (balloc2 _ _ _)) hb'⟩
          case measure => simp [intOf]; omega
        | false =>
          rw [hz] at IH
          have Hh3 := Lib.hid h3
          have Hh4 := Lib.hid h4
          have Hhw := Lib.hid hw
          have Hq5 := Lib.hid q5
          have Hhx := Lib.hid hx
          have Hhz := Lib.hid hz
          clear h3 h4 hw q5 hx hz
          clear ih hl hq
          go_wp2_with (go_at_call 35; refine (IH _ _ _ (Hh3.out.below (balloc2 _ _ _)) (Hh4.out.below (balloc2 _ _ _))).mono ?_; rintro e w' ⟨rfl, hb'⟩)
          go_ret
          exact ⟨rbool (by rw [Hhx.out, Hq5.out, Hhz.out, Bool.false_and]), bstep (bstep Hhw.out (balloc2 _ _ _)) hb'⟩
      · obtain rfl : k = l.length := by omega
        have Q := Lib.hid (T.sameL_end l q HL.out)
        have Hhw := Lib.hid hw
        have Hhx := Lib.hid hx
        clear hw hx
        clear ih hl hq
        go_wp2_with fail
        go_ret
        exact ⟨rbool (by rw [Hhx.out, Q.out]), Hhw.out⟩
  · have hne : ((l.length : Int) != (q.length : Int)) = true := by simpa using fun h => hlen (by omega)
    have E := Lib.hid (T.sameL_len l q hlen)
    clear ih hl hq hlen
    go_enter Try.func58, Try.ntmps58
    go_wp2_with fail
    go_ret
    exact ⟨rbool E.out, Below.refl _ _⟩

theorem same_any (s : T) : ∀ (t : T) (w : World) (v u : Value), IsT w s v → IsT w t u →
    Calls Try.prog 35 #[v, u] w fun e w' => e = .returned (.bool (T.same s t)) ∧ Below w.heap.size w w' := by
  induction s using T.ind with
  | h f l ih =>
  intro t w v u hv hu
  obtain ⟨g, q⟩ := t
  obtain ⟨_, a, c, rfl, hc, hm, hl⟩ := hv
  obtain ⟨_, a', c', rfl, hc', hm', hq⟩ := hu
  have EF := fun (w' : World) hb => equalFunc_any l q ih w' a a' c c' hc hc' hm hm' (IsTs.below (w := w) (w' := w') hb hl) (hq.below hb)
  clear ih hl hq
  by_cases hfg : f = g
  · have hne : (f == g) = true := by simpa using hfg
    have E := Lib.hid (show T.same (.mk f l) (.mk g q) = T.sameL l q by rw [T.same, hne, Bool.true_and])
    subst hfg
    go_enter Try.func35, Try.ntmps35
    go_wp2_with (go_at_call 58; refine (EF _ (balloc2 _ _ _)).mono ?_; rintro e w' ⟨rfl, hb'⟩)
    go_ret
    exact ⟨rbool E.out, bstep (balloc2 _ _ _) hb'⟩
  · have hne : (f == g) = false := by simpa using hfg
    have E := Lib.hid (show T.same (.mk f l) (.mk g q) = false by rw [T.same, hne, Bool.false_and])
    clear hfg
    go_enter Try.func35, Try.ntmps35
    go_wp2_with fail
    go_ret
    exact ⟨rbool E.out, balloc2 _ _ _⟩

end Go.Proofs.Ytcmfjnadjddboaa
