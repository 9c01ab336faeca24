/- The walks through the program's order of Knuth and Bendix. -/
import Derived.Test.YtjkpecjlpgcalaaOrd
namespace Go.Proofs.Ytjkpecjlpgcalaa
open Go.RowKit

theorem Od.knowsL_all (o : Od) : ∀ l, o.knowsL l = l.all o.knows
  | [] => rfl
  | a :: r => by rw [Od.knowsL, List.all_cons, Od.knowsL_all o r]
theorem all_take_succ {α : Type} (p : α → Bool) (l : List α) (k : Nat) (h : k < l.length) : (l.take (k + 1)).all p = ((l.take k).all p && p l[k]) := by
  rw [List.take_succ_eq_append_getElem h, List.all_append]; simp
theorem all_of_not {α : Type} (p : α → Bool) (l : List α) (k : Nat) (h : k < l.length) (hp : p l[k] = false) : l.all p = false := by
  rw [List.all_eq_false]; exact ⟨l[k], List.getElem_mem h, by simp [hp]⟩

theorem Od.knows_args {o : Od} {f : Int} {l : List T} (h : o.knows (.mk f l) = true) : f < 0 ∧ l = [] ∨ 0 ≤ f ∧ f < o.prec.length ∧ f < o.weights.length ∧ ∀ a ∈ l, o.knows a = true := by
  rw [Od.knows] at h
  by_cases h0 : f < 0
  · rw [if_pos h0] at h; exact .inl ⟨h0, by simpa using h⟩
  · rw [if_neg h0, Bool.and_eq_true, decide_eq_true_eq, Od.knowsL_all, List.all_eq_true] at h
    exact .inr ⟨by omega, h.1.1, h.1.2, h.2⟩

set_option maxRecDepth 100000 in
theorem knows_any (o : Od) (t : T) : ∀ (w : World) (vo v : Value), IsOd w o vo → IsT w t v →
    Calls Try.prog 27 #[vo, v] w fun e w' => e = .returned (.bool (o.knows t)) ∧ Below w.heap.size w w' := by
  induction t using T.ind with
  | h f l ih =>
  intro w vo v ho hv
  have ho0 := ho
  obtain ⟨a1, a2, c1, c2, rfl, n1, n2, n3, n4, _⟩ := ho
  obtain ⟨hf, a, c, rfl, hc, hm, hl⟩ := hv
  unfold maxLen at hm n2 n4
  obtain ⟨hf1, hf2⟩ := hf
  have HO := Lib.hid ho0
  clear ho0
  by_cases h0 : f < 0
  · have E := Lib.hid (show o.knows (.mk f l) = l.isEmpty by rw [Od.knows, if_pos h0])
    go_enter Try.func27, Try.ntmps27
    go_wp2_with fail
    go_ret
    refine ⟨?_, ((Below.refl _ _).alloc (Nat.le_refl _) _).alloc (by simp) _⟩
    rw [E.out]
    cases l <;> simp
    omega
  · by_cases h1 : f < o.prec.length ∧ f < o.weights.length
    · have E := Lib.hid (show o.knows (.mk f l) = l.all o.knows by rw [Od.knows, if_neg h0, Od.knowsL_all]; simp [h1])
      obtain ⟨h1, h2⟩ := h1
      rcases Nat.lt_or_ge o.weights.length o.prec.length with hx | hx
      all_goals
        go_enter Try.func27, Try.ntmps27
        go_wp2_with fail
        go_loopw [27] (fun i wr => ∃ (k : Nat), k ≤ l.length ∧ i = .int .i64 k ∧ (l.take k).all o.knows = true ∧
          Below (w.heap.size + 2) ((w.alloc (.cells #[.bool o.lpo, .slice a1 o.prec.length c1, .slice a2 o.weights.length c2, .int .i64 o.var] 24)).alloc (.cells #[.int .i64 f, .slice a l.length c] 27)) wr) (fun i _ => l.length - (intOf i).toNat)
        case atStart => exact ⟨0, Nat.zero_le _, rfl, rfl, Below.refl _ _⟩
        case round =>
          obtain ⟨k, hk, rfl, hall, hb⟩ := hrel
          have hw : Below w.heap.size w wr := (((Below.refl _ _).alloc (Nat.le_refl _) _).alloc (by simp) _).trans (hb.mono (by omega))
          by_cases hlt : k < l.length
          · obtain ⟨b, oo, a', c', rfl, g1, g2, h3⟩ := hl.at_ hw k hlt
            have b0 := calloc (show wr.cell? ⟨w.heap.size, 0, none⟩ = some (.bool o.lpo) by rw [hb.cell (by simp)]; go_simp)
            have b1 := calloc (show wr.cell? ⟨w.heap.size, 1, none⟩ = some (.slice a1 o.prec.length c1) by rw [hb.cell (by simp)]; go_simp)
            have b2 := calloc (show wr.cell? ⟨w.heap.size, 2, none⟩ = some (.slice a2 o.weights.length c2) by rw [hb.cell (by simp)]; go_simp)
            have b3 := calloc (show wr.cell? ⟨w.heap.size, 3, none⟩ = some (.int .i64 o.var) by rw [hb.cell (by simp)]; go_simp)
            have IH := fun w vo v => ih l[k] (List.getElem_mem hlt) w vo v
            have hz := hb.size
            simp only [World.size_alloc] at hz
            cases hkk : o.knows l[k] with
            | true =>
              rw [hkk] at IH
              have Hh3 := Lib.hid h3
              have Hhb := Lib.hid hb
              have Hhw := Lib.hid hw
              have Hhall := Lib.hid hall
              have Hhkk := Lib.hid hkk
              clear h3 hb hw hall hkk
              clear ih hl
              go_wp2_with (go_at_call 27; refine (IH _ _ _ (HO.out.below (Hhw.out.alloc Hhw.out.size _)) (Hh3.out.below ((Below.refl _ _).alloc (Nat.le_refl _) _))).mono ?_; rintro e w' ⟨rfl, hb'⟩)
              go_roundw
              case rel => exact ⟨k + 1, by omega, by go_num, by rw [all_take_succ _ _ _ hlt, Hhall.out, Hhkk.out]; rfl, Hhb.out.trans (((Below.refl _ _).alloc (by omega) _).trans (hb'.mono (by simp; omega)))⟩
              case measure => simp [intOf]; omega
            | false =>
              rw [hkk] at IH
              have Hh3 := Lib.hid h3
              have Hhb := Lib.hid hb
              have Hhw := Lib.hid hw
              have Hhall := Lib.hid hall
              have Hhkk := Lib.hid hkk
              clear h3 hb hw hall hkk
              clear ih hl
              go_wp2_with (go_at_call 27; refine (IH _ _ _ (HO.out.below (Hhw.out.alloc Hhw.out.size _)) (Hh3.out.below ((Below.refl _ _).alloc (Nat.le_refl _) _))).mono ?_; rintro e w' ⟨rfl, hb'⟩)
              go_ret
              exact ⟨rbool (by rw [E.out, all_of_not _ _ _ hlt Hhkk.out]), Hhw.out.trans (((Below.refl _ _).alloc (by omega) _).trans (hb'.mono (by simp; omega)))⟩
          · go_wp2_with fail
            go_ret
            obtain rfl : k = l.length := by omega
            rw [List.take_length] at hall
            exact ⟨rbool (by rw [E.out, hall]), hw⟩
    · have E := Lib.hid (show o.knows (.mk f l) = false by rw [Od.knows, if_neg h0]; simp [h1])
      rcases Nat.lt_or_ge o.weights.length o.prec.length with hx | hx
      all_goals
        go_enter Try.func27, Try.ntmps27
        go_wp2_with fail
        go_ret
        exact ⟨rbool E.out, ((Below.refl _ _).alloc (Nat.le_refl _) _).alloc (by simp) _⟩

end Go.Proofs.Ytjkpecjlpgcalaa
