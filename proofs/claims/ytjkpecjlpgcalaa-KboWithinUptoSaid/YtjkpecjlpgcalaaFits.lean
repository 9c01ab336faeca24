/- The walk through 'Fits': an order of this kind and terms over a signature. -/
import Derived.Test.YtjkpecjlpgcalaaOrdCheck
import Derived.Test.YtjkpecjlpgcalaaTermChk
import Derived.Test.YtjkpecjlpgcalaaOps
namespace Go.Proofs.Ytjkpecjlpgcalaa
open Go.RowKit Go.Sort Go

def fitsSp (w : World) (sg : List Sy) (a : Option Addr) (c bt ot cl k : Nat) (l : List T) (u x : Value) (nn : Int) : List (Bool × Sp) := [(true, .val ((.agg #[.slice a sg.length c]))), (true, .val (.slice (some ⟨bt, ot, none⟩) l.length cl)), (true, .val (.int .i64 k)), (true, .val (.pointer (some ⟨bt, ot + k * 2, none⟩))), (true, .val ((.agg #[u, x]))), (true, .val (.int .i64 nn)), (true, .val (.bool ((nn : Int) != (0 : Int))))]

set_option maxRecDepth 100000 in
set_option maxHeartbeats 4000000 in
theorem fits_any (sg : List Sy) (o : Od) (l : List T) (w : World) (vs vo : Value) (al : Option Addr) (cl : Nat) (hz : ∀ t ∈ l, t.size ≤ 4294967296) (hs : IsSig w sg vs) (ho : IsOd w o vo) (hlc : l.length ≤ cl) (hlm : cl ≤ maxLen) (hl : IsTs w l al 0) :
    Calls Try.prog 15 #[vs, vo, .slice al l.length cl] w fun e w' => (∃ b, e = .returned (.bool b) ∧ (b = true → FitsOk sg o l)) ∧ Below w.heap.size w w' := by
  have hs0 := hs
  have ho0 := ho
  obtain ⟨a, c, rfl, hc, hm, hsl⟩ := hs
  obtain ⟨a1, a2, c1, c2, rfl, n1, n2, n3, n4, p1, p2, hv1, hv2⟩ := ho
  have OC := fun w vs vo h1 h2 => ordCheck_any sg o w vs vo h1 h2
  unfold maxLen at hm hlm
  clear n1 n2 n3 n4 p1 p2 hv1 hv2 hsl
  have Hhs := Lib.hid hs0
  have Hho := Lib.hid ho0
  clear hs0 ho0
  cases hlpo : o.lpo with
  | true =>
    go_enter Try.func15, Try.ntmps15
    go_wp2_with fail
    go_ret
    exact ⟨⟨_, rfl, fun h => by cases h⟩, balloc2 _ _ _⟩
  | false =>
    have Hhlpo := Lib.hid hlpo
    rw [hlpo] at Hho
    go_enter Try.func15, Try.ntmps15
    go_wp2_with fail
    refine (OC _ _ _ (Hhs.out.below (balloc2 _ _ _)) (Hho.out.below (balloc2 _ _ _))).mono ?_
    rintro e w1 ⟨⟨n, rfl, hn⟩, hb1⟩
    obtain ⟨B1, B2, hw1⟩ := box2 hb1
    have Hk0 := Lib.hid (B1 0 _ rfl)
    have Hhw1 := Lib.hid hw1
    clear hw1
    clear hb1 B1 B2 OC
    by_cases h0 : n = 0
    · have HO := Lib.hid (hn h0)
      subst h0
      clear hn
      go_wp2_with fail
      go_loopw [7] (fun i wr => ∃ (k : Nat), k ≤ l.length ∧ i = .int .i64 k ∧ Hid (∀ t ∈ l.take k, t.check sg = 0) ∧ Below w.heap.size w wr ∧ Hid (wr.cell? ⟨w.heap.size, 0, none⟩ = some (.slice a sg.length c))) (fun i _ => l.length - (intOf i).toNat)
      case atStart => exact ⟨0, Nat.zero_le _, rfl, fun t ht => by simp at ht, Hhw1.out, Hk0.out⟩
      case round =>
        clear Hk0 Hhw1
        obtain ⟨k, hk, rfl, hall, hw, Hk0⟩ := hrel
        by_cases hlt : k < l.length
        · obtain ⟨bt, ot, u, x, rfl, g0, g1, gt⟩ := (hl.below hw).at0 k hlt
          simp only [Nat.zero_add] at g0 g1
          have Hg0 := Lib.hid g0
          have Hg1 := Lib.hid g1
          have Hgt := Lib.hid gt
          have Hlt := Lib.hid hlt
          have TC := fun w vs v => tcheck_any sg l[k] w vs v (hz _ (List.getElem_mem hlt))
          obtain ⟨nn, hnn⟩ : ∃ nn, nn = l[k].check sg := ⟨_, rfl⟩
          rw [← hnn] at TC
          have TC := Lib.hid TC
          have Hnn := Lib.hid hnn
          clear hnn
          have Hhs := Lib.hid (Hhs.out.below hw)
          have z1 : (k : Int) < (l.length : Int) := by omega
          have Hhw := Lib.hid hw
          have Hhall := Lib.hid hall
          clear hw hall
          clear g0 g1 gt
          go_wp2_with (with_reducible refine stop_region ?_)
          refine Stop.mk ?_
          refine wp_region_lit (optR (fitsSp w sg a c bt ot cl k l u x nn)) [false, false, false, false, false, false, false, false, false, false, false, false, false, false, false, false, false, false, false, false, false, false, true, true, true, true, true, true, true] (by kernel_rfl) (by kernel_rfl) (by kernel_rfl) (optKeep _) ?_ ?_
          · refine ⟨⟨true, .none rfl, fun h w => optUndef h, fun hβ fx wx hwx hn hd => ?_⟩, ?_⟩
            · exact wp_ld_apiSig rfl ((rel_eval (by kernel_rfl)).trans (show fx 3 = .pointer (some ⟨w.heap.size, 0, none⟩) from hn 3 (by kernel_rfl))) (bkeeps hwx _ _ (Hk0.out)) ⟨_, rfl, Below.refl _ _, optDef hβ rfl⟩
            refine ⟨⟨true, .none rfl, fun h w => optUndef h, fun hβ fx wx hwx hn hd => ?_⟩, ?_⟩
            · exact wp_move rfl ((rel_eval (by kernel_rfl)).trans (show fx 2 = .slice (some ⟨bt, ot, none⟩) l.length cl from hn 2 (by kernel_rfl))) ⟨_, rfl, Below.refl _ _, optDef hβ rfl⟩
            refine ⟨⟨true, .none rfl, fun h w => optUndef h, fun hβ fx wx hwx hn hd => ?_⟩, ?_⟩
            · exact wp_move rfl ((rel_eval (by kernel_rfl)).trans (show fx 7 = .int .i64 k from hn 7 (by kernel_rfl))) ⟨_, rfl, Below.refl _ _, optDef hβ rfl⟩
            refine ⟨⟨true, .none rfl, fun h w => optUndef h, fun hβ fx wx hwx hn hd => ?_⟩, ?_⟩
            · exact wp_ix_LapiTerm rfl ((rel_eval (by kernel_rfl)).trans (optVal (x := .slice (some ⟨bt, ot, none⟩) l.length cl) (β := true) (hd 1 23 (by kernel_rfl)) rfl rfl)) ((rel_eval (by kernel_rfl)).trans (optVal (x := .int .i64 k) (β := true) (hd 2 24 (by kernel_rfl)) rfl rfl)) (Hlt.out) ⟨_, rfl, Below.refl _ _, optDef hβ rfl⟩
            refine ⟨⟨true, .none rfl, fun h w => optUndef h, fun hβ fx wx hwx hn hd => ?_⟩, ?_⟩
            · exact wp_ld_apiTerm rfl ((rel_eval (by kernel_rfl)).trans (optVal (x := .pointer (some ⟨bt, ot + k * 2, none⟩)) (β := true) (hd 3 25 (by kernel_rfl)) rfl rfl)) (bkeeps hwx _ _ (Hg0.out)) (bkeeps hwx _ _ (Hg1.out)) ⟨_, rfl, Below.refl _ _, optDef hβ rfl⟩
            refine ⟨⟨true, .none rfl, fun h w => optUndef h, fun hβ fx wx hwx hn hd => ?_⟩, ?_⟩
            · exact wp_call (by kernel_rfl) rfl (hv2 ((rel_eval (by kernel_rfl)).trans (optVal (x := (.agg #[.slice a sg.length c])) (β := true) (hd 0 22 (by kernel_rfl)) rfl rfl)) ((rel_eval (by kernel_rfl)).trans (optVal (x := (.agg #[u, x])) (β := true) (hd 4 26 (by kernel_rfl)) rfl rfl))) (spec_of2 (TC.out _ _ _ (Hhs.out.below hwx) (Hgt.out.below hwx))) (fun v w' h => ⟨v, rfl, h.1, optDef hβ h.2⟩)
            refine ⟨⟨true, .none rfl, fun h w => optUndef h, fun hβ fx wx hwx hn hd => ?_⟩, ?_⟩
            · exact wp_ne_apiErrno rfl ((rel_eval (by kernel_rfl)).trans (optVal (x := .int .i64 nn) (β := true) (hd 5 27 (by kernel_rfl)) rfl rfl)) rfl ⟨_, rfl, Below.refl _ _, optDef hβ rfl⟩
            exact trivial
          intro ux w3 hb3 hu
          have eu := optVal (x := .bool ((nn : Int) != (0 : Int))) (β := true) (hu 6 28 (by kernel_rfl)) rfl rfl
          simp only [finM]
          rw [eu]
          clear hu eu
          generalize hE : (nn != 0) = e
          cases e with
          | false =>
            have HV := Lib.hid (show ∀ t ∈ l.take (k + 1), t.check sg = 0 by
              rw [List.take_succ_eq_append_getElem hlt]
              intro t ht
              rcases List.mem_append.1 ht with h | h
              · exact Hhall.out t h
              · simp at h; rw [h]; exact Hnn.out.symm.trans (by simpa using hE))
            clear hE
            go_wp2_with fail
            go_roundw
            case rel => exact ⟨k + 1, by omega, by go_num, HV.out, bstep Hhw.out hb3, bkeeps hb3 _ _ Hk0.out⟩
            case measure => simp [intOf]; omega
          | true =>
            clear hE
            go_wp2_with fail
            go_ret
            exact ⟨⟨_, rfl, fun h => by cases h⟩, bstep Hhw.out hb3⟩
        · have HV := Lib.hid (show FitsOk sg o l from ⟨Hhlpo.out, HO.out, by have := hall.out; rwa [show k = l.length by omega, List.take_length] at this⟩)
          go_wp2_with fail
          go_ret
          exact ⟨⟨_, rfl, fun _ => HV.out⟩, hw⟩
    · have q : (n != 0) = true := by simpa using h0
      clear hn h0
      go_wp2_with fail
      go_ret
      exact ⟨⟨_, rfl, fun h => by cases h⟩, Hhw1.out⟩

end Go.Proofs.Ytjkpecjlpgcalaa
