/- Scopes (functions with labels) through which the run goes without a goto. -/
import Derived.Test.YtnokgjajcnhkkaaCNMe
import Derived.Laws.EntriesVeiled
import Derived.Test.YtnokgjajcnhkkaaCNMd
import Derived.Test.YtnokgjajcnhkkaaCNMa
import Derived.Deep.LoopGhost
import Derived.Test.YtnokgjajcnhkkaaCNMb
import Derived.Test.YtnokgjajcnhkkaaCNMc
import Derived.Scope

/- The walks through the program's order of Knuth and Bendix: how often variables stand. -/
namespace Go.Proofs.Ytnokgjajcnhkkaa
open Go.RowKit Go.Sort Go.Maps Go
/-- A function on variables with a term's variables added so often. -/
def addF (F : Int → Int) (b : Int) (t : T) : Int → Int := fun v => F v + b * (if v < 0 then t.often v else 0 : Nat)
def addL (F : Int → Int) (b : Int) (l : List T) : Int → Int := fun v => F v + b * (if v < 0 then T.oftenL v l else 0 : Nat)
theorem addL_nil (F : Int → Int) (b : Int) : addL F b [] = F := by funext v; simp [addL, T.oftenL]
theorem addL_take_succ (F : Int → Int) (b : Int) (l : List T) (k : Nat) (h : k < l.length) : addF (addL F b (l.take k)) b l[k] = addL F b (l.take (k + 1)) := by
  funext v
  unfold addF addL
  rw [T.oftenL_take_succ v l k h]
  by_cases hv : v < 0
  · simp only [if_pos hv, Int.natCast_add, Int.mul_add]; omega
  · simp only [if_neg hv]; omega
theorem addF_mk_neg (F : Int → Int) (b f : Int) (l : List T) (h : f < 0) : addF F b (.mk f l) = addL (updF F f (F f + b)) b l := by
  funext v
  unfold addF addL updF
  rw [T.often]
  by_cases hv : v < 0
  · simp only [if_pos hv]
    by_cases e : v = f
    · subst e; simp only [if_true, Int.natCast_add, Int.mul_add]; simp; omega
    · simp only [if_neg e, if_neg (Ne.symm e), Nat.zero_add]
  · have : ¬ v = f := by omega
    simp only [if_neg hv, if_neg this]
theorem addF_mk_pos (F : Int → Int) (b f : Int) (l : List T) (h : ¬ f < 0) : addF F b (.mk f l) = addL F b l := by
  funext v
  unfold addF addL
  rw [T.often]
  by_cases hv : v < 0
  · have : ¬ f = v := by omega
    simp only [if_pos hv, if_neg this, Nat.zero_add]
  · simp only [if_neg hv]
theorem addL_bound {F : Int → Int} {K : Nat} (hF : ∀ v, -(K : Int) ≤ F v ∧ F v ≤ K) {b : Int} (hb : b = 1 ∨ b = -1) (l : List T) (v : Int) : -((K + T.sizeL l : Nat) : Int) ≤ addL F b l v ∧ addL F b l v ≤ (K + T.sizeL l : Nat) := by
  have h1 := hF v
  have h2 := (T.often_le v).2 l
  unfold addL
  split <;> rcases hb with rfl | rfl <;> omega
set_option maxRecDepth 100000 in
set_option maxHeartbeats 2000000 in
theorem counts1_any (w0 : World) (t : T) : ∀ (v : Value), IsT w0 t v → ∀ (W : World) (b : Int) (Bn Bm Bw K N : Nat) (D : DataW Unit) (F : Int → Int), Below w0.heap.size w0 W → w0.heap.size ≤ Bm → Bn ≠ Bm → Bw ≠ Bm →
    Box W Bn [.map (some Bm)] → Box W Bw [.func (.func 66) #[] #[.pointer (some ⟨Bn, 0, none⟩), .pointer (some ⟨Bw, 0, none⟩)]] →
    W.ownsMap Try.prog 3 (plainElem Try.prog 3) Bm N D → MapF D F → (∀ v, -(K : Int) ≤ F v ∧ F v ≤ K) → K + t.size ≤ 1099511627776 → N ≤ K → (b = 1 ∨ b = -1) →
    Calls Try.prog 66 #[v, .int .i64 b, .pointer (some ⟨Bn, 0, none⟩), .pointer (some ⟨Bw, 0, none⟩)] W fun e W' => e = .returned (.tuple #[]) ∧
      ∃ (N' : Nat) (D' : DataW Unit), N' ≤ K + t.size ∧ W'.ownsMap Try.prog 3 (plainElem Try.prog 3) Bm N' D' ∧ MapF D' (addF F b t) ∧ W.grownBy W' (some Bm) := by
  induction t using T.ind with
  | h f l ih =>
  intro v hv W b Bn Bm Bw K N D F hbw hBm hnm hwm hBn hBw hown hMF hF hK hNK hb
  obtain ⟨⟨hf1, hf2⟩, a, c, rfl, hc, hm, hl⟩ := hv
  unfold maxLen at hm
  rw [T.size] at hK ⊢
  have m0 := calloc hBn.one
  have wf := calloc hBw.one
  have hbw := Lib.hid hbw
  have hBw0 := Lib.hid hBw
  have hBn0 := Lib.hid hBn
  have hbb := Lib.hid hb
  have IHH := ih
  clear ih
  have ih := Lib.hid IHH
  clear IHH
  have hb1 : -1 ≤ b ∧ b ≤ 1 := by omega
  obtain ⟨hb1, hb2⟩ := hb1
  by_cases h0 : f < 0
  · have EF := Lib.hid (addF_mk_neg F b f l h0).symm
    have hFf := hF f
    obtain ⟨hFf1, hFf2⟩ := hFf
    have hFK : ∀ v, -((K + 1 : Nat) : Int) ≤ updF F f (F f + b) v ∧ updF F f (F f + b) v ≤ (K + 1 : Nat) := by
      intro v
      have := hF v
      unfold updF
      split <;> omega
    have hkey : keyOf Try.prog 3 (.int .i64 f) = some (.int .i64 f) := keyOf_int_mk Try.underlying3 (i64_mk hf1 hf2)
    have HM := Lib.hid (hown.isMap)
    have hmlt := hown.lt
    have HhFK := Lib.hid hFK
    have HhMF := Lib.hid hMF
    have Hhown := Lib.hid hown
    have Hhkey := Lib.hid hkey
    have HhF := Lib.hid hF
    clear hFK hMF hown hkey hF
    have hFK := HhFK
    clear HhFK hBw hBn hb
    go_enter Try.func66, Try.ntmps66
    go_wp2_with (first
      | (at_lookup; refine wpList_lookup_own_int _ rfl _ _ 96 rfl 3 3 .i64 lawInt Try.underlying96 Try.underlying3 (zeroInt _) Bm N _ rfl (Hhown.out.alloc _) _ _ rfl Hhkey.out ?_; intro c hat hwc; obtain rfl : c = F f := mapF_eq HhMF.out (i64_mk hf1 hf2) hat; clear hat hwc)
      | (at_mapUpdate; refine wpList_mapUpdate_own _ rfl _ _ _ 96 rfl 3 3 lawInt Try.underlying96 _ Bm N _ rfl (Hhown.out.alloc _) (by unfold maxLen; omega) _ _ _ rfl rfl Hhkey.out _ [] (plainElem_int Try.underlying3 (i64_mk (by omega) (by omega))) ?_; intro w1 hown1 hgrow1; obtain ⟨x0, x1⟩ := (Box.grown (Box.new W [.int .i64 f, .slice a l.length c] 34) hgrow1 (by omega)).two))
    have hg1 := gtrans (galloc W _ _) hgrow1
    have HM1 := mapF_put HM.out HhMF.out (f := f) (x := F f + b)
    have Hhown1 := Lib.hid hown1
    have Hhg1 := Lib.hid hg1
    have HHM1 := Lib.hid HM1
    clear hown1 hg1 HM1
    clear hgrow1
    go_loopw [20] (fun i wr => ∃ (k N : Nat) (D : DataW Unit), k ≤ l.length ∧ i = .int .i64 k ∧ N ≤ (K + 1) + T.sizeL (l.take k) ∧ wr.ownsMap Try.prog 3 (plainElem Try.prog 3) Bm N D ∧ MapF D (addL (updF F f (F f + b)) b (l.take k)) ∧ W.grownBy wr (some Bm)) (fun i _ => l.length - (intOf i).toNat)
    case round =>
      clear m0 wf
      obtain ⟨k, N, D, hk, rfl, hN, hown, hMF, hg⟩ := hrel
      have hb2 := gbelow hbw.out hg hBm
      by_cases hlt : k < l.length
      · obtain ⟨bb, oo, a', c', rfl, g1, g2, h3⟩ := hl.at2 hb2 k hlt
        have hmem := List.getElem_mem hlt
        have B2 := hBw0.out.grown hg hwm
        have B1 := hBn0.out.grown hg hnm
        have wf := calloc B2.one
        have e1 := T.sizeL_take_succ l k hlt
        have e2 := T.sizeL_take_le l (k + 1)
        have IH := fun W0 hW => ih.out l[k] hmem _ h3 W0 b Bn Bm Bw ((K + 1) + T.sizeL (l.take k)) N D (addL (updF F f (F f + b)) b (l.take k)) hW hBm hnm hwm
        have BD := addL_bound hFK.out hbb.out (l.take k)
        have q5 := addL_take_succ (updF F f (F f + b)) b l k hlt
        have Hhb2 := Lib.hid hb2
        have HB1 := Lib.hid B1
        have HB2 := Lib.hid B2
        have Hhg := Lib.hid hg
        have Hh3 := Lib.hid h3
        have Hhown := Lib.hid hown
        have HhMF := Lib.hid hMF
        have HBD := Lib.hid BD
        have Hq5 := Lib.hid q5
        clear hb2 B1 B2 hg h3 hown hMF BD q5
        clear hl
        go_wp2_with (go_at_call 66; refine (IH _ (bstep Hhb2.out (balloc _ _)) (HB1.out.alloc _) (HB2.out.alloc _) (Hhown.out.alloc _) HhMF.out HBD.out (by omega) (by omega) hbb.out).mono ?_; rintro e w' ⟨rfl, N2, D2, hN2, hown2, hMF2, hg2⟩)
        have Hown2 := Lib.hid hown2
        have HMF2 := Lib.hid hMF2
        clear hown2 hMF2
        go_wp2_with fail
        go_roundw
        case rel => exact ⟨k + 1, N2, D2, by omega, by go_num, by omega, Hown2.out, Hq5.out ▸ HMF2.out, gtrans Hhg.out (gtrans (galloc _ _ _) hg2)⟩
        case measure => simp [intOf]; omega
      · obtain rfl : k = l.length := by omega
        rw [List.take_length] at hMF hN
        have Hhown := Lib.hid hown
        have HhMF := Lib.hid hMF
        have Hhg := Lib.hid hg
        clear hown hMF hg
        go_wp2_with fail
        go_end0
        exact ⟨rfl, N, D, by omega, Hhown.out, EF.out ▸ HhMF.out, Hhg.out⟩
    case atStart => exact ⟨0, N + 1, _, Nat.zero_le _, rfl, by omega, Hhown1.out, by rw [List.take_zero, addL_nil]; exact HHM1.out, Hhg1.out⟩
  · have EF := Lib.hid (addF_mk_pos F b f l h0).symm
    have hFK := Lib.hid hF
    have HhMF := Lib.hid hMF
    have Hhown := Lib.hid hown
    clear hMF hown
    clear hF hBw hBn hb
    go_enter Try.func66, Try.ntmps66
    go_wp2_with fail
    go_loopw [20] (fun i wr => ∃ (k N : Nat) (D : DataW Unit), k ≤ l.length ∧ i = .int .i64 k ∧ N ≤ K + T.sizeL (l.take k) ∧ wr.ownsMap Try.prog 3 (plainElem Try.prog 3) Bm N D ∧ MapF D (addL F b (l.take k)) ∧ W.grownBy wr (some Bm)) (fun i _ => l.length - (intOf i).toNat)
    case round =>
      clear m0 wf
      obtain ⟨k, N, D, hk, rfl, hN, hown, hMF, hg⟩ := hrel
      have hb2 := gbelow hbw.out hg hBm
      by_cases hlt : k < l.length
      · obtain ⟨bb, oo, a', c', rfl, g1, g2, h3⟩ := hl.at2 hb2 k hlt
        have hmem := List.getElem_mem hlt
        have B2 := hBw0.out.grown hg hwm
        have B1 := hBn0.out.grown hg hnm
        have wf := calloc B2.one
        have e1 := T.sizeL_take_succ l k hlt
        have e2 := T.sizeL_take_le l (k + 1)
        have IH := fun W0 hW => ih.out l[k] hmem _ h3 W0 b Bn Bm Bw (K + T.sizeL (l.take k)) N D (addL F b (l.take k)) hW hBm hnm hwm
        have BD := addL_bound hFK.out hbb.out (l.take k)
        have q5 := addL_take_succ F b l k hlt
        have Hhb2 := Lib.hid hb2
        have HB1 := Lib.hid B1
        have HB2 := Lib.hid B2
        have Hhg := Lib.hid hg
        have Hh3 := Lib.hid h3
        have Hhown := Lib.hid hown
        have HhMF := Lib.hid hMF
        have HBD := Lib.hid BD
        have Hq5 := Lib.hid q5
        clear hb2 B1 B2 hg h3 hown hMF BD q5
        clear hl
        go_wp2_with (go_at_call 66; refine (IH _ (bstep Hhb2.out (balloc _ _)) (HB1.out.alloc _) (HB2.out.alloc _) (Hhown.out.alloc _) HhMF.out HBD.out (by omega) (by omega) hbb.out).mono ?_; rintro e w' ⟨rfl, N2, D2, hN2, hown2, hMF2, hg2⟩)
        have Hown2 := Lib.hid hown2
        have HMF2 := Lib.hid hMF2
        clear hown2 hMF2
        go_wp2_with fail
        go_roundw
        case rel => exact ⟨k + 1, N2, D2, by omega, by go_num, by omega, Hown2.out, Hq5.out ▸ HMF2.out, gtrans Hhg.out (gtrans (galloc _ _ _) hg2)⟩
        case measure => simp [intOf]; omega
      · obtain rfl : k = l.length := by omega
        rw [List.take_length] at hMF hN
        have Hhown := Lib.hid hown
        have HhMF := Lib.hid hMF
        have Hhg := Lib.hid hg
        clear hown hMF hg
        go_wp2_with fail
        go_end0
        exact ⟨rfl, N, D, by omega, Hhown.out, EF.out ▸ HhMF.out, Hhg.out⟩
    case atStart => exact ⟨0, N, D, Nat.zero_le _, rfl, by omega, Hhown.out.alloc _, by rw [List.take_zero, addL_nil]; exact HhMF.out, galloc _ _ _⟩
end Go.Proofs.Ytnokgjajcnhkkaa

/- The walks through the program's order of Knuth and Bendix: which term has which variables more often. -/
namespace Go.Proofs.Ytnokgjajcnhkkaa
open Go.RowKit Go.Sort Go.Maps Go
theorem IsT.often_i64 {w : World} {x : Int} : ∀ (t : T) (v : Value), IsT w t v → 0 < t.often x → I64 x := by
  intro t
  induction t using T.ind with
  | h f l ih =>
  intro v hv hx
  obtain ⟨hf, a, c, rfl, hc, hm, hl⟩ := hv
  clear hc hm
  rw [T.often] at hx
  by_cases e : f = x
  · subst e; exact hf
  · rw [if_neg e, Nat.zero_add] at hx
    have : ∃ k, ∃ hk : k < l.length, 0 < T.often x l[k] := by
      clear hl ih
      induction l with
      | nil => simp [T.oftenL] at hx
      | cons a r ihr =>
        rw [T.oftenL] at hx
        by_cases h : 0 < T.often x a
        · exact ⟨0, by simp, h⟩
        · obtain ⟨k, hk, h⟩ := ihr (by omega)
          exact ⟨k + 1, by simpa using hk, by simpa using h⟩
    obtain ⟨k, hk, h⟩ := this
    obtain ⟨_, _, _, _, _, _, _, h3⟩ := hl.at2 (Below.refl _ _) k hk
    exact ih _ (List.getElem_mem hk) _ h3 h
theorem covers_iff (o : Od) (s t : T) : ∀ (u : T), o.knows u = true → (Od.covers s t u = true ↔ ∀ v, v < 0 → 0 < u.often v → t.often v ≤ s.often v) := by
  intro u
  induction u using T.ind with
  | h f l ih =>
  intro hk
  rcases Od.knows_args hk with ⟨h0, rfl⟩ | ⟨h0, _, _, hall⟩
  · rw [Od.covers, if_pos h0, decide_eq_true_eq]
    constructor
    · intro h v hv hp
      rw [T.often, T.oftenL] at hp
      by_cases e : f = v
      · subst e; exact h
      · rw [if_neg e] at hp; omega
    · intro h
      exact h f h0 (by rw [T.often, if_pos rfl]; omega)
  · rw [Od.covers, if_neg (by omega)]
    have hL : ∀ r : List T, (∀ a ∈ r, a ∈ l) → (Od.coversL s t r = true ↔ ∀ v, v < 0 → 0 < T.oftenL v r → t.often v ≤ s.often v) := by
      intro r
      induction r with
      | nil => intro _; simp [Od.coversL, T.oftenL]
      | cons a r ihr =>
        intro hm
        rw [Od.coversL, Bool.and_eq_true, ih a (hm a (by simp)) (hall a (hm a (by simp))), ihr (fun b hb => hm b (by simp [hb]))]
        constructor
        · rintro ⟨h1, h2⟩ v hv hp
          rw [T.oftenL] at hp
          by_cases e : 0 < T.often v a
          · exact h1 v hv e
          · exact h2 v hv (by omega)
        · intro h
          exact ⟨fun v hv hp => h v hv (by rw [T.oftenL]; omega), fun v hv hp => h v hv (by rw [T.oftenL]; omega)⟩
    rw [hL l (fun _ h => h)]
    constructor
    · intro h v hv hp
      refine h v hv ?_
      rw [T.often, if_neg (by omega)] at hp
      omega
    · intro h v hv hp
      exact h v hv (by rw [T.often]; omega)
/-- What the loop over the map has found. -/
def LR (F : Int → Int) (D : DataW Unit) (left : Lit → Bool) (b1 b2 : Bool) : Prop :=
  (b1 = true ↔ ∀ v, (Lit.int .i64 v).wf = true → Maps.has D (.int .i64 v) = true → left (.int .i64 v) = false → F v ≤ 0) ∧
  (b2 = true ↔ ∀ v, (Lit.int .i64 v).wf = true → Maps.has D (.int .i64 v) = true → left (.int .i64 v) = false → 0 ≤ F v)
theorem LR.start (F : Int → Int) (D : DataW Unit) : LR F D (Maps.has D) true true := by
  constructor <;> exact ⟨fun _ v _ h1 h2 => by rw [h1] at h2; simp at h2, fun _ => rfl⟩
theorem sameInt (v x : Int) : (Lit.int .i64 v).sameKey (.int .i64 x) = decide (v = x) := by simp [Lit.sameKey]
theorem LR.step {F : Int → Int} {D : DataW Unit} {left : Lit → Bool} {b1 b2 : Bool} {x c : Int} (h : LR F D left b1 b2) (hF : MapF D F) (hwx : (Lit.int .i64 x).wf = true) (hl : left (.int .i64 x) = true)
    (hat : ∀ zd, D.atKey (.int .i64 x) zd = .lit (.int .i64 c)) : LR F D (fun z => left z && !z.sameKey (.int .i64 x)) (b1 && decide (c ≤ 0)) (b2 && decide (0 ≤ c)) := by
  have hc : c = F x := mapF_eq hF hwx (hat _)
  have hx : Maps.has D (.int .i64 x) = true := by
    cases hh : Maps.has D (.int .i64 x) with
    | true => rfl
    | false =>
      have h1 := Maps.atKey_of_not_has hh (.nil)
      rw [hat] at h1
      cases h1
  have key : ∀ (v : Int), (left (.int .i64 v) && !(Lit.int .i64 v).sameKey (.int .i64 x)) = false ↔ left (.int .i64 v) = false ∨ v = x := by
    intro v
    rw [sameInt]
    cases left (.int .i64 v) <;> simp
  constructor
  · rw [Bool.and_eq_true, decide_eq_true_eq, h.1]
    constructor
    · rintro ⟨g1, g2⟩ v hv hD hl'
      rcases (key v).1 hl' with e | rfl
      · exact g1 v hv hD e
      · omega
    · intro g
      exact ⟨fun v hv hD e => g v hv hD ((key v).2 (.inl e)), hc ▸ g x hwx hx ((key x).2 (.inr rfl))⟩
  · rw [Bool.and_eq_true, decide_eq_true_eq, h.2]
    constructor
    · rintro ⟨g1, g2⟩ v hv hD hl'
      rcases (key v).1 hl' with e | rfl
      · exact g1 v hv hD e
      · omega
    · intro g
      exact ⟨fun v hv hD e => g v hv hD ((key v).2 (.inl e)), hc ▸ g x hwx hx ((key x).2 (.inr rfl))⟩
theorem LR.done {F : Int → Int} {D : DataW Unit} {left : Lit → Bool} {b1 b2 : Bool} (h : LR F D left b1 b2) (hF : MapF D F) (hl : ∀ k, left k = false) :
    (b1 = true ↔ ∀ v, (Lit.int .i64 v).wf = true → F v ≤ 0) ∧ (b2 = true ↔ ∀ v, (Lit.int .i64 v).wf = true → 0 ≤ F v) := by
  have key : ∀ v, (Lit.int .i64 v).wf = true → Maps.has D (.int .i64 v) = false → F v = 0 := by
    intro v hv hh
    have h1 := Maps.atKey_of_not_has hh (.lit (.int .i64 0))
    exact (mapF_eq hF hv h1).symm
  constructor
  · rw [h.1]
    refine ⟨fun g v hv => ?_, fun g v hv _ _ => g v hv⟩
    cases hh : Maps.has D (.int .i64 v) with
    | true => exact g v hv hh (hl _)
    | false => rw [key v hv hh]; omega
  · rw [h.2]
    refine ⟨fun g v hv => ?_, fun g v hv _ _ => g v hv⟩
    cases hh : Maps.has D (.int .i64 v) with
    | true => exact g v hv hh (hl _)
    | false => rw [key v hv hh]; omega
/-- What was counted says what is covered. -/
theorem counted (o : Od) {w : World} {s t : T} {v u : Value} (hs : IsT w s v) (ht : IsT w t u) (ks : o.knows s = true) (kt : o.knows t = true) {b1 b2 : Bool}
    (h1 : b1 = true ↔ ∀ v, (Lit.int .i64 v).wf = true → addF (addF (fun _ => 0) 1 s) (-1) t v ≤ 0) (h2 : b2 = true ↔ ∀ v, (Lit.int .i64 v).wf = true → 0 ≤ addF (addF (fun _ => 0) 1 s) (-1) t v) :
    b1 = Od.covers t s s ∧ b2 = Od.covers s t t := by
  constructor
  · rw [Bool.eq_iff_iff, h1, covers_iff o t s s ks]
    constructor
    · intro g v hv hp
      have hi := IsT.often_i64 s _ hs hp
      have := g v (i64_mk hi.1 hi.2)
      unfold addF at this
      simp only [if_pos hv] at this
      omega
    · intro g v hv
      unfold addF
      by_cases h : v < 0
      · simp only [if_pos h]
        by_cases hp : 0 < s.often v
        · have := g v h hp; omega
        · omega
      · simp [h]
  · rw [Bool.eq_iff_iff, h2, covers_iff o s t t kt]
    constructor
    · intro g v hv hp
      have hi := IsT.often_i64 t _ ht hp
      have := g v (i64_mk hi.1 hi.2)
      unfold addF at this
      simp only [if_pos hv] at this
      omega
    · intro g v hv
      unfold addF
      by_cases h : v < 0
      · simp only [if_pos h]
        by_cases hp : 0 < t.often v
        · have := g v h hp; omega
        · omega
      · simp [h]
set_option maxRecDepth 100000 in
set_option maxHeartbeats 1000000 in
theorem counts_any (o : Od) (s t : T) (w : World) (v u : Value) (zs : s.size ≤ 4294967296) (zt : t.size ≤ 4294967296) (ks : o.knows s = true) (kt : o.knows t = true) (hs : IsT w s v) (ht : IsT w t u) :
    Calls Try.prog 60 #[v, u] w fun e w' => e = .returned (.tuple #[.bool (Od.covers t s s), .bool (Od.covers s t t)]) ∧ Below w.heap.size w w' := by
  have hmm := @run_makeMap Try.prog
  have hs0 := hs
  have ht0 := ht
  obtain ⟨_, a1, c1, rfl, _, _, _⟩ := hs.form
  obtain ⟨_, a2, c2, rfl, _, _, _⟩ := ht.form
  have HE := Lib.hid (fun b1 b2 h1 h2 => counted o (b1 := b1) (b2 := b2) hs ht ks kt h1 h2)
  have C1 := Lib.hid (fun W b Bn Bm Bw K N D F => counts1_any w s _ hs0 W b Bn Bm Bw K N D F)
  have C2 := Lib.hid (fun W b Bn Bm Bw K N D F => counts1_any w t _ ht0 W b Bn Bm Bw K N D F)
  clear hs ht hs0 ht0 ks kt
  go_enter Try.func60, Try.ntmps60
  go_wp2_with fail
  refine (C1.out _ 1 (w.heap.size + 1 + 1 + 1) (w.heap.size + 1 + 1) (w.heap.size + 1 + 1 + 1 + 1) 0 0 _ _ ?c1 (by omega) (by omega) (by omega) ?c2 ?c3 ?c4 mapF_nil (by simp) (by omega) (Nat.le_refl _) (.inl rfl)).mono ?_
  case c1 => exact bstep (balloc2 _ _ _) (bstep (balloc2 _ _ _) (balloc _ _))
  case c2 => exact (Box.new' (by simp)).alloc _
  case c3 => exact Box.new' (by simp)
  case c4 =>
    have := World.ownsMap_made ((w.alloc (.cells #[.int .i64 s.f, .slice a1 s.args.length c1] 34)).alloc (.cells #[.int .i64 t.f, .slice a2 t.args.length c2] 34)) Try.prog 3 (plainElem (H := Unit) Try.prog 3)
    simp only [World.size_alloc] at this
    exact (this.alloc _).alloc _
  rintro e w1 ⟨rfl, N1, D1, hN1, hown1, hMF1, hg1⟩
  have hb1 := gbelow (bstep (balloc2 w _ _) (bstep (balloc2 _ _ _) (balloc _ _))) hg1 (by omega)
  have X2 := ((((Box.new' (b := w.heap.size + 1) (vs := [.int .i64 t.f, .slice a2 t.args.length c2]) (t := 34) (w := w.alloc (.cells #[.int .i64 s.f, .slice a1 s.args.length c1] 34)) (by simp)).alloc _).alloc _).alloc _).grown hg1 (by omega)
  have X4 := ((Box.new' (b := w.heap.size + 1 + 1 + 1) (vs := [.map (some (w.heap.size + 1 + 1))]) (t := 96) (w := ((w.alloc (.cells #[.int .i64 s.f, .slice a1 s.args.length c1] 34)).alloc (.cells #[.int .i64 t.f, .slice a2 t.args.length c2] 34)).alloc (.map #[] 0)) (by simp)).alloc _).grown hg1 (by omega)
  have X5 := (Box.new' (b := w.heap.size + 1 + 1 + 1 + 1) (vs := [.func (.func 66) #[] #[.pointer (some ⟨w.heap.size + 1 + 1 + 1, 0, none⟩), .pointer (some ⟨w.heap.size + 1 + 1 + 1 + 1, 0, none⟩)]]) (t := 97) (w := (((w.alloc (.cells #[.int .i64 s.f, .slice a1 s.args.length c1] 34)).alloc (.cells #[.int .i64 t.f, .slice a2 t.args.length c2] 34)).alloc (.map #[] 0)).alloc (.cells #[.map (some (w.heap.size + 1 + 1))] 96)) (by simp)).grown hg1 (by omega)
  obtain ⟨x2, x3⟩ := X2.two
  have x4 := X4.one
  have x5 := X5.one
  have BF : ∀ v, -((s.size : Nat) : Int) ≤ addF (fun _ => 0) 1 s v ∧ addF (fun _ => 0) 1 s v ≤ (s.size : Nat) := by
    intro v
    have := (T.often_le v).1 s
    unfold addF
    dsimp only
    split <;> omega
  have Hhb1 := Lib.hid hb1
  have Hhown1 := Lib.hid hown1
  have HhMF1 := Lib.hid hMF1
  have HX4 := Lib.hid X4
  have HX5 := Lib.hid X5
  have HBF := Lib.hid BF
  clear hb1 hown1 hMF1 X4 X5 BF
  clear hg1 X2
  go_wp2_with fail
  refine (C2.out _ (-1) (w.heap.size + 1 + 1 + 1) (w.heap.size + 1 + 1) (w.heap.size + 1 + 1 + 1 + 1) s.size N1 D1 _ Hhb1.out (by omega) (by omega) (by omega) HX4.out HX5.out Hhown1.out HhMF1.out HBF.out (by omega) (by omega) (.inr rfl)).mono ?_
  rintro e w2 ⟨rfl, N2, D2, hN2, hown2, hMF2, hg2⟩
  have hb2 := gbelow Hhb1.out hg2 (by omega)
  have x6 := (HX4.out.grown hg2 (by omega)).one
  have hsz2 := hb2.size
  have Hhb2 := Lib.hid hb2
  have Hhown2 := Lib.hid hown2
  have HhMF2 := Lib.hid hMF2
  clear hb2 hown2 hMF2
  clear hg2 x2 x3 x4 x5
  go_wp2_with (first | (at_range; refine wpList_range_own _ rfl _ 96 rfl 3 3 lawInt Try.underlying96 _ (w.heap.size + 1 + 1) N2 D2 rfl Hhown2.out ?_; intro w3 hrg0 hg0 hs0))
  go_frame
  go_loopw [4, 5, 9] (fun l4 l5 _ wr => ∃ (left : Lit → Bool) (cnt : Nat) (b1 b2 : Bool), l4 = .bool b1 ∧ l5 = .bool b2 ∧ wr.ranges Try.prog 3 (plainElem Try.prog 3) (w.heap.size + 1 + 1) w2.heap.size N2 D2 left cnt ∧ LR (addF (addF (fun _ => 0) 1 s) (-1) t) D2 left b1 b2 ∧ Below w.heap.size w wr) (fun _ _ _ wr => wr.rangeLeft (w.heap.size + 1 + 1) w2.heap.size)
  case atStart => exact ⟨_, _, true, true, rfl, rfl, hrg0, LR.start _ _, Hhb2.out.grown hg0 hsz2 (fun k hk => by cases hk)⟩
  case round =>
    obtain ⟨left, cnt, b1, b2, rfl, rfl, hrg, hLR, hw⟩ := hrel
    clear hrg0 hg0 hs0
    have HLR := Lib.hid hLR
    have hwsz := hw.size
    have HW := Lib.hid hw
    clear hLR hw
    cases b1 <;> cases b2
    all_goals
      go_wp2_with (first | (at_next; refine wpList_next_ranges_ii _ rfl _ rfl 3 3 .i64 .i64 lawInt Try.underlying3 Try.underlying3 (w.heap.size + 1 + 1) w2.heap.size N2 _ _ _ rfl hrg ?_ ?_))
      · intro _ hl0
        obtain ⟨d1, d2⟩ := LR.done HLR.out HhMF2.out hl0
        obtain ⟨e1, e2⟩ := HE.out _ _ d1 d2
        have HE1 := Lib.hid e1
        have HE2 := Lib.hid e2
        clear hl0 d1 d2 e1 e2
        go_wp2_with fail
        go_ret2
        exact ⟨rbool2 HE1.out HE2.out, HW.out⟩
      · intro x c w4 cnt1 hwx hwc hlx hat hrg1 hlt hg1 hs1 hen
        have HS := Lib.hid (LR.step HLR.out HhMF2.out hwx hlx hat)
        have HW4 := Lib.hid (HW.out.grown hg1 hwsz (fun k hk => by cases hk; exact Nat.le_trans hsz2 (Nat.le_refl _)))
        clear hwx hwc hlx hat hg1 hs1
        go_wp2_with fail
        all_goals
          go_roundw
          case rel => exact ⟨_, cnt1, _, _, rfl, rfl, hrg1, by simpa using HS.out, HW4.out⟩
          case measure => rw [hrg1.left_eq, hrg.left_eq]; exact hlt
end Go.Proofs.Ytnokgjajcnhkkaa

/- The walks through the program's order of Knuth and Bendix: a term's weight. -/
namespace Go.Proofs.Ytnokgjajcnhkkaa
open Go.RowKit Go.Sort Go
set_option maxRecDepth 100000 in
theorem weigh_any (o : Od) (t : T) (w : World) (vo v : Value) (hk : o.knows t = true) (ho : IsOd w o vo) (hv : IsT w t v) :
    Calls Try.prog 67 #[vo, v] w fun e w' => e = .returned (.int .i64 (o.weight t)) ∧ Below w.heap.size w w' := by
  obtain ⟨a3, a4, c3, c4, rfl, n1, n2, n3, n4, p1, p2, p3⟩ := ho
  have hv0 := hv
  obtain ⟨_, a1, c1, rfl, _, _, _⟩ := hv.form
  have C := fun W x Bo Bn Bw => weigh1_any o w t _ hv0 hk W x Bo Bn Bw a3 a4 c3 c4
  have HC := Lib.hid C
  have E := Lib.hid (show o.weight t = min (o.raw t) Od.most by rw [Od.weight])
  clear C hk hv hv0
  go_enter Try.func67, Try.ntmps67
  go_wp2_with fail
  refine (HC.out _ 0 _ _ _ ?c1 (by omega) (by omega) (by omega) n3 n4 p2 p3 ?c2 ?c3 ?c4 (by omega) (by omega)).mono ?_
  case c1 => exact bstep (balloc2 _ _ _) (balloc2 _ _ _)
  case c2 => exact (((Box.new _ _ _).alloc _).alloc _).alloc _
  case c3 => exact Box.new' (by simp)
  case c4 => exact (Below.heap_alloc _ _ _ (by simp)).trans (heap_new' (by simp))
  rintro e w' ⟨rfl, hn, hg⟩
  have hc := cell_of_one hn
  have hb := gbelow (bstep (balloc2 w _ _) (balloc2 _ _ _)) hg (by omega)
  have Hhb := Lib.hid hb
  clear hb
  clear hn hg
  go_wp2_with fail
  go_ret
  exact ⟨rint E.out, Hhb.out⟩
end Go.Proofs.Ytnokgjajcnhkkaa

/- The walks through the program's order of Knuth and Bendix: around, turned. -/
namespace Go.Proofs.Ytnokgjajcnhkkaa
open Go.RowKit Go.Sort Go
/-- What is left when symbols all the same are peeled off. -/
def Od.peel (f v : Int) : T → Bool
  | .mk g [a] => if g = f then Od.peel f v a else g == v
  | .mk g _ => g == v
theorem Od.peel_eq (f v : Int) (hne : f ≠ v) : ∀ t, Od.peel f v t = (t.f == v || Od.around f v t)
  | .mk g [a] => by
    rw [Od.peel, Od.around, Od.peel_eq f v hne a]
    by_cases e : g = f
    · subst e; simp [hne]
    · simp [e]
  | .mk g [] => by simp [Od.peel, Od.around]
  | .mk g (a :: b :: r) => by simp [Od.peel, Od.around]
theorem Od.peel_top (v : Int) (t : T) (hne : t.f ≠ v) : Od.peel t.f v t = Od.around t.f v t := by
  rw [Od.peel_eq t.f v hne]; simp [hne]
theorem around_any (v : Int) (t : T) (w : World) (u : Value) (hne : t.f ≠ v) (hu : IsT w t u) :
    Calls Try.prog 68 #[u, .int .i64 v] w fun e w' => e = .returned (.bool (Od.around t.f v t)) ∧ Below w.heap.size w w' := by
  have E := Lib.hid (Od.peel_top v t hne)
  have hu0 := hu
  obtain ⟨hi, a, c, rfl, hc, hm, hl⟩ := hu.form
  have hu0 := Lib.hid hu
  unfold maxLen at hm
  clear hu hl hne
  go_enter Try.func68, Try.ntmps68
  go_wp2_with fail
  go_loopg [] t.size (fun m wr => ∃ (s : T) (a : Option Addr) (c : Nat), s.size ≤ m ∧ Hid (IsT w s (.agg #[.int .i64 s.f, .slice a s.args.length c])) ∧ Hid (Od.peel t.f v t = Od.peel t.f v s) ∧ Below w.heap.size w wr ∧ Blk wr w.heap.size 34 #[.int .i64 s.f, .slice a s.args.length c])
  case atStart => exact ⟨t, a, c, Nat.le_refl _, hu0, rfl, balloc _ _, Blk.new' rfl⟩
  case round =>
    obtain ⟨s, a', c', hsz, hs, hx, hw, hB⟩ := hrel
    have k0 := hB.cell 0
    have k1 := hB.cell 1
    have z0 := hB.frozen 0
    have z1 := hB.frozen 1
    simp only [List.getElem?_toArray, List.getElem?_cons_zero, List.getElem?_cons_succ] at k0 k1
    obtain ⟨g, l⟩ := s
    simp only [T.f_mk, T.args_mk] at *
    by_cases hg : g = t.f
    · rcases l with _ | ⟨x, _ | ⟨y, r⟩⟩
      · have HV := Lib.hid (show (g == v) = Od.around t.f v t by rw [← E.out, hx.out]; simp [Od.peel])
        have hgb : (g == t.f) = true := by simpa using hg
        have Hhw := Lib.hid hw
        have HhB := Lib.hid hB
        clear hw hB
        clear hs hx hg
        go_wp2_with fail
        go_ret
        exact ⟨rbool HV.out.symm, Hhw.out⟩
      · have hgb : (g == t.f) = true := by simpa using hg
        obtain ⟨_, a1, c1, e1, _, _, hl⟩ := hs.out
        simp only [Value.agg.injEq, Array.mk.injEq, List.cons.injEq, and_true, true_and, Value.slice.injEq] at e1
        obtain ⟨rfl, rfl⟩ := e1
        obtain ⟨b, oo, a2, c2, rfl, g1, g2, h3⟩ := hl.at2 hw 0 (by simp)
        have hx2 := Lib.hid (show Od.peel t.f v t = Od.peel t.f v x by rw [hx.out, Od.peel, if_pos hg])
        rw [T.size, T.sizeL, T.sizeL] at hsz
        simp only [List.getElem_cons_zero, Nat.zero_mul, Nat.add_zero, List.length_cons, List.length_nil, Nat.zero_add] at g1 g2 h3 k1 hB
        have hsx : x.size < gk := by omega
        have Hhw := Lib.hid hw
        have HhB := Lib.hid hB
        have Hh3 := Lib.hid h3
        clear hw hB h3
        clear hl hx hs hg hsz
        go_wp2_with fail
        go_roundg (gk - 1)
        case measure => omega
        case rel => exact ⟨x, a2, c2, by omega, Hh3.out, hx2.out, (Hhw.out.setCell (p := ⟨w.heap.size, 0, none⟩) (Nat.le_refl _) _).setCell (p := ⟨w.heap.size, 1, none⟩) (Nat.le_refl _) _, by simpa using (HhB.out.set_ 0 _).set_ 1 _⟩
      · have HV := Lib.hid (show (g == v) = Od.around t.f v t by rw [← E.out, hx.out]; simp [Od.peel])
        have hgb : (g == t.f) = true := by simpa using hg
        have hln : ((((x :: y :: r).length : Nat) : Int) == 1) = false := by simp; omega
        generalize (x :: y :: r).length = n at *
        have Hhw := Lib.hid hw
        have HhB := Lib.hid hB
        clear hw hB
        clear hs hx hg
        go_wp2_with fail
        go_ret
        exact ⟨rbool HV.out.symm, Hhw.out⟩
    · have HV := Lib.hid (show (g == v) = Od.around t.f v t by
        rw [← E.out, hx.out]
        rcases l with _ | ⟨x, _ | ⟨y, r⟩⟩
        · simp [Od.peel]
        · rw [Od.peel, if_neg hg]
        · simp [Od.peel])
      have hgb : (g == t.f) = false := by simpa using hg
      have Hhw := Lib.hid hw
      have HhB := Lib.hid hB
      clear hw hB
      clear hs hx hg
      go_wp2_with fail
      go_ret
      exact ⟨rbool HV.out.symm, Hhw.out⟩
theorem turned_any (r : Int) (w : World) (h0 : 0 ≤ r) (h3 : r ≤ 3) :
    Calls Try.prog 69 #[.int .i64 r] w fun e w' => e = .returned (.int .i64 (Od.turned r)) ∧ Below w.heap.size w w' := by
  have i0 : ∀ w, (Instr.index 102 (.agg #[.int .i64 0, .int .i64 3, .int .i64 2, .int .i64 1]) (.int .i64 0)).run Try.prog w = .ok (.int .i64 0) w := fun _ => by kernel_rfl
  have i1 : ∀ w, (Instr.index 102 (.agg #[.int .i64 0, .int .i64 3, .int .i64 2, .int .i64 1]) (.int .i64 1)).run Try.prog w = .ok (.int .i64 3) w := fun _ => by kernel_rfl
  have i2 : ∀ w, (Instr.index 102 (.agg #[.int .i64 0, .int .i64 3, .int .i64 2, .int .i64 1]) (.int .i64 2)).run Try.prog w = .ok (.int .i64 2) w := fun _ => by kernel_rfl
  have i3 : ∀ w, (Instr.index 102 (.agg #[.int .i64 0, .int .i64 3, .int .i64 2, .int .i64 1]) (.int .i64 3)).run Try.prog w = .ok (.int .i64 1) w := fun _ => by kernel_rfl
  have hr : r = 0 ∨ r = 1 ∨ r = 2 ∨ r = 3 := by omega
  rcases hr with rfl | rfl | rfl | rfl
  all_goals
    go_enter Try.func69, Try.ntmps69
    go_wp2_with fail
    go_ret
    exact ⟨rint (by simp [Od.turned]), Below.refl _ _⟩
end Go.Proofs.Ytnokgjajcnhkkaa

/- The walks through the program's order of Knuth and Bendix: the reason why one term stands above another, and the comparison. -/
namespace Go.Proofs.Ytnokgjajcnhkkaa
open Go.RowKit Go.Sort Go
theorem Od.reasonL_drop (o : Od) (l q : List T) (k : Nat) (h : k < l.length) (h' : k < q.length) : o.reasonL (l.drop k) (q.drop k) = if T.same l[k] q[k] then o.reasonL (l.drop (k + 1)) (q.drop (k + 1)) else o.cmp l[k] q[k] := by
  rw [List.drop_eq_getElem_cons h, List.drop_eq_getElem_cons h', Od.reasonL]
theorem Od.reasonL_long (o : Od) (l q : List T) (h : q.length < l.length) : o.reasonL (l.drop q.length) (q.drop q.length) = 3 := by
  rw [List.drop_eq_getElem_cons h, List.drop_eq_nil_of_le (Nat.le_refl _), Od.reasonL]
theorem Od.reasonL_short (o : Od) (l q : List T) (_h : l.length ≤ q.length) : o.reasonL (l.drop l.length) (q.drop l.length) = 1 := by
  rw [List.drop_eq_nil_of_le (Nat.le_refl _)]
  cases q.drop l.length <;> rfl
theorem Od.reason_eq (o : Od) (f g : Int) (l q : List T) : o.reason (.mk f l) (.mk g q) =
  if o.weight (.mk g q) < o.weight (.mk f l) then 3 else if o.weight (.mk f l) < o.weight (.mk g q) then 1
  else if f < 0 ∧ g < 0 then 0
  else if g < 0 then (if around f g (.mk f l) then 3 else 0)
  else if f < 0 then (if around g f (.mk g q) then 1 else 0)
  else if f ≠ g then (if o.rank g < o.rank f then 3 else if o.rank f < o.rank g then 1 else 0)
  else reasonL o l q := rfl
theorem Od.reason_range (o : Od) (s t : T) : 0 ≤ o.reason s t ∧ o.reason s t ≤ 3 := by
  have hL : ∀ l k, 0 ≤ o.reasonL l k ∧ o.reasonL l k ≤ 3 := by
    intro l
    induction l with
    | nil => intro k; cases k <;> simp [Od.reasonL]
    | cons a r ih =>
      intro k
      cases k with
      | nil => simp [Od.reasonL]
      | cons b k =>
        rw [Od.reasonL]
        split
        · exact ih k
        · rcases o.cmp_range a b with h | h | h | h <;> omega
  have := hL s.args t.args
  unfold Od.reason
  (repeat' split) <;> omega
set_option maxRecDepth 100000 in
set_option maxHeartbeats 1000000 in
theorem reasonV_any (o : Od) (s t : T) (w : World) (vo v u : Value) (ht : t.f < 0) (ks : o.knows s = true) (kt : o.knows t = true) (ho : IsOd w o vo) (hv : IsT w s v) (hu : IsT w t u) :
    Calls Try.prog 61 #[vo, v, u] w fun e w' => e = .returned (.int .i64 (o.reason s t)) ∧ Below w.heap.size w w' := by
  obtain ⟨f, l⟩ := s
  obtain ⟨g, q⟩ := t
  rw [T.f_mk] at ht
  have A := fun w u h => around_any g (.mk f l) w u h
  rw [T.f_mk] at A
  have ho0 := ho
  have hv0 := hv
  have hu0 := hu
  obtain ⟨a3, a4, c3, c4, rfl, n1, n2, n3, n4, p1, p2, _⟩ := ho
  obtain ⟨⟨hf1, hf2⟩, a1, c1, rfl, hc1, hm1, hl⟩ := hv
  obtain ⟨⟨hg1, hg2⟩, a2, c2, rfl, hc2, hm2, hq⟩ := hu
  unfold maxLen at hm1 hm2 n2 n4
  have W1 := fun w vo v => weigh_any o (.mk f l) w vo v ks
  have W2 := fun w vo v => weigh_any o (.mk g q) w vo v kt
  have KS := Od.knows_args ks
  have KT := Od.knows_args kt
  have E := o.reason_eq f g l q
  generalize hca : o.reason (.mk f l) (.mk g q) = ab at E ⊢
  generalize hcw1 : o.weight (.mk f l) = x at *
  generalize hcw2 : o.weight (.mk g q) = y at *
  have HE := Lib.hid E
  have Hho0 := Lib.hid ho0
  have Hhv0 := Lib.hid hv0
  have Hhu0 := Lib.hid hu0
  have HKS := Lib.hid KS
  have HKT := Lib.hid KT
  clear ho0 hv0 hu0 KS KT
  clear E hca hcw1 hcw2 ks kt
  go_enter Try.func61, Try.ntmps61
  go_wp2_with fail
  obtain ⟨B1, B2, B3, hw⟩ := box3 (Below.refl _ (((w.alloc (.cells #[.bool o.lpo, .slice a3 o.prec.length c3, .slice a4 o.weights.length c4, .int .i64 o.var] 24)).alloc (.cells #[.int .i64 f, .slice a1 l.length c1] 34)).alloc (.cells #[.int .i64 g, .slice a2 q.length c2] 34)))
  generalize ((w.alloc (.cells #[.bool o.lpo, .slice a3 o.prec.length c3, .slice a4 o.weights.length c4, .int .i64 o.var] 24)).alloc (.cells #[.int .i64 f, .slice a1 l.length c1] 34)).alloc (.cells #[.int .i64 g, .slice a2 q.length c2] 34) = W0 at B1 B2 B3 hw ⊢
  obtain ⟨u0, u1, u2, u3⟩ := B1.four
  obtain ⟨s0, s1⟩ := B2.two
  obtain ⟨t0, t1⟩ := B3.two
  have r0 := cell_regrown u0
  have r1 := cell_regrown u1
  have r2 := cell_regrown u2
  have r3 := cell_regrown u3
  have r4 := cell_regrown s0
  have r5 := cell_regrown s1
  have r6 := cell_regrown t0
  have r7 := cell_regrown t1
  have Hhw := Lib.hid hw
  have HB1 := Lib.hid B1
  have HB2 := Lib.hid B2
  have HB3 := Lib.hid B3
  clear hw B1 B2 B3
  refine wp_region_quiet_below (by kernel_rfl) (by kernel_rfl) ?_
  repeat (quiet_step (first | exact Calls.regrown_of (W1 _ _ _ (Hho0.out.below (bstep Hhw.out (below_regrown _ _ _))) (Hhv0.out.below (bstep Hhw.out (below_regrown _ _ _)))) | exact Calls.regrown_of (W2 _ _ _ (Hho0.out.below (bstep Hhw.out (below_regrown _ _ _))) (Hhu0.out.below (bstep Hhw.out (below_regrown _ _ _))))))
  refine wpQuiet_nil ?_
  intro _ hw'
  obtain ⟨⟨dq, osq⟩, hw''⟩ := hw'
  subst hw''
  have hbq := below_regrown W0 dq osq
  generalize grow (redrawn W0 dq) osq = wq at hbq ⊢
  clear r0 r1 r2 r3 r4 r5 r6 r7 u0 u1 u2 u3 s0 s1 t0 t1 W1 W2
  have hw1 := bstep Hhw.out hbq
  have C1 := HB1.out.below hbq
  have C2 := HB2.out.below hbq
  have C3 := HB3.out.below hbq
  obtain ⟨u0, u1, u2, u3⟩ := C1.four
  obtain ⟨s0, s1⟩ := C2.two
  obtain ⟨t0, t1⟩ := C3.two
  clear hbq Hhw HB1 HB2 HB3
  have Hhw1 := Lib.hid hw1
  have HC1 := Lib.hid C1
  have HC2 := Lib.hid C2
  have HC3 := Lib.hid C3
  clear hw1 C1 C2 C3
  clear hl hq p1 p2 HKS HKT
  by_cases hyx : y < x
  · have HV := Lib.hid (show ab = 3 by rw [HE.out, if_pos hyx])
    go_wp2_with fail
    go_ret
    exact ⟨rint HV.out, Hhw1.out⟩
  · by_cases hxy : x < y
    · have HV := Lib.hid (show ab = 1 by rw [HE.out, if_neg hyx, if_pos hxy])
      go_wp2_with fail
      go_ret
      exact ⟨rint HV.out, Hhw1.out⟩
    · by_cases hf : f < 0
      · have HV := Lib.hid (show ab = 0 by rw [HE.out, if_neg hyx, if_neg hxy, if_pos ⟨hf, ht⟩])
        go_wp2_with fail
        go_ret
        exact ⟨rint HV.out, Hhw1.out⟩
      · have HV : ab = if Od.around f g (.mk f l) = true then 3 else 0 := by rw [HE.out, if_neg hyx, if_neg hxy, if_neg (by omega), if_pos ht]
        have A := fun w u => A w u (by omega)
        cases har : Od.around f g (.mk f l) with
        | true =>
          rw [har] at A
          have HV := Lib.hid (show ab = 3 by rw [HV, har]; rfl)
          clear har
          go_wp2_with fail
          refine (A _ _ (Hhv0.out.below Hhw1.out)).mono ?_
          rintro e w2 ⟨rfl, hb2⟩
          go_wp2_with fail
          go_ret
          exact ⟨rint HV.out, bstep Hhw1.out hb2⟩
        | false =>
          rw [har] at A
          have HV := Lib.hid (show ab = 0 by rw [HV, har]; rfl)
          clear har
          go_wp2_with fail
          refine (A _ _ (Hhv0.out.below Hhw1.out)).mono ?_
          rintro e w2 ⟨rfl, hb2⟩
          go_wp2_with fail
          go_ret
          exact ⟨rint HV.out, bstep Hhw1.out hb2⟩
/-- The comparison's contract for one pair of terms. -/
def CmpOk (o : Od) (s t : T) : Prop := ∀ (w : World) (vo v u : Value), s.size ≤ 4294967296 → t.size ≤ 4294967296 → o.knows s = true → o.knows t = true → IsOd w o vo → IsT w s v → IsT w t u →
    Calls Try.prog 56 #[vo, v, u] w fun e w' => e = .returned (.int .i64 (o.cmp s t)) ∧ Below w.heap.size w w'
set_option maxRecDepth 100000 in
set_option maxHeartbeats 4000000 in
theorem reason_any (o : Od) (s t : T) (w : World) (vo v u : Value) (zs : s.size ≤ 4294967296) (zt : t.size ≤ 4294967296) (ks : o.knows s = true) (kt : o.knows t = true) (ho : IsOd w o vo) (hv : IsT w s v) (hu : IsT w t u)
    (IHH : Hid (∀ a ∈ s.args, ∀ b, CmpOk o a b)) :
    Calls Try.prog 61 #[vo, v, u] w fun e w' => e = .returned (.int .i64 (o.reason s t)) ∧ Below w.heap.size w w' := by
  by_cases ht : t.f < 0
  · exact reasonV_any o s t w vo v u ht ks kt ho hv hu
  · have RV := fun (hf : s.f < 0) w vo v u => reasonV_any o t s w vo v u hf kt ks
    obtain ⟨f, l⟩ := s
    obtain ⟨g, q⟩ := t
    rw [T.args_mk] at IHH
    rw [T.f_mk] at ht RV
    have RT : f < 0 → ¬ o.weight (.mk g q) < o.weight (.mk f l) → ¬ o.weight (.mk f l) < o.weight (.mk g q) → o.reason (.mk g q) (.mk f l) = if Od.around g f (.mk g q) = true then 3 else 0 := by
      intro h1 h2 h3
      rw [Od.reason_eq, if_neg h3, if_neg h2, if_neg (by omega), if_pos h1]
    have ho0 := ho
    have hv0 := hv
    have hu0 := hu
    obtain ⟨a3, a4, c3, c4, rfl, n1, n2, n3, n4, p1, p2, _⟩ := ho
    obtain ⟨⟨hf1, hf2⟩, a1, c1, rfl, hc1, hm1, hl⟩ := hv
    obtain ⟨⟨hg1, hg2⟩, a2, c2, rfl, hc2, hm2, hq⟩ := hu
    unfold maxLen at hm1 hm2 n2 n4
    have W1 := fun w vo v => weigh_any o (.mk f l) w vo v ks
    have W2 := fun w vo v => weigh_any o (.mk g q) w vo v kt
    have KS := Od.knows_args ks
    have KT := Od.knows_args kt
    have E := o.reason_eq f g l q
    generalize hca : o.reason (.mk f l) (.mk g q) = ab at E ⊢
    generalize hcw1 : o.weight (.mk f l) = x at *
    generalize hcw2 : o.weight (.mk g q) = y at *
    have HE := Lib.hid E
    have Hho0 := Lib.hid ho0
    have Hhv0 := Lib.hid hv0
    have Hhu0 := Lib.hid hu0
    have HKS := Lib.hid KS
    have HKT := Lib.hid KT
    clear ho0 hv0 hu0 KS KT
    clear E hca hcw1 hcw2 ks kt
    go_enter Try.func61, Try.ntmps61
    go_wp2_with fail
    obtain ⟨B1, B2, B3, hw⟩ := box3 (Below.refl _ (((w.alloc (.cells #[.bool o.lpo, .slice a3 o.prec.length c3, .slice a4 o.weights.length c4, .int .i64 o.var] 24)).alloc (.cells #[.int .i64 f, .slice a1 l.length c1] 34)).alloc (.cells #[.int .i64 g, .slice a2 q.length c2] 34)))
    generalize ((w.alloc (.cells #[.bool o.lpo, .slice a3 o.prec.length c3, .slice a4 o.weights.length c4, .int .i64 o.var] 24)).alloc (.cells #[.int .i64 f, .slice a1 l.length c1] 34)).alloc (.cells #[.int .i64 g, .slice a2 q.length c2] 34) = W0 at B1 B2 B3 hw ⊢
    obtain ⟨u0, u1, u2, u3⟩ := B1.four
    obtain ⟨s0, s1⟩ := B2.two
    obtain ⟨t0, t1⟩ := B3.two
    have r0 := cell_regrown u0
    have r1 := cell_regrown u1
    have r2 := cell_regrown u2
    have r3 := cell_regrown u3
    have r4 := cell_regrown s0
    have r5 := cell_regrown s1
    have r6 := cell_regrown t0
    have r7 := cell_regrown t1
    have Hhw := Lib.hid hw
    have HB1 := Lib.hid B1
    have HB2 := Lib.hid B2
    have HB3 := Lib.hid B3
    clear hw B1 B2 B3
    refine wp_region_quiet_below (by kernel_rfl) (by kernel_rfl) ?_
    repeat (quiet_step (first | exact Calls.regrown_of (W1 _ _ _ (Hho0.out.below (bstep Hhw.out (below_regrown _ _ _))) (Hhv0.out.below (bstep Hhw.out (below_regrown _ _ _)))) | exact Calls.regrown_of (W2 _ _ _ (Hho0.out.below (bstep Hhw.out (below_regrown _ _ _))) (Hhu0.out.below (bstep Hhw.out (below_regrown _ _ _))))))
    refine wpQuiet_nil ?_
    intro _ hw'
    obtain ⟨⟨dq, osq⟩, hw''⟩ := hw'
    subst hw''
    have hbq := below_regrown W0 dq osq
    generalize grow (redrawn W0 dq) osq = wq at hbq ⊢
    clear r0 r1 r2 r3 r4 r5 r6 r7 u0 u1 u2 u3 s0 s1 t0 t1 W1 W2
    have hw1 := bstep Hhw.out hbq
    have C1 := HB1.out.below hbq
    have C2 := HB2.out.below hbq
    have C3 := HB3.out.below hbq
    obtain ⟨u0, u1, u2, u3⟩ := C1.four
    obtain ⟨s0, s1⟩ := C2.two
    obtain ⟨t0, t1⟩ := C3.two
    clear hbq Hhw HB1 HB2 HB3
    have Hhw1 := Lib.hid hw1
    have HC1 := Lib.hid C1
    have HC2 := Lib.hid C2
    have HC3 := Lib.hid C3
    clear hw1 C1 C2 C3
    by_cases hyx : y < x
    · have HV := Lib.hid (show ab = 3 by rw [HE.out, if_pos hyx])
      clear RV RT hl hq p1 p2 HKS HKT IHH
      go_wp2_with fail
      go_ret
      exact ⟨rint HV.out, Hhw1.out⟩
    · by_cases hxy : x < y
      · have HV := Lib.hid (show ab = 1 by rw [HE.out, if_neg hyx, if_pos hxy])
        clear RV RT hl hq p1 p2 HKS HKT IHH
        go_wp2_with fail
        go_ret
        exact ⟨rint HV.out, Hhw1.out⟩
      · by_cases hf : f < 0
        · have RT := RT hf (by omega) (by omega)
          have RV := RV hf
          have HV : ab = if Od.around g f (.mk g q) = true then 1 else 0 := by rw [HE.out, if_neg (by omega), if_neg (by omega), if_neg (by omega), if_neg (by omega), if_pos hf]
          clear hl hq p1 p2 HKS HKT IHH
          cases har : Od.around g f (.mk g q) with
          | true =>
            rw [har] at RT HV
            rw [RT] at RV
            have HV := Lib.hid (show ab = Od.turned (if true = true then 3 else 0) by rw [HV]; rfl)
            clear har RT
            go_wp2_with fail
            refine (RV _ _ _ _ (Hho0.out.below Hhw1.out) (Hhu0.out.below Hhw1.out) (Hhv0.out.below Hhw1.out)).mono ?_
            rintro e w2 ⟨rfl, hb2⟩
            go_wp2_with (go_at_call 69; refine (turned_any _ _ (by decide) (by decide)).mono ?_; rintro e w3 ⟨rfl, hb3⟩)
            go_ret
            exact ⟨rint HV.out, bstep (bstep Hhw1.out hb2) hb3⟩
          | false =>
            rw [har] at RT HV
            rw [RT] at RV
            have HV := Lib.hid (show ab = Od.turned (if false = true then 3 else 0) by rw [HV]; rfl)
            clear har RT
            go_wp2_with fail
            refine (RV _ _ _ _ (Hho0.out.below Hhw1.out) (Hhu0.out.below Hhw1.out) (Hhv0.out.below Hhw1.out)).mono ?_
            rintro e w2 ⟨rfl, hb2⟩
            go_wp2_with (go_at_call 69; refine (turned_any _ _ (by decide) (by decide)).mono ?_; rintro e w3 ⟨rfl, hb3⟩)
            go_ret
            exact ⟨rint HV.out, bstep (bstep Hhw1.out hb2) hb3⟩
        · clear RV RT
          obtain ⟨z0, z1, z2, KA⟩ := HKS.out.resolve_left (by omega)
          obtain ⟨y0, y1, y2, KB⟩ := HKT.out.resolve_left (by omega)
          by_cases hfg : f = g
          · have HV := Lib.hid (show ab = o.reasonL l q by rw [HE.out, if_neg (by omega), if_neg (by omega), if_neg (by omega), if_neg (by omega), if_neg (by omega), if_neg (by simpa using hfg)])
            subst hfg
            have HKA := Lib.hid KA
            have HKB := Lib.hid KB
            clear KA KB HKS HKT HE p1 p2 ht
            rcases Nat.lt_or_ge q.length l.length with hql | hql
            · go_wp2_with fail
              clear u0 u1 u2 u3 s0 s1 t0 t1
              go_loopw [89] (fun i wr => ∃ (k : Nat), k ≤ l.length ∧ k ≤ q.length ∧ i = .int .i64 k ∧ Hid (o.reasonL l q = o.reasonL (l.drop k) (q.drop k)) ∧ Below w.heap.size w wr ∧
                Box wr w.heap.size [.bool o.lpo, .slice a3 o.prec.length c3, .slice a4 o.weights.length c4, .int .i64 o.var] ∧ Box wr (w.heap.size + 1) [.int .i64 f, .slice a1 l.length c1] ∧ Box wr (w.heap.size + 2) [.int .i64 f, .slice a2 q.length c2]) (fun i _ => l.length - (intOf i).toNat)
              case atStart => exact ⟨0, Nat.zero_le _, Nat.zero_le _, rfl, rfl, Hhw1.out, HC1.out, HC2.out, HC3.out⟩
              case round =>
                clear Hhw1 HC1 HC2 HC3
                obtain ⟨k, hk, hkq, rfl, hx, hw, hB1, hB2, hB3⟩ := hrel
                obtain ⟨u0, u1, u2, u3⟩ := hB1.four
                obtain ⟨s0, s1⟩ := hB2.two
                obtain ⟨t0, t1⟩ := hB3.two
                by_cases hlt : k < l.length ∧ k < q.length
                · obtain ⟨hlt, hlq⟩ := hlt
                  obtain ⟨b1, o1, a5, c5, rfl, g1, g2, h3⟩ := hl.at_ hw k hlt
                  obtain ⟨b2, o2, a6, c6, rfl, g3, g4, h4⟩ := hq.at_ hw k hlq
                  have hml := List.getElem_mem hlt
                  have hmq := List.getElem_mem hlq
                  have S := fun w v u => same_any l[k] q[k] w v u
                  have IH := fun w vo v u => IHH.out l[k] hml q[k] w vo v u (by have := T.size_le_sizeL hml; rw [T.size] at zs; omega) (by have := T.size_le_sizeL hmq; rw [T.size] at zt; omega) (HKA.out _ hml) (HKB.out _ hmq)
                  have q5 := o.reasonL_drop l q k hlt hlq
                  have k0 : (0 : Int) ≤ (k : Int) := by omega
                  have k1 : (k : Int) < (l.length : Int) := by omega
                  have k2 : (k : Int) < (q.length : Int) := by omega
                  have r0 := cell_regrown u0
                  have r1 := cell_regrown u1
                  have r2 := cell_regrown u2
                  have r3 := cell_regrown u3
                  have r5 := cell_regrown s1
                  have r7 := cell_regrown t1
                  have r8 := cell_regrown g1
                  have r9 := cell_regrown g2
                  have r10 := cell_regrown g3
                  have r11 := cell_regrown g4
                  cases hz : T.same l[k] q[k] with
                  | true =>
                    rw [hz] at S
                    have Hh3 := Lib.hid h3
                    have Hh4 := Lib.hid h4
                    have HhB1 := Lib.hid hB1
                    have HhB2 := Lib.hid hB2
                    have HhB3 := Lib.hid hB3
                    have Hhw := Lib.hid hw
                    have Hq5 := Lib.hid q5
                    have Hhx := Lib.hid hx
                    have Hhz := Lib.hid hz
                    clear h3 h4 hB1 hB2 hB3 hw q5 hx hz
                    clear IHH hl hq IH
                    go_wp2_with fail
                    refine wp_region_quiet_below (by kernel_rfl) (by kernel_rfl) ?_
                    repeat (quiet_step (exact Calls.regrown_of (S _ _ _ (Hh3.out.below (below_regrown _ _ _)) (Hh4.out.below (below_regrown _ _ _)))))
                    refine wpQuiet_nil ?_
                    intro _ hw'
                    obtain ⟨⟨dq, osq⟩, hw''⟩ := hw'
                    subst hw''
                    have hbq := below_regrown wr dq osq
                    generalize grow (redrawn wr dq) osq = wq at hbq ⊢
                    go_wp2_with fail
                    go_roundw
                    case rel => exact ⟨k + 1, by omega, by omega, by go_num, by unfold Hid; rw [Hhx.out, Hq5.out, if_pos Hhz.out], bstep Hhw.out hbq, HhB1.out.below hbq, HhB2.out.below hbq, HhB3.out.below hbq⟩
                    case measure => simp [intOf]; omega
                  | false =>
                    rw [hz] at S
                    have Hh3 := Lib.hid h3
                    have Hh4 := Lib.hid h4
                    have HhB1 := Lib.hid hB1
                    have HhB2 := Lib.hid hB2
                    have HhB3 := Lib.hid hB3
                    have Hhw := Lib.hid hw
                    have Hq5 := Lib.hid q5
                    have Hhx := Lib.hid hx
                    have Hhz := Lib.hid hz
                    clear h3 h4 hB1 hB2 hB3 hw q5 hx hz
                    clear IHH hl hq
                    go_wp2_with fail
                    refine wp_region_quiet_below (by kernel_rfl) (by kernel_rfl) ?_
                    repeat (quiet_step (exact Calls.regrown_of (S _ _ _ (Hh3.out.below (below_regrown _ _ _)) (Hh4.out.below (below_regrown _ _ _)))))
                    refine wpQuiet_nil ?_
                    intro _ hw'
                    obtain ⟨⟨dq, osq⟩, hw''⟩ := hw'
                    subst hw''
                    have hbq := below_regrown wr dq osq
                    generalize grow (redrawn wr dq) osq = wq at hbq ⊢
                    clear r0 r1 r2 r3 r5 r7 r8 r9 r10 r11
                    have r0 := cell_regrown (bkeeps hbq _ _ u0)
                    have r1 := cell_regrown (bkeeps hbq _ _ u1)
                    have r2 := cell_regrown (bkeeps hbq _ _ u2)
                    have r3 := cell_regrown (bkeeps hbq _ _ u3)
                    have r5 := cell_regrown (bkeeps hbq _ _ s1)
                    have r7 := cell_regrown (bkeeps hbq _ _ t1)
                    have r8 := cell_regrown (bkeeps hbq _ _ g1)
                    have r9 := cell_regrown (bkeeps hbq _ _ g2)
                    have r10 := cell_regrown (bkeeps hbq _ _ g3)
                    have r11 := cell_regrown (bkeeps hbq _ _ g4)
                    have hb2 := Lib.hid hbq
                    clear hbq
                    go_wp2_with fail
                    refine wp_region_quiet_below (by kernel_rfl) (by kernel_rfl) ?_
                    repeat (quiet_step (exact Calls.regrown_of (IH _ _ _ _ (Hho0.out.below (bstep (bstep Hhw.out hb2.out) (below_regrown _ _ _))) ((Hh3.out.below hb2.out).below (below_regrown _ _ _)) ((Hh4.out.below hb2.out).below (below_regrown _ _ _)))))
                    refine wpQuiet_nil ?_
                    intro _ hw'
                    obtain ⟨⟨dq, osq⟩, hw''⟩ := hw'
                    subst hw''
                    have hbq := below_regrown wq dq osq
                    generalize grow (redrawn wq dq) osq = wq at hbq ⊢
                    go_wp2_with fail
                    go_ret
                    exact ⟨rint (by rw [HV.out, Hhx.out, Hq5.out, if_neg (by rw [Hhz.out]; simp)]), bstep (bstep Hhw.out hb2.out) hbq⟩
                · obtain rfl : k = q.length := by omega
                  have Q := Lib.hid (o.reasonL_long l q hql)
                  have Hhw := Lib.hid hw
                  have Hhx := Lib.hid hx
                  have Hhlt := Lib.hid hlt
                  clear hw hx hlt
                  clear IHH hl hq
                  go_wp2_with fail
                  go_ret
                  exact ⟨rint (by rw [HV.out, Hhx.out, Q.out]), Hhw.out⟩
            · go_wp2_with fail
              clear u0 u1 u2 u3 s0 s1 t0 t1
              go_loopw [89] (fun i wr => ∃ (k : Nat), k ≤ l.length ∧ k ≤ q.length ∧ i = .int .i64 k ∧ Hid (o.reasonL l q = o.reasonL (l.drop k) (q.drop k)) ∧ Below w.heap.size w wr ∧
                Box wr w.heap.size [.bool o.lpo, .slice a3 o.prec.length c3, .slice a4 o.weights.length c4, .int .i64 o.var] ∧ Box wr (w.heap.size + 1) [.int .i64 f, .slice a1 l.length c1] ∧ Box wr (w.heap.size + 2) [.int .i64 f, .slice a2 q.length c2]) (fun i _ => l.length - (intOf i).toNat)
              case atStart => exact ⟨0, Nat.zero_le _, Nat.zero_le _, rfl, rfl, Hhw1.out, HC1.out, HC2.out, HC3.out⟩
              case round =>
                clear Hhw1 HC1 HC2 HC3
                obtain ⟨k, hk, hkq, rfl, hx, hw, hB1, hB2, hB3⟩ := hrel
                obtain ⟨u0, u1, u2, u3⟩ := hB1.four
                obtain ⟨s0, s1⟩ := hB2.two
                obtain ⟨t0, t1⟩ := hB3.two
                by_cases hlt : k < l.length ∧ k < q.length
                · obtain ⟨hlt, hlq⟩ := hlt
                  obtain ⟨b1, o1, a5, c5, rfl, g1, g2, h3⟩ := hl.at_ hw k hlt
                  obtain ⟨b2, o2, a6, c6, rfl, g3, g4, h4⟩ := hq.at_ hw k hlq
                  have hml := List.getElem_mem hlt
                  have hmq := List.getElem_mem hlq
                  have S := fun w v u => same_any l[k] q[k] w v u
                  have IH := fun w vo v u => IHH.out l[k] hml q[k] w vo v u (by have := T.size_le_sizeL hml; rw [T.size] at zs; omega) (by have := T.size_le_sizeL hmq; rw [T.size] at zt; omega) (HKA.out _ hml) (HKB.out _ hmq)
                  have q5 := o.reasonL_drop l q k hlt hlq
                  have k0 : (0 : Int) ≤ (k : Int) := by omega
                  have k1 : (k : Int) < (l.length : Int) := by omega
                  have k2 : (k : Int) < (q.length : Int) := by omega
                  have r0 := cell_regrown u0
                  have r1 := cell_regrown u1
                  have r2 := cell_regrown u2
                  have r3 := cell_regrown u3
                  have r5 := cell_regrown s1
                  have r7 := cell_regrown t1
                  have r8 := cell_regrown g1
                  have r9 := cell_regrown g2
                  have r10 := cell_regrown g3
                  have r11 := cell_regrown g4
                  cases hz : T.same l[k] q[k] with
                  | true =>
                    rw [hz] at S
                    have Hh3 := Lib.hid h3
                    have Hh4 := Lib.hid h4
                    have HhB1 := Lib.hid hB1
                    have HhB2 := Lib.hid hB2
                    have HhB3 := Lib.hid hB3
                    have Hhw := Lib.hid hw
                    have Hq5 := Lib.hid q5
                    have Hhx := Lib.hid hx
                    have Hhz := Lib.hid hz
                    clear h3 h4 hB1 hB2 hB3 hw q5 hx hz
                    clear IHH hl hq IH
                    go_wp2_with fail
                    refine wp_region_quiet_below (by kernel_rfl) (by kernel_rfl) ?_
                    repeat (quiet_step (exact Calls.regrown_of (S _ _ _ (Hh3.out.below (below_regrown _ _ _)) (Hh4.out.below (below_regrown _ _ _)))))
                    refine wpQuiet_nil ?_
                    intro _ hw'
                    obtain ⟨⟨dq, osq⟩, hw''⟩ := hw'
                    subst hw''
                    have hbq := below_regrown wr dq osq
                    generalize grow (redrawn wr dq) osq = wq at hbq ⊢
                    go_wp2_with fail
                    go_roundw
                    case rel => exact ⟨k + 1, by omega, by omega, by go_num, by unfold Hid; rw [Hhx.out, Hq5.out, if_pos Hhz.out], bstep Hhw.out hbq, HhB1.out.below hbq, HhB2.out.below hbq, HhB3.out.below hbq⟩
                    case measure => simp [intOf]; omega
                  | false =>
                    rw [hz] at S
                    have Hh3 := Lib.hid h3
                    have Hh4 := Lib.hid h4
                    have HhB1 := Lib.hid hB1
                    have HhB2 := Lib.hid hB2
                    have HhB3 := Lib.hid hB3
                    have Hhw := Lib.hid hw
                    have Hq5 := Lib.hid q5
                    have Hhx := Lib.hid hx
                    have Hhz := Lib.hid hz
                    clear h3 h4 hB1 hB2 hB3 hw q5 hx hz
                    clear IHH hl hq
                    go_wp2_with fail
                    refine wp_region_quiet_below (by kernel_rfl) (by kernel_rfl) ?_
                    repeat (quiet_step (exact Calls.regrown_of (S _ _ _ (Hh3.out.below (below_regrown _ _ _)) (Hh4.out.below (below_regrown _ _ _)))))
                    refine wpQuiet_nil ?_
                    intro _ hw'
                    obtain ⟨⟨dq, osq⟩, hw''⟩ := hw'
                    subst hw''
                    have hbq := below_regrown wr dq osq
                    generalize grow (redrawn wr dq) osq = wq at hbq ⊢
                    clear r0 r1 r2 r3 r5 r7 r8 r9 r10 r11
                    have r0 := cell_regrown (bkeeps hbq _ _ u0)
                    have r1 := cell_regrown (bkeeps hbq _ _ u1)
                    have r2 := cell_regrown (bkeeps hbq _ _ u2)
                    have r3 := cell_regrown (bkeeps hbq _ _ u3)
                    have r5 := cell_regrown (bkeeps hbq _ _ s1)
                    have r7 := cell_regrown (bkeeps hbq _ _ t1)
                    have r8 := cell_regrown (bkeeps hbq _ _ g1)
                    have r9 := cell_regrown (bkeeps hbq _ _ g2)
                    have r10 := cell_regrown (bkeeps hbq _ _ g3)
                    have r11 := cell_regrown (bkeeps hbq _ _ g4)
                    have hb2 := Lib.hid hbq
                    clear hbq
                    go_wp2_with fail
                    refine wp_region_quiet_below (by kernel_rfl) (by kernel_rfl) ?_
                    repeat (quiet_step (exact Calls.regrown_of (IH _ _ _ _ (Hho0.out.below (bstep (bstep Hhw.out hb2.out) (below_regrown _ _ _))) ((Hh3.out.below hb2.out).below (below_regrown _ _ _)) ((Hh4.out.below hb2.out).below (below_regrown _ _ _)))))
                    refine wpQuiet_nil ?_
                    intro _ hw'
                    obtain ⟨⟨dq, osq⟩, hw''⟩ := hw'
                    subst hw''
                    have hbq := below_regrown wq dq osq
                    generalize grow (redrawn wq dq) osq = wq at hbq ⊢
                    go_wp2_with fail
                    go_ret
                    exact ⟨rint (by rw [HV.out, Hhx.out, Hq5.out, if_neg (by rw [Hhz.out]; simp)]), bstep (bstep Hhw.out hb2.out) hbq⟩
                · obtain rfl : k = l.length := by omega
                  have Q := Lib.hid (o.reasonL_short l q hql)
                  have Hhw := Lib.hid hw
                  have Hhx := Lib.hid hx
                  have Hhlt := Lib.hid hlt
                  clear hw hx hlt
                  clear IHH hl hq
                  go_wp2_with fail
                  go_ret
                  exact ⟨rint (by rw [HV.out, Hhx.out, Q.out]), Hhw.out⟩
          · have HV : ab = (if o.rank g < o.rank f then 3 else if o.rank f < o.rank g then 1 else 0) := by rw [HE.out, if_neg (by omega), if_neg (by omega), if_neg (by omega), if_neg (by omega), if_neg (by omega), if_pos (by simpa using hfg)]
            have hfgb : (f != g) = true := by simpa using hfg
            obtain ⟨b5, o5, rfl, g5, _⟩ := p1.at_ Hhw1.out f.toNat (by omega)
            obtain ⟨b6, o6, e6, g6, _⟩ := p1.at_ Hhw1.out g.toNat (by omega)
            simp only [Option.some.injEq, Addr.mk.injEq, and_true] at e6
            obtain ⟨rfl, rfl⟩ := e6
            have R1 : o.rank f = o.prec[f.toNat]'(by omega) := by unfold Od.rank; simp [List.getD, show f.toNat < o.prec.length by omega]
            have R2 : o.rank g = o.prec[g.toNat]'(by omega) := by unfold Od.rank; simp [List.getD, show g.toNat < o.prec.length by omega]
            generalize o.prec[f.toNat]'(by omega) = pf at *
            generalize o.prec[g.toNat]'(by omega) = pg at *
            rw [R1, R2] at HV
            have r0 := cell_regrown u1
            have r1 := cell_regrown s0
            have r2 := cell_regrown t0
            have r3 := cell_regrown g5
            have r4 := cell_regrown g6
            clear HKS HKT hl hq p1 p2 hfg HE R1 R2 IHH
            by_cases hp1 : pg < pf
            · have HV := Lib.hid (show ab = 3 by rw [HV, if_pos hp1])
              go_wp2_with fail
              refine wp_region_quiet_below (by kernel_rfl) (by kernel_rfl) ?_
              repeat (quiet_step (fail))
              refine wpQuiet_nil ?_
              intro _ hw'
              obtain ⟨⟨dq, osq⟩, hw''⟩ := hw'
              subst hw''
              have hbq := below_regrown wq dq osq
              generalize grow (redrawn wq dq) osq = wq at hbq ⊢
              go_wp2_with fail
              go_ret
              exact ⟨rint HV.out, bstep Hhw1.out hbq⟩
            · by_cases hp2 : pf < pg
              · have HV := Lib.hid (show ab = 1 by rw [HV, if_neg hp1, if_pos hp2])
                go_wp2_with fail
                refine wp_region_quiet_below (by kernel_rfl) (by kernel_rfl) ?_
                repeat (quiet_step (fail))
                refine wpQuiet_nil ?_
                intro _ hw'
                obtain ⟨⟨dq, osq⟩, hw''⟩ := hw'
                subst hw''
                have hbq := below_regrown wq dq osq
                generalize grow (redrawn wq dq) osq = wq at hbq ⊢
                have hb2 := Lib.hid hbq
                clear r0 r1 r2 r3 r4
                have r0 := cell_regrown (bkeeps hbq _ _ u1)
                have r1 := cell_regrown (bkeeps hbq _ _ s0)
                have r2 := cell_regrown (bkeeps hbq _ _ t0)
                have r3 := cell_regrown (bkeeps hbq _ _ g5)
                have r4 := cell_regrown (bkeeps hbq _ _ g6)
                clear hbq
                go_wp2_with fail
                refine wp_region_quiet_below (by kernel_rfl) (by kernel_rfl) ?_
                repeat (quiet_step (fail))
                refine wpQuiet_nil ?_
                intro _ hw'
                obtain ⟨⟨dq, osq⟩, hw''⟩ := hw'
                subst hw''
                have hbq := below_regrown wq dq osq
                generalize grow (redrawn wq dq) osq = wq at hbq ⊢
                go_wp2_with fail
                go_ret
                exact ⟨rint HV.out, bstep (bstep Hhw1.out hb2.out) hbq⟩
              · have HV := Lib.hid (show ab = 0 by rw [HV, if_neg hp1, if_neg hp2])
                go_wp2_with fail
                refine wp_region_quiet_below (by kernel_rfl) (by kernel_rfl) ?_
                repeat (quiet_step (fail))
                refine wpQuiet_nil ?_
                intro _ hw'
                obtain ⟨⟨dq, osq⟩, hw''⟩ := hw'
                subst hw''
                have hbq := below_regrown wq dq osq
                generalize grow (redrawn wq dq) osq = wq at hbq ⊢
                have hb2 := Lib.hid hbq
                clear r0 r1 r2 r3 r4
                have r0 := cell_regrown (bkeeps hbq _ _ u1)
                have r1 := cell_regrown (bkeeps hbq _ _ s0)
                have r2 := cell_regrown (bkeeps hbq _ _ t0)
                have r3 := cell_regrown (bkeeps hbq _ _ g5)
                have r4 := cell_regrown (bkeeps hbq _ _ g6)
                clear hbq
                go_wp2_with fail
                refine wp_region_quiet_below (by kernel_rfl) (by kernel_rfl) ?_
                repeat (quiet_step (fail))
                refine wpQuiet_nil ?_
                intro _ hw'
                obtain ⟨⟨dq, osq⟩, hw''⟩ := hw'
                subst hw''
                have hbq := below_regrown wq dq osq
                generalize grow (redrawn wq dq) osq = wq at hbq ⊢
                go_wp2_with fail
                go_ret
                exact ⟨rint HV.out, bstep (bstep Hhw1.out hb2.out) hbq⟩
end Go.Proofs.Ytnokgjajcnhkkaa

/- The walks through the program's order of Knuth and Bendix: the exported functions. -/
namespace Go.Proofs.Ytnokgjajcnhkkaa
open Go.RowKit Go.Sort Go
set_option maxRecDepth 100000 in
theorem cmp_ok (o : Od) (s : T) : ∀ t, CmpOk o s t := by
  induction s using T.ind with
  | h f l ih =>
  intro t w vo v u zs zt ks kt ho hv hu
  have R := fun w vo v u h1 h2 h3 => reason_any o (.mk f l) t w vo v u zs zt ks kt h1 h2 h3 (fun a ha b => ih a ha b)
  have SM := fun w v u => same_any (.mk f l) t w v u
  have CT := fun w v u => counts_any o (.mk f l) t w v u zs zt ks kt
  have E := o.cmp_eq (.mk f l) t
  have RR := o.reason_range (.mk f l) t
  clear ih ks kt zs zt
  generalize T.mk f l = s at *
  generalize o.cmp s t = r at *
  generalize hre : o.reason s t = re at *
  clear hre
  obtain ⟨RR1, RR2⟩ := RR
  have ho0 := ho
  have hv0 := hv
  have hu0 := hu
  obtain ⟨a3, a4, c3, c4, rfl, n1, n2, n3, n4, _, _, _⟩ := ho
  obtain ⟨_, a1, c1, rfl, _, _, _⟩ := hv.form
  obtain ⟨_, a2, c2, rfl, _, _, _⟩ := hu.form
  clear hv hu
  cases hsm : T.same s t with
  | true =>
    rw [hsm] at SM E
    have HV := Lib.hid (show r = 2 by rw [E]; rfl)
    have Hho0 := Lib.hid ho0
    have Hhv0 := Lib.hid hv0
    have Hhu0 := Lib.hid hu0
    clear ho0 hv0 hu0
    clear E R CT hsm
    go_enter Try.func56, Try.ntmps56
    go_wp2_with fail
    refine (SM _ _ _ (Hhv0.out.below (bstep (balloc2 _ _ _) (balloc _ _))) (Hhu0.out.below (bstep (balloc2 _ _ _) (balloc _ _)))).mono ?_
    rintro e w1 ⟨rfl, hb1⟩
    go_wp2_with fail
    go_ret
    exact ⟨rint HV.out, bstep (bstep (balloc2 _ _ _) (balloc _ _)) hb1⟩
  | false =>
    rw [hsm] at SM E
    have E2 : r = if re = 3 ∧ Od.covers s t t = true then 3 else if re = 1 ∧ Od.covers t s s = true then 1 else 0 := by rw [E]; rfl
    clear E hsm
    have HE := Lib.hid E2
    clear E2
    have Hho0 := Lib.hid ho0
    have Hhv0 := Lib.hid hv0
    have Hhu0 := Lib.hid hu0
    clear ho0 hv0 hu0
    go_enter Try.func56, Try.ntmps56
    go_wp2_with fail
    refine (SM _ _ _ (Hhv0.out.below (bstep (balloc2 _ _ _) (balloc _ _))) (Hhu0.out.below (bstep (balloc2 _ _ _) (balloc _ _)))).mono ?_
    rintro e w1 ⟨rfl, hb1⟩
    obtain ⟨B1, B2, B3, hw1⟩ := box3 hb1
    clear hb1
    obtain ⟨u0, u1, u2, u3⟩ := B1.four
    obtain ⟨s0, s1⟩ := B2.two
    obtain ⟨t0, t1⟩ := B3.two
    have Hhw1 := Lib.hid hw1
    have HB1 := Lib.hid B1
    have HB2 := Lib.hid B2
    have HB3 := Lib.hid B3
    clear hw1 B1 B2 B3
    go_wp2_with fail
    refine (CT _ _ _ (Hhv0.out.below Hhw1.out) (Hhu0.out.below Hhw1.out)).mono ?_
    rintro e w2 ⟨rfl, hb2⟩
    clear u0 u1 u2 u3 s0 s1 t0 t1
    have hwn := bstep Hhw1.out hb2
    have C1 := HB1.out.below hb2
    have C2 := HB2.out.below hb2
    have C3 := HB3.out.below hb2
    clear hb2 Hhw1 HB1 HB2 HB3
    obtain ⟨u0, u1, u2, u3⟩ := C1.four
    obtain ⟨s0, s1⟩ := C2.two
    obtain ⟨t0, t1⟩ := C3.two
    have hw1 := hwn
    have B1 := C1
    have B2 := C2
    have B3 := C3
    clear hwn C1 C2 C3
    have Hhw1 := Lib.hid hw1
    have HB1 := Lib.hid B1
    have HB2 := Lib.hid B2
    have HB3 := Lib.hid B3
    clear hw1 B1 B2 B3
    go_wp2_with fail
    refine (R _ _ _ _ (Hho0.out.below Hhw1.out) (Hhv0.out.below Hhw1.out) (Hhu0.out.below Hhw1.out)).mono ?_
    rintro e w3 ⟨rfl, hb3⟩
    have hwf := Lib.hid (bstep Hhw1.out hb3)
    clear hb3 R CT SM
    by_cases h3 : re = 3
    · have hb3 : (re == 3) = true := by simpa using h3
      have hb1 : (re == 1) = false := by simp [h3]
      cases hc : Od.covers s t t with
      | true =>
        have HV := Lib.hid (show r = re by rw [HE.out, if_pos ⟨h3, hc⟩, h3])
        clear h3 hc
        go_wp2_with fail
        go_ret
        exact ⟨rint HV.out, hwf.out⟩
      | false =>
        have HV := Lib.hid (show r = 0 by rw [HE.out, if_neg (by rw [hc]; simp), if_neg (by omega)])
        clear h3 hc
        go_wp2_with fail
        go_ret
        exact ⟨rint HV.out, hwf.out⟩
    · have hb3 : (re == 3) = false := by simpa using h3
      by_cases h1 : re = 1
      · have hb1 : (re == 1) = true := by simpa using h1
        cases hc : Od.covers t s s with
        | true =>
          have HV := Lib.hid (show r = re by rw [HE.out, if_neg (by omega), if_pos ⟨h1, hc⟩, h1])
          clear h1 h3 hc
          go_wp2_with fail
          go_ret
          exact ⟨rint HV.out, hwf.out⟩
        | false =>
          have HV := Lib.hid (show r = 0 by rw [HE.out, if_neg (by omega), if_neg (by rw [hc]; simp)])
          clear h1 h3 hc
          go_wp2_with fail
          go_ret
          exact ⟨rint HV.out, hwf.out⟩
      · have hb1 : (re == 1) = false := by simpa using h1
        have HV := Lib.hid (show r = 0 by rw [HE.out, if_neg (by omega), if_neg (by omega)])
        clear h1 h3
        go_wp2_with fail
        go_ret
        exact ⟨rint HV.out, hwf.out⟩
set_option maxRecDepth 100000 in
theorem kCmp_any (o : Od) (s t : T) (w : World) (vo v u : Value) (zs : s.size ≤ 4294967296) (zt : t.size ≤ 4294967296) (ho : IsOd w o vo) (hv : IsT w s v) (hu : IsT w t u) :
    Calls Try.prog 51 #[vo, v, u] w fun e w' => e = .returned (.int .i64 (o.Cmp s t)) ∧ Below w.heap.size w w' := by
  have K1 := fun w vo v => knows_any o s w vo v
  have K2 := fun w vo v => knows_any o t w vo v
  have CC := fun w vo v u => cmp_ok o s t w vo v u zs zt
  have E : o.Cmp s t = if o.knows s && o.knows t then o.cmp s t else 0 := rfl
  have ho0 := ho
  have hv0 := hv
  have hu0 := hu
  obtain ⟨a3, a4, c3, c4, rfl, n1, n2, n3, n4, _, _, _⟩ := ho
  obtain ⟨_, a1, c1, rfl, _, _, _⟩ := hv.form
  obtain ⟨_, a2, c2, rfl, _, _, _⟩ := hu.form
  clear hv hu
  cases k1 : o.knows s with
  | false =>
    rw [k1] at K1 E
    have HE := Lib.hid (show o.Cmp s t = 0 by rw [E]; rfl)
    have Hho0 := Lib.hid ho0
    have Hhv0 := Lib.hid hv0
    have Hhu0 := Lib.hid hu0
    clear ho0 hv0 hu0
    clear E k1 K2 CC
    go_enter Try.func51, Try.ntmps51
    go_wp2_with fail
    refine (K1 _ _ _ (Hho0.out.below (bstep (balloc2 _ _ _) (balloc _ _))) (Hhv0.out.below (bstep (balloc2 _ _ _) (balloc _ _)))).mono ?_
    rintro e w1 ⟨rfl, hb1⟩
    go_wp2_with fail
    go_ret
    exact ⟨rint HE.out, bstep (bstep (balloc2 _ _ _) (balloc _ _)) hb1⟩
  | true =>
    cases k2 : o.knows t with
    | false =>
      rw [k1] at K1
      rw [k1, k2] at E
      rw [k2] at K2
      have HE := Lib.hid (show o.Cmp s t = 0 by rw [E]; rfl)
      have Hho0 := Lib.hid ho0
      have Hhv0 := Lib.hid hv0
      have Hhu0 := Lib.hid hu0
      clear ho0 hv0 hu0
      clear E k1 k2 CC
      go_enter Try.func51, Try.ntmps51
      go_wp2_with fail
      refine (K1 _ _ _ (Hho0.out.below (bstep (balloc2 _ _ _) (balloc _ _))) (Hhv0.out.below (bstep (balloc2 _ _ _) (balloc _ _)))).mono ?_
      rintro e w1 ⟨rfl, hb1⟩
      obtain ⟨B1, B2, B3, hw1⟩ := box3 hb1
      clear hb1
      obtain ⟨u0, u1, u2, u3⟩ := B1.four
      obtain ⟨s0, s1⟩ := B2.two
      obtain ⟨t0, t1⟩ := B3.two
      have Hhw1 := Lib.hid hw1
      have HB1 := Lib.hid B1
      have HB2 := Lib.hid B2
      have HB3 := Lib.hid B3
      clear hw1 B1 B2 B3
      go_wp2_with fail
      refine (K2 _ _ _ (Hho0.out.below Hhw1.out) (Hhu0.out.below Hhw1.out)).mono ?_
      rintro e w2 ⟨rfl, hb2⟩
      go_wp2_with fail
      go_ret
      exact ⟨rint HE.out, bstep Hhw1.out hb2⟩
    | true =>
      have CC := fun w vo v u => CC w vo v u k1 k2
      rw [k1] at K1
      rw [k1, k2] at E
      rw [k2] at K2
      have HE := Lib.hid (show o.Cmp s t = o.cmp s t by rw [E]; rfl)
      have Hho0 := Lib.hid ho0
      have Hhv0 := Lib.hid hv0
      have Hhu0 := Lib.hid hu0
      clear ho0 hv0 hu0
      clear E k1 k2
      go_enter Try.func51, Try.ntmps51
      go_wp2_with fail
      refine (K1 _ _ _ (Hho0.out.below (bstep (balloc2 _ _ _) (balloc _ _))) (Hhv0.out.below (bstep (balloc2 _ _ _) (balloc _ _)))).mono ?_
      rintro e w1 ⟨rfl, hb1⟩
      obtain ⟨B1, B2, B3, hw1⟩ := box3 hb1
      clear hb1
      obtain ⟨u0, u1, u2, u3⟩ := B1.four
      obtain ⟨s0, s1⟩ := B2.two
      obtain ⟨t0, t1⟩ := B3.two
      have Hhw1 := Lib.hid hw1
      have HB1 := Lib.hid B1
      have HB2 := Lib.hid B2
      have HB3 := Lib.hid B3
      clear hw1 B1 B2 B3
      go_wp2_with fail
      refine (K2 _ _ _ (Hho0.out.below Hhw1.out) (Hhu0.out.below Hhw1.out)).mono ?_
      rintro e w2 ⟨rfl, hb2⟩
      clear u0 u1 u2 u3 s0 s1 t0 t1
      have hwn := bstep Hhw1.out hb2
      have C1 := HB1.out.below hb2
      have C2 := HB2.out.below hb2
      have C3 := HB3.out.below hb2
      clear hb2 Hhw1 HB1 HB2 HB3
      obtain ⟨u0, u1, u2, u3⟩ := C1.four
      obtain ⟨s0, s1⟩ := C2.two
      obtain ⟨t0, t1⟩ := C3.two
      have hw1 := hwn
      have B1 := C1
      have B2 := C2
      have B3 := C3
      clear hwn C1 C2 C3
      have Hhw1 := Lib.hid hw1
      have HB1 := Lib.hid B1
      have HB2 := Lib.hid B2
      have HB3 := Lib.hid B3
      clear hw1 B1 B2 B3
      go_wp2_with fail
      refine (CC _ _ _ _ (Hho0.out.below Hhw1.out) (Hhv0.out.below Hhw1.out) (Hhu0.out.below Hhw1.out)).mono ?_
      rintro e w3 ⟨rfl, hb3⟩
      go_wp2_with fail
      go_ret
      exact ⟨rint HE.out, bstep Hhw1.out hb3⟩
end Go.Proofs.Ytnokgjajcnhkkaa

/- The comparison of terms, by either order; whether terms are the same. -/
namespace Go.Proofs.Ytnokgjajcnhkkaa
open Go.RowKit Go
set_option linter.unusedVariables false
set_option linter.unusedSimpArgs false
/-- How two terms stand, by either order. -/
def Od.oc (o : Od) (s t : T) : Int := if o.lpo = true then o.lcmp s t else o.Cmp s t
set_option maxRecDepth 100000 in
theorem ocmp_any (o : Od) (s t : T) (w : World) (vo v u : Value) (h1 : s.size ≤ 4294967296) (h2 : t.size ≤ 4294967296) (ho : IsOd w o vo) (hv : IsT w s v) (hu : IsT w t u) :
  Calls Try.prog 47 #[vo, v, u] w (Ret fun v' w' => v' = .int .i64 (o.oc s t) ∧ Below w.heap.size w w') := by
 have ho0 := ho
 have hv0 := hv
 have hu0 := hu
 obtain ⟨p1, p2, k1, k2, rfl, _⟩ := ho
 obtain ⟨_, a, c, rfl, _, _, _⟩ := hv.form
 obtain ⟨_, a2, c2, rfl, _, _, _⟩ := hu.form
 refine Calls.walk (l := [.agg #[.bool o.lpo, .slice p1 o.prec.length k1, .slice p2 o.weights.length k2, .int .i64 o.var], .agg #[.int .i64 s.f, .slice a s.args.length c], .agg #[.int .i64 t.f, .slice a2 t.args.length c2]]) Try.func47 rfl (by kernel_rfl) ?_
 refine WC.sub (K' := [(0, .agg #[.bool o.lpo, .slice p1 o.prec.length k1, .slice p2 o.weights.length k2, .int .i64 o.var]), (1, .agg #[.int .i64 s.f, .slice a s.args.length c]), (2, .agg #[.int .i64 t.f, .slice a2 t.args.length c2])]) ⟨rfl, rfl, rfl, trivial⟩ ?_
 refine WC.seq (WC.region ?_)
 refine WL.step (post := NewBlk w 24 #[.bool o.lpo, .slice p1 o.prec.length k1, .slice p2 o.weights.length k2, .int .i64 o.var]) rfl rfl rfl (fun za zC zh zk => box_24 rfl (zh.ev rfl) (zk _ _ (newBlk _ _ _))) ?_
 rintro _ w1 ⟨g2, rfl, hg3, hB4, hb5, hz6⟩
 have hl7 : w.heap.size ≤ g2 := by omega
 refine WL.step (post := NewBlk w1 34 #[.int .i64 s.f, .slice a s.args.length c]) rfl rfl rfl (fun za zC zh zk => box_34 rfl (zh.ev rfl) (zk _ _ (newBlk _ _ _))) ?_
 rintro _ w8 ⟨g9, rfl, hg10, hB11, hb12, hz13⟩
 have hl14 : g2 < g9 := by have z1 := hB4.lt; omega
 have hl15 : w.heap.size ≤ g9 := by have z2 := (hb5).size; omega
 refine WL.step (post := NewBlk w8 34 #[.int .i64 t.f, .slice a2 t.args.length c2]) rfl rfl rfl (fun za zC zh zk => box_34 rfl (zh.ev rfl) (zk _ _ (newBlk _ _ _))) ?_
 rintro _ w16 ⟨g17, rfl, hg18, hB19, hb20, hz21⟩
 have hl22 : g2 < g17 := by have z1 := hB4.lt; have z2 := (hb12).size; omega
 have hl23 : g9 < g17 := by have z1 := hB11.lt; omega
 have hb24 : Below w.heap.size w w8 := (bstep hb5 hb12)
 have hl25 : w.heap.size ≤ g17 := by have z2 := (hb24).size; omega
 refine WL.asg rfl rfl rfl rfl rfl (WL.nil (WE.next (WC.seq (WC.seq (WC.region ?_)))))
 refine WL.val _ rfl rfl rfl (fun za zC zh zk => fld_24_0 rfl (zh.ev rfl) zk) ?_
 have hb27 : Below w1.heap.size w1 w16 := (bstep hb12 hb20)
 have hB26 := hB4.below hb27
 refine WL.val _ rfl rfl rfl (fun za zC zh zk => ld_4 rfl (zh.ev rfl) ((hB26.cell 0).trans rfl) zk) ?_
 refine WL.nil (WE.next ?_)
 refine WC.cond rfl (fun h28 => ?_) (fun h28 => ?_)
 ·skip
  refine WC.seq (WC.region ?_)
  refine WL.val _ rfl rfl rfl (fun za zC zh zk => ld_24 rfl (zh.ev rfl) ((hB26.cell 0).trans rfl) ((hB26.cell 1).trans rfl) ((hB26.cell 2).trans rfl) ((hB26.cell 3).trans rfl) zk) ?_
  have hB29 := hB11.below hb20
  refine WL.val _ rfl rfl rfl (fun za zC zh zk => ld_34 rfl (zh.ev rfl) ((hB29.cell 0).trans rfl) ((hB29.cell 1).trans rfl) zk) ?_
  refine WL.val _ rfl rfl rfl (fun za zC zh zk => ld_34 rfl (zh.ev rfl) ((hB19.cell 0).trans rfl) ((hB19.cell 1).trans rfl) zk) ?_
  have hb30 : Below w.heap.size w w16 := (bstep hb5 hb27)
  refine WL.call rfl rfl rfl (fun za zh zC => wp_call (by kernel_rfl) rfl (hv3 (zh.ev rfl) (zh.ev rfl) (zh.ev rfl))) (lcmp_any o s t _ _ _ _ h1 h2 (ho0.below hb30) (hv0.below hb30) (hu0.below hb30)) ?_
  rintro _ w31 ⟨rfl, hbl⟩
  refine WL.asg rfl rfl rfl rfl rfl (WL.nil (WE.next (WC.ret (WE.thenRet (WE.ret1 rfl rfl ?_)))))
  have hb32 : Below w.heap.size w w31 := (bstep hb30 hbl)
  exact ⟨_, rfl, congrArg (Value.int .i64) (by unfold Od.oc; rw [if_pos h28]), hb32⟩
 ·skip
  refine WC.skip (WE.next (WC.seq (WC.region ?_)))
  refine WL.val _ rfl rfl rfl (fun za zC zh zk => ld_24 rfl (zh.ev rfl) ((hB26.cell 0).trans rfl) ((hB26.cell 1).trans rfl) ((hB26.cell 2).trans rfl) ((hB26.cell 3).trans rfl) zk) ?_
  have hB33 := hB11.below hb20
  refine WL.val _ rfl rfl rfl (fun za zC zh zk => ld_34 rfl (zh.ev rfl) ((hB33.cell 0).trans rfl) ((hB33.cell 1).trans rfl) zk) ?_
  refine WL.val _ rfl rfl rfl (fun za zC zh zk => ld_34 rfl (zh.ev rfl) ((hB19.cell 0).trans rfl) ((hB19.cell 1).trans rfl) zk) ?_
  have hb34 : Below w.heap.size w w16 := (bstep hb5 hb27)
  refine WL.call rfl rfl rfl (fun za zh zC => wp_call (by kernel_rfl) rfl (hv3 (zh.ev rfl) (zh.ev rfl) (zh.ev rfl))) (ret_of (kCmp_any o s t _ _ _ _ h1 h2 (ho0.below hb34) (hv0.below hb34) (hu0.below hb34))) ?_
  rintro _ w35 ⟨rfl, hbk⟩
  refine WL.asg rfl rfl rfl rfl rfl (WL.nil (WE.next (WC.ret (WE.ret1 rfl rfl ?_))))
  have hb36 : Below w.heap.size w w35 := (bstep hb34 hbk)
  exact ⟨_, rfl, congrArg (Value.int .i64) (by unfold Od.oc; rw [if_neg (by rw [h28]; exact Bool.false_ne_true)]), hb36⟩
end Go.Proofs.Ytnokgjajcnhkkaa

/- Whether terms are the same; the comparison that knows it. -/
namespace Go.Proofs.Ytnokgjajcnhkkaa
open Go.RowKit Go
set_option linter.unusedVariables false
set_option linter.unusedSimpArgs false
theorem sameL_of {l k : List T} (h : l.length = k.length) (e : ∀ j, j < l.length → T.same (tget l j) (tget k j) = true) : l = k := by
 apply List.ext_getElem h
 intro i h1 h2
 have := (T.same_iff _ _).1 (e i h1)
 rwa [tget_lt h1, tget_lt h2] at this
set_option maxRecDepth 100000 in
theorem osame_any : ∀ (s t : T) (w : World) (v u : Value), IsT w s v → IsT w t u → Calls Try.prog 46 #[v, u] w (Ret fun v' w' => v' = .bool (T.same s t) ∧ Below w.heap.size w w') := by
 refine T.ind (fun f l ih => ?_)
 intro t w v u hv hu
 cases t with
 | mk g k =>
 obtain ⟨_, a, c, rfl, _, hm1, hl⟩ := hv
 obtain ⟨_, a2, c2, rfl, _, hm2, hl2⟩ := hu
 have hml : l.length ≤ 9223372036854775807 := by unfold maxLen at hm1; omega
 refine Calls.walk (l := [.agg #[.int .i64 f, .slice a l.length c], .agg #[.int .i64 g, .slice a2 k.length c2]]) Try.func46 rfl (by kernel_rfl) ?_
 refine WC.sub (K' := [(0, .agg #[.int .i64 f, .slice a l.length c]), (1, .agg #[.int .i64 g, .slice a2 k.length c2])]) ⟨rfl, rfl, trivial⟩ ?_
 refine WC.seq (WC.region ?_)
 refine WL.step (post := NewBlk w 34 #[.int .i64 f, .slice a l.length c]) rfl rfl rfl (fun za zC zh zk => box_34 rfl (zh.ev rfl) (zk _ _ (newBlk _ _ _))) ?_
 rintro _ w1 ⟨g2, rfl, hg3, hB4, hb5, hz6⟩
 have hl7 : w.heap.size ≤ g2 := by omega
 refine WL.step (post := NewBlk w1 34 #[.int .i64 g, .slice a2 k.length c2]) rfl rfl rfl (fun za zC zh zk => box_34 rfl (zh.ev rfl) (zk _ _ (newBlk _ _ _))) ?_
 rintro _ w8 ⟨g9, rfl, hg10, hB11, hb12, hz13⟩
 have hl14 : g2 < g9 := by have z1 := hB4.lt; omega
 have hl15 : w.heap.size ≤ g9 := by have z2 := (hb5).size; omega
 refine WL.asg rfl rfl rfl rfl rfl (WL.nil (WE.next (WC.seq (WC.seq ?_))))
 have hB16 := hB4.below hb12
 refine WC.opt [(true, .val (.pointer (some ⟨g2, 0, none⟩))), (true, .val (.int .i64 f)), (true, .val (.pointer (some ⟨g9, 0, none⟩))), (true, .val (.int .i64 g)), (true, .val (.bool (((f : Int) != (g : Int))))), (true, .val (.bool (((f : Int) != (g : Int))))), ((true && !((f : Int) != (g : Int))), .val (.pointer (some ⟨g2, 1, none⟩))), ((true && !((f : Int) != (g : Int))), .val (.slice a l.length c)), ((true && !((f : Int) != (g : Int))), .val (.int .i64 (((l.length : Nat) : Int)))), ((true && !((f : Int) != (g : Int))), .val (.pointer (some ⟨g9, 1, none⟩))), ((true && !((f : Int) != (g : Int))), .val (.slice a2 k.length c2)), ((true && !((f : Int) != (g : Int))), .val (.int .i64 (((k.length : Nat) : Int)))), ((true && !((f : Int) != (g : Int))), .val (.bool (((((l.length : Nat) : Int) : Int) != (((k.length : Nat) : Int) : Int))))), (true, .val (.bool ((((f : Int) != (g : Int)) || ((((l.length : Nat) : Int) : Int) != (((k.length : Nat) : Int) : Int))))))] [(0, .agg #[.int .i64 f, .slice a l.length c]), (1, .agg #[.int .i64 g, .slice a2 k.length c2]), (2, .pointer (some ⟨g2, 0, none⟩)), (3, .pointer (some ⟨g9, 0, none⟩)), (4, .bool false)] ⟨rfl, rfl, rfl, rfl, rfl, trivial⟩ (by kernel_rfl) (by kernel_rfl) (by kernel_rfl) ?_ ?_
 ·refine ⟨⟨true, .none rfl, fun h w => optUndef h, fun zβ za zw zc => ?_⟩, ?_⟩
  ·exact fld_34_0 rfl (zc.kn.ev rfl) ⟨_, rfl, Below.refl _ _, optDef zβ rfl⟩
  refine ⟨⟨true, .none rfl, fun h w => optUndef h, fun zβ za zw zc => ?_⟩, ?_⟩
  ·exact ld_3 rfl ((evt za 6).trans (optVal (zc.dep 0 6 (by kernel_rfl)) rfl rfl)) (bkeeps zc.below _ _ ((hB16.cell 0).trans rfl)) ⟨_, rfl, Below.refl _ _, optDef zβ rfl⟩
  refine ⟨⟨true, .none rfl, fun h w => optUndef h, fun zβ za zw zc => ?_⟩, ?_⟩
  ·exact fld_34_0 rfl (zc.kn.ev rfl) ⟨_, rfl, Below.refl _ _, optDef zβ rfl⟩
  refine ⟨⟨true, .none rfl, fun h w => optUndef h, fun zβ za zw zc => ?_⟩, ?_⟩
  ·exact ld_3 rfl ((evt za 8).trans (optVal (zc.dep 2 8 (by kernel_rfl)) rfl rfl)) (bkeeps zc.below _ _ ((hB11.cell 0).trans rfl)) ⟨_, rfl, Below.refl _ _, optDef zβ rfl⟩
  refine ⟨⟨true, .none rfl, fun h w => optUndef h, fun zβ za zw zc => ?_⟩, ?_⟩
  ·exact neq_3 rfl ((evt za 7).trans (optVal (zc.dep 1 7 (by kernel_rfl)) rfl rfl)) ((evt za 9).trans (optVal (zc.dep 3 9 (by kernel_rfl)) rfl rfl)) ⟨_, rfl, Below.refl _ _, optDef zβ rfl⟩
  refine ⟨⟨true, .none rfl, fun h w => optUndef h, fun zβ za zw zc => ?_⟩, ?_⟩
  ·exact wp_move rfl ((evt za 10).trans (optVal (zc.dep 4 10 (by kernel_rfl)) rfl rfl)) ⟨_, rfl, Below.refl _ _, optDef zβ rfl⟩
  refine ⟨⟨_, .no (c := ((f : Int) != (g : Int))) (d := true) rfl (fun v w h => h), fun h w => optUndef h, fun zβ za zw zc => ?_⟩, ?_⟩
  ·exact fld_34_1 rfl (zc.kn.ev rfl) ⟨_, rfl, Below.refl _ _, optDef zβ rfl⟩
  refine ⟨⟨_, .no (c := ((f : Int) != (g : Int))) (d := true) rfl (fun v w h => h), fun h w => optUndef h, fun zβ za zw zc => ?_⟩, ?_⟩
  ·exact ld_32 rfl ((evt za 12).trans (optVal (zc.dep 6 12 (by kernel_rfl)) rfl zβ)) (bkeeps zc.below _ _ ((hB16.cell 1).trans rfl)) ⟨_, rfl, Below.refl _ _, optDef zβ rfl⟩
  refine ⟨⟨_, .no (c := ((f : Int) != (g : Int))) (d := true) rfl (fun v w h => h), fun h w => optUndef h, fun zβ za zw zc => ?_⟩, ?_⟩
  ·exact len_32 rfl ((evt za 13).trans (optVal (zc.dep 7 13 (by kernel_rfl)) rfl zβ)) ⟨_, rfl, Below.refl _ _, optDef zβ rfl⟩
  refine ⟨⟨_, .no (c := ((f : Int) != (g : Int))) (d := true) rfl (fun v w h => h), fun h w => optUndef h, fun zβ za zw zc => ?_⟩, ?_⟩
  ·exact fld_34_1 rfl (zc.kn.ev rfl) ⟨_, rfl, Below.refl _ _, optDef zβ rfl⟩
  refine ⟨⟨_, .no (c := ((f : Int) != (g : Int))) (d := true) rfl (fun v w h => h), fun h w => optUndef h, fun zβ za zw zc => ?_⟩, ?_⟩
  ·exact ld_32 rfl ((evt za 15).trans (optVal (zc.dep 9 15 (by kernel_rfl)) rfl zβ)) (bkeeps zc.below _ _ ((hB11.cell 1).trans rfl)) ⟨_, rfl, Below.refl _ _, optDef zβ rfl⟩
  refine ⟨⟨_, .no (c := ((f : Int) != (g : Int))) (d := true) rfl (fun v w h => h), fun h w => optUndef h, fun zβ za zw zc => ?_⟩, ?_⟩
  ·exact len_32 rfl ((evt za 16).trans (optVal (zc.dep 10 16 (by kernel_rfl)) rfl zβ)) ⟨_, rfl, Below.refl _ _, optDef zβ rfl⟩
  refine ⟨⟨_, .no (c := ((f : Int) != (g : Int))) (d := true) rfl (fun v w h => h), fun h w => optUndef h, fun zβ za zw zc => ?_⟩, ?_⟩
  ·exact neq_3 rfl ((evt za 14).trans (optVal (zc.dep 8 14 (by kernel_rfl)) rfl zβ)) ((evt za 17).trans (optVal (zc.dep 11 17 (by kernel_rfl)) rfl zβ)) ⟨_, rfl, Below.refl _ _, optDef zβ rfl⟩
  refine ⟨⟨true, .none rfl, fun h w => optUndef h, fun zβ za zw zc => ?_⟩, ?_⟩
  ·exact wp_or rfl ((evt za 11).trans (optVal (zc.dep 5 11 (by kernel_rfl)) rfl rfl)) (fun hp => ((evt za 18).trans (optVal (zc.dep 12 18 (by kernel_rfl)) rfl (bMkN zβ hp)))) ⟨_, rfl, Below.refl _ _, optDef zβ rfl⟩
  exact trivial
 ·intro za w17 zh hb18 zu
  have zh := zh.cons (d := 19) (v := .bool ((((f : Int) != (g : Int)) || ((((l.length : Nat) : Int) : Int) != (((k.length : Nat) : Int) : Int))))) (optVal (zu 13 19 (by kernel_rfl)) rfl rfl)
  clear zu
  refine WE.go zh ?_
  refine WE.next ?_
  refine WC.cond rfl (fun h19 => ?_) (fun h19 => ?_)
  ·have h19 : ((f : Int) ≠ (g : Int)) ∨ ((((l.length : Nat) : Int) : Int) ≠ (((k.length : Nat) : Int) : Int)) := by simpa using h19
   refine WC.seq (WC.region (WL.asg rfl rfl rfl rfl rfl (WL.nil (WE.next (WC.ret (WE.thenRet (WE.ret1 rfl rfl ?_)))))))
   have hb20 : Below w.heap.size w w17 := (bstep (bstep hb5 hb12) hb18)
   exact ⟨_, rfl, congrArg Value.bool (by symm; rw [Bool.eq_false_iff]; intro e; have z := (T.same_iff _ _).1 e; simp only [T.mk.injEq] at z; obtain ⟨z1, z2⟩ := z; subst z2; omega), hb20⟩
  ·have h19 : ¬ (((f : Int) ≠ (g : Int)) ∨ ((((l.length : Nat) : Int) : Int) ≠ (((k.length : Nat) : Int) : Int))) := by simpa using h19
   have hfg : f = g := by omega
   have hlk : l.length = k.length := by omega
   refine WC.skip (WE.next (WC.seq (WC.seq (WC.region ?_))))
   refine WL.val _ rfl rfl rfl (fun za zC zh zk => fld_34_1 rfl (zh.ev rfl) zk) ?_
   have hB21 := hB16.below hb18
   refine WL.val _ rfl rfl rfl (fun za zC zh zk => ld_32 rfl (zh.ev rfl) ((hB21.cell 1).trans rfl) zk) ?_
   refine WL.val (.int .i64 (((l.length : Nat) : Int))) rfl rfl rfl (fun za zC zh zk => len_32 rfl (zh.ev rfl) zk) ?_
   refine WL.mv rfl rfl rfl rfl rfl (WL.nil (WE.next (WC.block ?_)))
   refine WC.loop (X := Nat) (fun i => l.length - i) (fun i => [(0, .agg #[.int .i64 f, .slice a l.length c]), (1, .agg #[.int .i64 g, .slice a2 k.length c2]), (2, .pointer (some ⟨g2, 0, none⟩)), (3, .pointer (some ⟨g9, 0, none⟩)), (19, .bool ((((f : Int) != (g : Int)) || ((((l.length : Nat) : Int) : Int) != (((k.length : Nat) : Int) : Int))))), (22, .int .i64 (((l.length : Nat) : Int))), (23, .int .i64 (((i : Nat) : Int)))]) (fun i w22 => i ≤ l.length ∧ (∀ j, j < i → T.same (tget l j) (tget k j) = true) ∧ Below w.heap.size w w22 ∧ Blk w22 g2 34 #[.int .i64 f, .slice a l.length c] ∧ Blk w22 g9 34 #[.int .i64 g, .slice a2 k.length c2]) 0 ⟨rfl, rfl, rfl, rfl, rfl, rfl, rfl, trivial⟩ ?_ ?_
   ·have hb23 : Below w.heap.size w w17 := (bstep (bstep hb5 hb12) hb18)
    have hB24 := hB11.below hb18
    exact ⟨Nat.zero_le _, fun j h => absurd h (Nat.not_lt_zero j), hb23, hB21, hB24⟩
   ·rintro i w22 ⟨hi, hE, hb25, hB26, hB27⟩
    refine WC.seq (WC.region ?_)
    refine WL.val (.bool ((decide ((((i : Nat) : Int) : Int) < (((l.length : Nat) : Int) : Int))))) rfl rfl rfl (fun za zC zh zk => lss_3 rfl (zh.ev rfl) (zh.ev rfl) zk) ?_
    refine WL.nil (WE.next (WC.seq ?_))
    refine WC.cond rfl (fun h28 => ?_) (fun h28 => ?_)
    ·have h28 : (((i : Nat) : Int) : Int) < (((l.length : Nat) : Int) : Int) := by simpa using h28
     refine WC.skip (WE.next (WC.seq (WC.block (WC.seq (WC.region (WL.mv rfl rfl rfl rfl rfl (WL.asg rfl rfl rfl rfl rfl (WL.nil (WE.next (WC.seq ?_))))))))))
     obtain ⟨b29, o30, A31, C32, ha33, hc34⟩ := IsTs.open hl
     obtain ⟨b35, o36, A37, C38, ha39, hc40⟩ := IsTs.open hl2
     refine WC.opt [(true, .val (.pointer (some ⟨g2, 1, none⟩))), (true, .val (.slice a l.length c)), (true, .val (.int .i64 (((i : Nat) : Int)))), (true, .val (.pointer (some ⟨b29, o30 + i * 2, none⟩))), (true, .val (.agg #[.int .i64 ((tget l i).f), .slice ((A31 i)) ((tget l i).args.length) ((C32 i))])), (true, .val (.pointer (some ⟨g9, 1, none⟩))), (true, .val (.slice a2 k.length c2)), (true, .val (.int .i64 (((i : Nat) : Int)))), (true, .val (.pointer (some ⟨b35, o36 + i * 2, none⟩))), (true, .val (.agg #[.int .i64 ((tget k i).f), .slice ((A37 i)) ((tget k i).args.length) ((C38 i))])), (true, .val (.bool ((T.same (tget l i) (tget k i))))), (true, .val (.bool ((!(T.same (tget l i) (tget k i))))))] [(0, .agg #[.int .i64 f, .slice a l.length c]), (1, .agg #[.int .i64 g, .slice a2 k.length c2]), (2, .pointer (some ⟨g2, 0, none⟩)), (3, .pointer (some ⟨g9, 0, none⟩)), (5, .int .i64 (((i : Nat) : Int))), (19, .bool ((((f : Int) != (g : Int)) || ((((l.length : Nat) : Int) : Int) != (((k.length : Nat) : Int) : Int))))), (22, .int .i64 (((l.length : Nat) : Int))), (23, .int .i64 (((i : Nat) : Int))), (24, .bool ((decide ((((i : Nat) : Int) : Int) < (((l.length : Nat) : Int) : Int)))))] ⟨rfl, rfl, rfl, rfl, rfl, rfl, rfl, rfl, rfl, trivial⟩ (by kernel_rfl) (by kernel_rfl) (by kernel_rfl) ?_ ?_
     ·refine ⟨⟨true, .none rfl, fun h w => optUndef h, fun zβ za zw zc => ?_⟩, ?_⟩
      ·exact fld_34_1 rfl (zc.kn.ev rfl) ⟨_, rfl, Below.refl _ _, optDef zβ rfl⟩
      refine ⟨⟨true, .none rfl, fun h w => optUndef h, fun zβ za zw zc => ?_⟩, ?_⟩
      ·exact ld_32 rfl ((evt za 26).trans (optVal (zc.dep 0 26 (by kernel_rfl)) rfl rfl)) (bkeeps zc.below _ _ ((hB26.cell 1).trans rfl)) ⟨_, rfl, Below.refl _ _, optDef zβ rfl⟩
      refine ⟨⟨true, .none rfl, fun h w => optUndef h, fun zβ za zw zc => ?_⟩, ?_⟩
      ·exact wp_move rfl (zc.kn.ev rfl) ⟨_, rfl, Below.refl _ _, optDef zβ rfl⟩
      refine ⟨⟨true, .none rfl, fun h w => optUndef h, fun zβ za zw zc => ?_⟩, ?_⟩
      ·exact ix_32 (k := i) rfl ((evt za 27).trans (optVal (zc.dep 1 27 (by kernel_rfl)) rfl rfl)) (ha33 i (by first | omega | (simp; omega))) ((evt za 28).trans (optVal (zc.dep 2 28 (by kernel_rfl)) rfl rfl)) (by first | omega | (simp; omega)) ⟨_, rfl, Below.refl _ _, optDef zβ rfl⟩
      refine ⟨⟨true, .none rfl, fun h w => optUndef h, fun zβ za zw zc => ?_⟩, ?_⟩
      ·exact ld_34 rfl ((evt za 29).trans (optVal (zc.dep 3 29 (by kernel_rfl)) rfl rfl)) (bkeeps (bstep hb25 zc.below) _ _ (hc34 i (by first | omega | (simp; omega))).1) (bkeeps (bstep hb25 zc.below) _ _ (hc34 i (by first | omega | (simp; omega))).2.1) ⟨_, rfl, Below.refl _ _, optDef zβ rfl⟩
      refine ⟨⟨true, .none rfl, fun h w => optUndef h, fun zβ za zw zc => ?_⟩, ?_⟩
      ·exact fld_34_1 rfl (zc.kn.ev rfl) ⟨_, rfl, Below.refl _ _, optDef zβ rfl⟩
      refine ⟨⟨true, .none rfl, fun h w => optUndef h, fun zβ za zw zc => ?_⟩, ?_⟩
      ·exact ld_32 rfl ((evt za 31).trans (optVal (zc.dep 5 31 (by kernel_rfl)) rfl rfl)) (bkeeps zc.below _ _ ((hB27.cell 1).trans rfl)) ⟨_, rfl, Below.refl _ _, optDef zβ rfl⟩
      refine ⟨⟨true, .none rfl, fun h w => optUndef h, fun zβ za zw zc => ?_⟩, ?_⟩
      ·exact wp_move rfl (zc.kn.ev rfl) ⟨_, rfl, Below.refl _ _, optDef zβ rfl⟩
      refine ⟨⟨true, .none rfl, fun h w => optUndef h, fun zβ za zw zc => ?_⟩, ?_⟩
      ·exact ix_32 (k := i) rfl ((evt za 32).trans (optVal (zc.dep 6 32 (by kernel_rfl)) rfl rfl)) (ha39 i (by first | omega | (simp; omega))) ((evt za 33).trans (optVal (zc.dep 7 33 (by kernel_rfl)) rfl rfl)) (by first | omega | (simp; omega)) ⟨_, rfl, Below.refl _ _, optDef zβ rfl⟩
      refine ⟨⟨true, .none rfl, fun h w => optUndef h, fun zβ za zw zc => ?_⟩, ?_⟩
      ·exact ld_34 rfl ((evt za 34).trans (optVal (zc.dep 8 34 (by kernel_rfl)) rfl rfl)) (bkeeps (bstep hb25 zc.below) _ _ (hc40 i (by first | omega | (simp; omega))).1) (bkeeps (bstep hb25 zc.below) _ _ (hc40 i (by first | omega | (simp; omega))).2.1) ⟨_, rfl, Below.refl _ _, optDef zβ rfl⟩
      refine ⟨⟨true, .none rfl, fun h w => optUndef h, fun zβ za zw zc => ?_⟩, ?_⟩
      ·exact wp_call (by kernel_rfl) rfl (hv2 ((evt za 30).trans (optVal (zc.dep 4 30 (by kernel_rfl)) rfl rfl)) ((evt za 35).trans (optVal (zc.dep 9 35 (by kernel_rfl)) rfl rfl))) (ih (tget l i) (tget_mem (by omega)) (tget k i) _ _ _ (IsT.below (bstep hb25 zc.below) (hc34 i (by first | omega | (simp; omega))).2.2) (IsT.below (bstep hb25 zc.below) (hc40 i (by first | omega | (simp; omega))).2.2)) (fun v w' h => ⟨v, rfl, h.2, optDef zβ h.1⟩)
      refine ⟨⟨true, .none rfl, fun h w => optUndef h, fun zβ za zw zc => ?_⟩, ?_⟩
      ·exact wp_not rfl ((evt za 36).trans (optVal (zc.dep 10 36 (by kernel_rfl)) rfl rfl)) ⟨_, rfl, Below.refl _ _, optDef zβ rfl⟩
      exact trivial
     ·intro za w42 zh hb43 zu
      have zh := zh.cons (d := 37) (v := .bool ((!(T.same (tget l i) (tget k i))))) (optVal (zu 11 37 (by kernel_rfl)) rfl rfl)
      clear zu
      refine WE.go zh ?_
      refine WE.next ?_
      refine WC.cond rfl (fun h44 => ?_) (fun h44 => ?_)
      ·have h44 : ¬ ((T.same (tget l i) (tget k i)) = true) := by simpa using h44
       refine WC.seq (WC.region (WL.asg rfl rfl rfl rfl rfl (WL.nil (WE.next (WC.ret (WE.blockRet (WE.thenRet (WE.thenRet (WE.blockRet (WE.thenRet (WE.ret1 rfl rfl ?_)))))))))))
       have hb45 : Below w.heap.size w w42 := (bstep hb25 hb43)
       exact ⟨_, rfl, congrArg Value.bool (by symm; rw [Bool.eq_false_iff]; intro e; have z := (T.same_iff _ _).1 e; simp only [T.mk.injEq] at z; obtain ⟨_, z2⟩ := z; subst z2; have z3 := T.same_refl (tget l i); have z4 := h44; simp [z3] at z4), hb45⟩
      ·have h44 : ¬ (¬ ((T.same (tget l i) (tget k i)) = true)) := by simpa using h44
       refine WC.skip (WE.blockNormal (WE.next (WC.region ?_)))
       refine WL.val (.int .i64 ((((i + 1) : Nat) : Int))) rfl rfl rfl (fun za zC zh zk => addb_3 rfl (zh.ev rfl) (zh.ev rfl) (wrap_eq (by omega) (by omega) (by omega)) zk) ?_
       refine WL.mv rfl rfl rfl rfl rfl (WL.nil ?_)
       refine WE.round (i + 1) ⟨rfl, rfl, rfl, rfl, rfl, rfl, rfl, trivial⟩ ?_ ?_
       ·have hb46 : Below w.heap.size w w42 := (bstep hb25 hb43)
        have hB47 := hB26.below hb43
        have hB48 := hB27.below hb43
        exact ⟨by omega, fun j hj => by
          by_cases e : j = i
          ·rw [e]; simpa using h44
          ·exact hE j (by omega), hb46, hB47, hB48⟩
       ·omega
    ·have h28 : ¬ ((((i : Nat) : Int) : Int) < (((l.length : Nat) : Int) : Int)) := by simpa using h28
     refine WC.exit (WE.thenExit (WE.thenExit (WE.blockIs rfl (WE.next (WC.seq (WC.region (WL.asg rfl rfl rfl rfl rfl (WL.nil (WE.next (WC.ret (WE.ret1 rfl rfl ?_)))))))))))
     exact ⟨_, rfl, congrArg Value.bool ((T.same_iff _ _).2 (by rw [hfg, sameL_of hlk (fun j hj => hE j (by omega))])).symm, hb25⟩
end Go.Proofs.Ytnokgjajcnhkkaa

/- The comparison in which terms are the same only if they are. -/
namespace Go.Proofs.Ytnokgjajcnhkkaa
open Go.RowKit Go
set_option linter.unusedVariables false
set_option linter.unusedSimpArgs false
/-- How two terms stand: the same only if they are. -/
def Od.ok2 (o : Od) (s t : T) : Int := if T.same s t = true then 2 else o.oc s t
set_option maxRecDepth 100000 in
theorem oknows1_any (o : Od) (s t : T) (w : World) (go : Nat) (v u : Value) (p1 p2 : Option Addr) (k1 k2 : Nat) (h1 : s.size ≤ 4294967296) (h2 : t.size ≤ 4294967296) (hB : Blk w go 24 #[.bool o.lpo, .slice p1 o.prec.length k1, .slice p2 o.weights.length k2, .int .i64 o.var]) (ho : IsOd w o (.agg #[.bool o.lpo, .slice p1 o.prec.length k1, .slice p2 o.weights.length k2, .int .i64 o.var])) (hv : IsT w s v) (hu : IsT w t u) :
  Calls Try.prog 45 #[v, u, .pointer (some ⟨go, 0, none⟩)] w (Ret fun v' w' => v' = .int .i64 (o.ok2 s t) ∧ Below w.heap.size w w') := by
 have hv0 := hv
 have hu0 := hu
 obtain ⟨_, a, c, rfl, _, _, _⟩ := hv.form
 obtain ⟨_, a2, c2, rfl, _, _, _⟩ := hu.form
 refine Calls.walk (l := [.agg #[.int .i64 s.f, .slice a s.args.length c], .agg #[.int .i64 t.f, .slice a2 t.args.length c2], .pointer (some ⟨go, 0, none⟩)]) Try.func45 rfl (by kernel_rfl) ?_
 refine WC.sub (K' := [(0, .agg #[.int .i64 s.f, .slice a s.args.length c]), (1, .agg #[.int .i64 t.f, .slice a2 t.args.length c2]), (2, .pointer (some ⟨go, 0, none⟩))]) ⟨rfl, rfl, rfl, trivial⟩ ?_
 refine WC.seq (WC.region ?_)
 refine WL.step (post := NewBlk w 34 #[.int .i64 s.f, .slice a s.args.length c]) rfl rfl rfl (fun za zC zh zk => box_34 rfl (zh.ev rfl) (zk _ _ (newBlk _ _ _))) ?_
 rintro _ w1 ⟨g2, rfl, hg3, hB4, hb5, hz6⟩
 have hl7 : go < g2 := by have z1 := hB.lt; omega
 have hl8 : w.heap.size ≤ g2 := by omega
 refine WL.step (post := NewBlk w1 34 #[.int .i64 t.f, .slice a2 t.args.length c2]) rfl rfl rfl (fun za zC zh zk => box_34 rfl (zh.ev rfl) (zk _ _ (newBlk _ _ _))) ?_
 rintro _ w9 ⟨g10, rfl, hg11, hB12, hb13, hz14⟩
 have hl15 : go < g10 := by have z1 := hB.lt; have z2 := (hb5).size; omega
 have hl16 : g2 < g10 := by have z1 := hB4.lt; omega
 have hl17 : w.heap.size ≤ g10 := by have z2 := (hb5).size; omega
 refine WL.asg rfl rfl rfl rfl rfl (WL.nil (WE.next (WC.seq (WC.seq (WC.region ?_)))))
 have hB18 := hB4.below hb13
 refine WL.val _ rfl rfl rfl (fun za zC zh zk => ld_34 rfl (zh.ev rfl) ((hB18.cell 0).trans rfl) ((hB18.cell 1).trans rfl) zk) ?_
 refine WL.val _ rfl rfl rfl (fun za zC zh zk => ld_34 rfl (zh.ev rfl) ((hB12.cell 0).trans rfl) ((hB12.cell 1).trans rfl) zk) ?_
 have hb19 : Below w.heap.size w w9 := (bstep hb5 hb13)
 refine WL.call rfl rfl rfl (fun za zh zC => wp_call (by kernel_rfl) rfl (hv2 (zh.ev rfl) (zh.ev rfl))) (osame_any s t _ _ _ (hv0.below hb19) (hu0.below hb19)) ?_
 rintro _ w21 ⟨rfl, hq20⟩
 refine WL.nil (WE.next ?_)
 refine WC.cond rfl (fun h22 => ?_) (fun h22 => ?_)
 ·skip
  refine WC.seq (WC.region (WL.asg rfl rfl rfl rfl rfl (WL.nil (WE.next (WC.ret (WE.thenRet (WE.ret1 rfl rfl ?_)))))))
  have hb23 : Below w.heap.size w w21 := (bstep hb19 hq20)
  exact ⟨_, rfl, congrArg (Value.int .i64) (by unfold Od.ok2; rw [if_pos h22]), hb23⟩
 ·skip
  refine WC.skip (WE.next (WC.seq (WC.region ?_)))
  have hb25 : Below w.heap.size w w21 := (bstep hb19 hq20)
  have hB24 := hB.below hb25
  refine WL.val _ rfl rfl rfl (fun za zC zh zk => ld_24 rfl (zh.ev rfl) ((hB24.cell 0).trans rfl) ((hB24.cell 1).trans rfl) ((hB24.cell 2).trans rfl) ((hB24.cell 3).trans rfl) zk) ?_
  have hB26 := hB18.below hq20
  refine WL.val _ rfl rfl rfl (fun za zC zh zk => ld_34 rfl (zh.ev rfl) ((hB26.cell 0).trans rfl) ((hB26.cell 1).trans rfl) zk) ?_
  have hB27 := hB12.below hq20
  refine WL.val _ rfl rfl rfl (fun za zC zh zk => ld_34 rfl (zh.ev rfl) ((hB27.cell 0).trans rfl) ((hB27.cell 1).trans rfl) zk) ?_
  refine WL.call rfl rfl rfl (fun za zh zC => wp_call (by kernel_rfl) rfl (hv3 (zh.ev rfl) (zh.ev rfl) (zh.ev rfl))) (ocmp_any o s t _ _ _ _ h1 h2 (ho.below hb25) (hv0.below hb25) (hu0.below hb25)) ?_
  rintro _ w29 ⟨rfl, hq28⟩
  refine WL.asg rfl rfl rfl rfl rfl (WL.nil (WE.next (WC.ret (WE.ret1 rfl rfl ?_))))
  have hb30 : Below w.heap.size w w29 := (bstep hb25 hq28)
  exact ⟨_, rfl, congrArg (Value.int .i64) (by unfold Od.ok2; rw [if_neg (by rw [h22]; exact Bool.false_ne_true)]), hb30⟩
end Go.Proofs.Ytnokgjajcnhkkaa

/- Rows of pointers to elements: filled place by place, appended to, cut by an append onto a part. -/
namespace Go.Proofs.Ytnokgjajcnhkkaa
open Go.RowKit Go
set_option linter.unusedVariables false
set_option linter.unusedSimpArgs false
section
variable {α : Type} {At : Nat → Nat → α → Prop} {w w' : World} {S S2 : Nat → Prop} {r : Option Addr} {n : Nat} {ms : List α}
/-- A row of pointers that may be read: to elements of the list 'ms'; 'At' tells where elements lie. -/
structure PRow (At : Nat → Nat → α → Prop) (w : World) (S : Nat → Prop) (r : Option Addr) (n : Nat) (ms : List α) : Prop where
  len : n = ms.length
  row : 0 < n → ∃ b p, r = some ⟨b, p, none⟩ ∧ S b ∧ b < w.heap.size ∧ ∀ k (h : k < ms.length), ∃ b' p', w.cell? ⟨b, p + k, none⟩ = some (.pointer (some ⟨b', p', none⟩)) ∧ At b' p' ms[k]
theorem PRow.keep (h : PRow At w S r n ms) (hk : ∀ b o v, S b → b < w.heap.size → w.cell? ⟨b, o, none⟩ = some v → w'.cell? ⟨b, o, none⟩ = some v) (hsz : w.heap.size ≤ w'.heap.size) : PRow At w' S r n ms := by
  refine ⟨h.len, fun h0 => ?_⟩
  obtain ⟨b, p, e, h1, h2, h3⟩ := h.row h0
  refine ⟨b, p, e, h1, by omega, fun k hk' => ?_⟩
  obtain ⟨b', p', h4, h5⟩ := h3 k hk'
  exact ⟨b', p', hk _ _ _ h1 h2 h4, h5⟩
theorem PRow.below (h : PRow At w S r n ms) (hb : Below w.heap.size w w') : PRow At w' S r n ms := h.keep (fun _ _ _ _ _ e => bkeeps hb _ _ e) hb.size
theorem PRow.chg (h : PRow At w S r n ms) (hc : Chg S2 w w') (hS : ∀ b, S b → b < w.heap.size → ¬ S2 b) : PRow At w' S r n ms := h.keep (fun b _ _ hb hlt e => chg_cell hc (hS b hb hlt) e) hc.size
theorem PRow.mono {S' : Nat → Prop} (h : PRow At w S r n ms) (hS : ∀ b, S b → b < w.heap.size → S' b) : PRow At w S' r n ms :=
  ⟨h.len, fun h0 => by obtain ⟨b, p, e, h1, h2, h3⟩ := h.row h0; exact ⟨b, p, e, hS b h1 h2, h2, h3⟩⟩
theorem PRow.open (h : PRow At w S r n ms) (d : α) : ∃ (b p : Nat) (Bf Pf : Nat → Nat), (∀ k, k < n → r = some ⟨b, p, none⟩) ∧ ∀ k, k < n → w.cell? ⟨b, p + k, none⟩ = some (.pointer (some ⟨Bf k, Pf k, none⟩)) ∧ At (Bf k) (Pf k) (ms.getD k d) := by
  rcases Nat.eq_zero_or_pos n with h0 | h0
  · exact ⟨0, 0, fun _ => 0, fun _ => 0, fun k hk => by omega, fun k hk => by omega⟩
  · obtain ⟨b, p, e, h1, h2, h3⟩ := h.row h0
    have key : ∀ k, k < n → ∃ q : Nat × Nat, w.cell? ⟨b, p + k, none⟩ = some (.pointer (some ⟨q.1, q.2, none⟩)) ∧ At q.1 q.2 (ms.getD k d) := fun k hk => by
      have hk' : k < ms.length := by have z := h.len; omega
      obtain ⟨b', p', h4, h5⟩ := h3 k hk'
      exact ⟨(b', p'), h4, by rw [List.getD_eq_getElem?_getD, List.getElem?_eq_getElem hk']; exact h5⟩
    have : Inhabited (Nat × Nat) := ⟨(0, 0)⟩
    obtain ⟨F, hF⟩ := Go.Deep.choose_lt key
    exact ⟨b, p, fun k => (F k).1, fun k => (F k).2, fun _ _ => e, hF⟩
/-- A row of pointers in a block of its own, of 'cap' places. -/
structure LRow (At : Nat → Nat → α → Prop) (w : World) (e : TypeId) (g cap n : Nat) (ms : List α) : Prop where
  ex : ∃ cs, Blk w g e cs ∧ cs.size = cap ∧ ∀ k (h : k < ms.length), ∃ b' p', cs[k]? = some (.pointer (some ⟨b', p', none⟩)) ∧ At b' p' ms[k]
  len : n = ms.length
  le : n ≤ cap
variable {e : TypeId} {g cap : Nat}
theorem LRow.start {cs : Array Value} (h : Blk w g e cs) (hs : cs.size = cap) : LRow At w e g cap 0 [] := ⟨⟨cs, h, hs, fun k hk => by cases hk⟩, rfl, Nat.zero_le _⟩
theorem LRow.lt (h : LRow At w e g cap n ms) : g < w.heap.size := by obtain ⟨cs, h1, _⟩ := h.ex; exact h1.lt
theorem LRow.below (h : LRow At w e g cap n ms) (hb : Below w.heap.size w w') : LRow At w' e g cap n ms := by
  obtain ⟨cs, h1, h2⟩ := h.ex; exact ⟨⟨cs, h1.below hb, h2⟩, h.len, h.le⟩
theorem LRow.chg (h : LRow At w e g cap n ms) (hc : Chg S2 w w') (hg : ¬ S2 g) : LRow At w' e g cap n ms := by
  obtain ⟨cs, h1, h2⟩ := h.ex; exact ⟨⟨cs, chg_blk h1 hc hg, h2⟩, h.len, h.le⟩
theorem LRow.upd {q : Nat} (h : LRow At w e g cap n ms) (hu : Upd q w w') (hq : g ≠ q) : LRow At w' e g cap n ms := by
  obtain ⟨cs, h1, h2⟩ := h.ex; exact ⟨⟨cs, upd_blk h1 hu hq, h2⟩, h.len, h.le⟩
theorem LRow.prow (h : LRow At w e g cap n ms) : PRow At w (fun b => b = g) (some ⟨g, 0, none⟩) n ms := by
  refine ⟨h.len, fun _ => ?_⟩
  obtain ⟨cs, h1, h2, h3⟩ := h.ex
  refine ⟨g, 0, rfl, rfl, h1.lt, fun k hk => ?_⟩
  obtain ⟨b', p', h4, h5⟩ := h3 k hk
  exact ⟨b', p', by rw [Nat.zero_add, h1.cell]; exact h4, h5⟩
theorem snoc_get {ms : List α} {y : α} {k : Nat} (h : k < (ms ++ [y]).length) : (∃ h' : k < ms.length, (ms ++ [y])[k] = ms[k]) ∨ (k = ms.length ∧ (ms ++ [y])[k] = y) := by
  rw [List.length_append, List.length_singleton] at h
  rcases Nat.lt_or_ge k ms.length with hk | hk
  · exact .inl ⟨hk, List.getElem_append_left hk⟩
  · obtain rfl : k = ms.length := by omega
    exact .inr ⟨rfl, by simp⟩
theorem LRow.put {cs cs' : Array Value} {b p : Nat} {y : α} (h1 : Blk w' g e cs') (hs : cs'.size = cap) (h : ∀ k (h : k < ms.length), ∃ b' p', cs[k]? = some (.pointer (some ⟨b', p', none⟩)) ∧ At b' p' ms[k])
    (hold : ∀ k, k < ms.length → cs'[k]? = cs[k]?) (hnew : cs'[ms.length]? = some (.pointer (some ⟨b, p, none⟩))) (hat : At b p y) (hn : n = ms.length) (hlt : n < cap) : LRow At w' e g cap (n + 1) (ms ++ [y]) := by
  refine ⟨⟨cs', h1, hs, fun k hk => ?_⟩, by simp [hn], hlt⟩
  rcases snoc_get hk with ⟨hk', e1⟩ | ⟨rfl, e1⟩
  · obtain ⟨b', p', h4, h5⟩ := h k hk'
    exact ⟨b', p', (hold k hk').trans h4, by rw [e1]; exact h5⟩
  · exact ⟨b, p, hnew, by rw [e1]; exact hat⟩
theorem LRow.store {b p : Nat} {y : α} (h : LRow At w e g cap n ms) (hlt : n < cap) (hat : At b p y) : LRow At (w.setCell ⟨g, n, none⟩ (.pointer (some ⟨b, p, none⟩))) e g cap (n + 1) (ms ++ [y]) := by
  obtain ⟨cs, h1, h2, h3⟩ := h.ex
  have hn := h.len
  refine LRow.put (cs := cs) (h1.set_ n _) (by simpa using h2) h3 (fun k hk => ?_) ?_ hat hn hlt
  · simp only [Array.getElem?_setIfInBounds]; rw [if_neg (by omega)]
  · rw [← hn]; simp only [Array.getElem?_setIfInBounds]; rw [if_pos trivial, if_pos (by omega)]
theorem LRow.storeAt {b p q : Nat} {y : α} (hq : q = n) (h : LRow At w e g cap n ms) (hlt : n < cap) (hat : At b p y) : LRow At (w.setCell ⟨g, q, none⟩ (.pointer (some ⟨b, p, none⟩))) e g cap (n + 1) (ms ++ [y]) := by subst hq; exact h.store hlt hat
theorem take_snoc {l : List α} {k : Nat} {d : α} (h : k < l.length) : l.take k ++ [l.getD k d] = l.take (k + 1) := by
  rw [List.take_succ_eq_append_getElem h, List.getD_eq_getElem?_getD, List.getElem?_eq_getElem h]; rfl
theorem PRow.upd {q : Nat} (h : PRow At w S r n ms) (hu : Upd q w w') (hS : ∀ b, S b → b ≠ q) : PRow At w' S r n ms := h.chg (Chg.ofUpd (S := fun b => b = q) hu rfl) (fun b hb _ e => hS b hb e)
theorem LRow.cells (h : LRow At w e g cap n ms) (hlt : n < cap) : ∃ cs, Blk w g e cs ∧ 0 + n + 0 < cs.size := by
  obtain ⟨cs, h1, h2, _⟩ := h.ex; exact ⟨cs, h1, by omega⟩
end
section
variable {P : Program} {w : World} {a : Act} {K : Act → World → Prop} {Q : Exit → Act → World → Prop} {o : Oper} {α : Type} {At : Nat → Nat → α → Prop} {ms : List α}
theorem wp_mkR {t e : Nat} {x y : Operand} {n c bytes : Nat} {z : Value} (ht : P.underlying t = some (.slice e)) (hinfo : (P.info? e).map (fun i => (i.zero, i.size, i.bytes)) = some (some z, 1, bytes)) (hbytes : bytes ≤ 4096) (ho : o.op = .makeSlice t x y) (hx : a.eval x = .int .i64 (n : Int)) (hy : a.eval y = .int .i64 (c : Int)) (hn : n ≤ c) (hc : c ≤ 4294967296)
    (hK : K (a.put o.dst (.slice (some ⟨w.heap.size, 0, none⟩) n c)) (w.alloc (.cells (madeCells z.cells c) e))) : o.wp P a w K Q := by
  obtain ⟨i, hi, hz0, hz1, hz2⟩ := info_parts hinfo
  have hb : c * bytes ≤ 4294967296 * 4096 := Nat.mul_le_mul hc hbytes
  have hb2 : bytes * c ≤ 4294967296 * 4096 := by rw [Nat.mul_comm]; exact hb
  have hr := run_make (P := P) w t e i z ht hi hz0 .i64 .i64 n c (by omega) (by omega) (by rw [hz2]; (try simp only [Int.toNat_natCast]); omega) (by omega)
  simp only [Int.toNat_natCast, hz1, Nat.mul_one] at hr
  unfold Oper.wp execOp
  simp only [ho, hx, hy, Sem.run_bind, Sem.run_pure, hr, Result.andThen_ok]
  exact hK
theorem made_size (z : Array Value) (n : Nat) : (madeCells z n).size = n := by simp [madeCells]
theorem wp_appL {s x : Operand} {t e : TypeId} {z : Value} {bytes g n cap h c b p : Nat} {y : α} (ht : P.underlying t = some (.slice e)) (hinfo : (P.info? e).map (fun i => (i.zero, i.size, i.bytes)) = some (some z, 1, bytes))
    (ho : o.op = .call { callee := .builtin .append, args := #[s, x], argTypes := #[t, t] }) (hs : a.eval s = .slice (some ⟨g, 0, none⟩) n cap) (hx : a.eval x = .slice (some ⟨h, 0, none⟩) 1 c)
    (hL : LRow At w e g cap n ms) (hlt : n < cap) (hH : Blk w h e #[.pointer (some ⟨b, p, none⟩)]) (hat : At b p y)
    (hK : ∀ w', LRow At w' e g cap (n + 1) (ms ++ [y]) → Upd g w w' → K (a.put o.dst (.slice (some ⟨g, 0, none⟩) (n + 1) cap)) w') : o.wp P a w K Q := by
  obtain ⟨i, hi, hz0, hz1, hz2⟩ := info_parts hinfo
  obtain ⟨cs, h1, h2, h3⟩ := hL.ex
  have hn := hL.len
  have hr := run_append_room (P := P) w t o.type e i ht hi g n cap cs h1 ⟨h, 0, none⟩ 1 c [.pointer (some ⟨b, p, none⟩)] (by rw [hz1]; rfl) (fun j u hj => by
    match j, hj with
    | 0, hj => rw [add_plain2, Nat.zero_add, hH.cell]; simpa using hj) (by simp [Value.oneCell']) (by omega) (by rw [hz1]; simp; omega)
  unfold Oper.wp execOp
  simp only [ho, resolve, invoke, builtin, Sem.run_bind, Sem.run_pure, Result.andThen_ok, List.map_toArray, List.map_cons, List.map_nil, hs, hx, hr]
  refine hK _ (LRow.put (cs := cs) (setRow_heap w g cs _ e _ h1) ?_ h3 (fun k hk => ?_) ?_ hat hn hlt) ⟨rfl, rfl, rfl, by simp, fun k hk => setRow_other w g k _ hk⟩
  · simp [hz1]; omega
  · rw [hz1]; simp only [List.getElem?_toArray, Nat.mul_one]
    rw [List.append_assoc, List.getElem?_append_left (by simp; omega), List.getElem?_take, if_pos (by omega), Array.getElem?_toList]
  · rw [hz1, ← hn]; simp only [List.getElem?_toArray, Nat.mul_one]
    have hl : (cs.toList.take n).length = n := by simp; omega
    rw [List.append_assoc, List.getElem?_append_right (by omega), hl]; simp
theorem wp_appCut {s x : Operand} {t e : TypeId} {z : Value} {bytes j n rc : Nat} {r : Option Addr} {S : Nat → Prop} (ht : P.underlying t = some (.slice e)) (hinfo : (P.info? e).map (fun i => (i.zero, i.size, i.bytes)) = some (some z, 1, bytes)) (hzs : z.cells.size = 1)
    (ho : o.op = .call { callee := .builtin .append, args := #[s, x], argTypes := #[t, t] }) (hs : a.eval s = .slice r j j) (hx : a.eval x = .slice (slA r (j + 1) 1 rc) (n - (j + 1)) (rc - (j + 1)))
    (hR : PRow At w S r n ms) (hj : j < n) (hrc : n ≤ rc) (hb : n * bytes ≤ 140737488355328) (hn : n ≤ 4294967296) (hS : S w.heap.size)
    (hK : ∀ r' c' w', PRow At w' S r' (n - 1) (ms.eraseIdx j) → n - 1 ≤ c' → Below w.heap.size w w' → K (a.put o.dst (.slice r' (n - 1) c')) w') : o.wp P a w K Q := by
  obtain ⟨i, hi, hz0, hz1, hz2⟩ := info_parts hinfo
  have hlen := hR.len
  obtain ⟨b, p, rfl, hSb, hlt, hcells⟩ := hR.row (by omega)
  have key : ∀ k, k < ms.length → ∃ q : Nat × Nat, w.cell? ⟨b, p + k, none⟩ = some (.pointer (some ⟨q.1, q.2, none⟩)) ∧ ∀ h : k < ms.length, At q.1 q.2 ms[k] := fun k hk => by
    obtain ⟨b', p', h4, h5⟩ := hcells k hk; exact ⟨(b', p'), h4, fun _ => h5⟩
  have : Inhabited (Nat × Nat) := ⟨(0, 0)⟩
  obtain ⟨F, hF⟩ := Go.Deep.choose_lt key
  have her : (ms.eraseIdx j).length = n - 1 := by rw [List.length_eraseIdx, if_pos (by omega)]; omega
  have hget : ∀ k (h : k < (ms.eraseIdx j).length), (ms.eraseIdx j)[k] = ms[if k < j then k else k + 1]'(by split <;> omega) := fun k h => by
    rw [List.getElem_eraseIdx]; split <;> rfl
  by_cases hm : n - (j + 1) = 0
  · -- the last one: nothing is copied
    have hnj : n - 1 = j := by omega
    have hr : (Builtin.append_ #[t, t] o.type #[.slice (some ⟨b, p, none⟩) j j, .slice (slA (some ⟨b, p, none⟩) (j + 1) 1 rc) 0 (rc - (j + 1))]).run P w = .ok (.slice (some ⟨b, p, none⟩) j j) w := by
      cases hsl : slA (some (⟨b, p, none⟩ : Addr)) (j + 1) 1 rc with
      | none => simp [Builtin.append_, run_underlying ht, sizeOf, typeInfo, hi, Builtin.lenOf, Builtin.firstCells, storeCells]
      | some ad =>
        have hf := run_firstCells_some (P := P) w i.size 0 ad 0 (rc - (j + 1)) [] (by simp) (by simp)
        simp [Builtin.append_, run_underlying ht, sizeOf, typeInfo, hi, Builtin.lenOf, hf, storeCells]
    unfold Oper.wp execOp
    simp only [ho, resolve, invoke, builtin, Sem.run_bind, Sem.run_pure, Result.andThen_ok, List.map_toArray, List.map_cons, List.map_nil, hs, hx, hm, hr]
    have hK' := hK (some ⟨b, p, none⟩) j w ⟨her.symm, fun _ => ⟨b, p, rfl, hSb, hlt, fun k hk => by
      obtain ⟨b', p', h4, h5⟩ := hcells k (by omega)
      refine ⟨b', p', h4, ?_⟩
      have e1 : (ms.eraseIdx j)[k] = ms[k]'(by omega) := by rw [List.getElem_eraseIdx, dif_pos (by omega)]
      rw [e1]; exact h5⟩⟩ (by omega) (Below.refl _ _)
    rw [hnj] at hK'
    exact hK'
  · -- a new row
    have hne : ¬ rc = j + 1 := by omega
    have hsl : slA (some (⟨b, p, none⟩ : Addr)) (j + 1) 1 rc = some ⟨b, p + (j + 1), none⟩ := by rw [slA_some (by omega), Nat.mul_one]
    have hlo : ((List.range j).map fun k => Value.pointer (some ⟨(F k).1, (F k).2, none⟩)).length = j * i.size := by rw [hz1]; simp
    have hln : ((List.range (n - (j + 1))).map fun k => Value.pointer (some ⟨(F (j + 1 + k)).1, (F (j + 1 + k)).2, none⟩)).length = (n - (j + 1)) * i.size := by rw [hz1]; simp
    have hr := run_append_grow (P := P) w t o.type e i z ht hi hz0 ⟨b, p, none⟩ j j ((List.range j).map fun k => Value.pointer (some ⟨(F k).1, (F k).2, none⟩)) hlo
      (fun k v hv => by
        rw [List.getElem?_map, Option.map_eq_some_iff] at hv
        obtain ⟨q, hq, rfl⟩ := hv
        obtain ⟨hq1, rfl⟩ := List.getElem?_eq_some_iff.1 hq
        simp only [List.length_range] at hq1
        rw [add_plain2, List.getElem_range]; exact (hF k (by omega)).1)
      ⟨b, p + (j + 1), none⟩ (n - (j + 1)) (rc - (j + 1)) ((List.range (n - (j + 1))).map fun k => Value.pointer (some ⟨(F (j + 1 + k)).1, (F (j + 1 + k)).2, none⟩)) hln
      (fun k v hv => by
        rw [List.getElem?_map, Option.map_eq_some_iff] at hv
        obtain ⟨q, hq, rfl⟩ := hv
        obtain ⟨hq1, rfl⟩ := List.getElem?_eq_some_iff.1 hq
        simp only [List.length_range] at hq1
        rw [add_plain2, List.getElem_range, Nat.add_assoc]; exact (hF (j + 1 + k) (by omega)).1)
      (by omega) (by omega) (growslice_fits (by omega) (by rw [hz2]; have : (j + (n - (j + 1))) * bytes ≤ n * bytes := Nat.mul_le_mul_right _ (by omega); omega))
    have e0 : j + (n - (j + 1)) = n - 1 := by omega
    rw [e0] at hr
    unfold Oper.wp execOp
    simp only [ho, resolve, invoke, builtin, Sem.run_bind, Sem.run_pure, Result.andThen_ok, List.map_toArray, List.map_cons, List.map_nil, hs, hx, hsl, hr]
    refine hK _ _ _ ⟨her.symm, fun _ => ⟨w.heap.size, 0, rfl, hS, by simp, fun k hk => ?_⟩⟩ (grownCap_ge _ _ _ _) (bstep (Below.refl _ _).drew (balloc _ _))
    rw [hget k hk]
    have hB : Blk (w.drew.alloc (.cells (((List.range j).map fun k => Value.pointer (some ⟨(F k).1, (F k).2, none⟩)).toArray ++ ((List.range (n - (j + 1))).map fun k => Value.pointer (some ⟨(F (j + 1 + k)).1, (F (j + 1 + k)).2, none⟩)).toArray ++ Builtin.zeroCells z.cells (grownCap w (n - 1) j e - (n - 1))) e)) w.heap.size e _ := Blk.new' rfl
    rw [Nat.zero_add, hB.cell]
    by_cases hkj : k < j
    · refine ⟨(F k).1, (F k).2, ?_, ?_⟩
      · rw [Array.getElem?_append_left (by simp; omega), Array.getElem?_append_left (by simp; omega)]; simp [hkj]
      · simp only [if_pos hkj]; exact (hF k (by omega)).2 _
    · refine ⟨(F (k + 1)).1, (F (k + 1)).2, ?_, ?_⟩
      · rw [Array.getElem?_append_left (by simp; omega), Array.getElem?_append_right (by simp; omega)]
        have e2 : j + 1 + (k - j) = k + 1 := by omega
        simp [show k - j < n - (j + 1) by omega, e2]
      · simp only [if_neg hkj]; exact (hF (k + 1) (by omega)).2 _
end
/-! ### Kinds of elements -/
def AtT (w0 : World) (b p : Nat) (t : T) : Prop := ∃ a c, w0.cell? ⟨b, p, none⟩ = some (.int .i64 t.f) ∧ w0.cell? ⟨b, p + 1, none⟩ = some (.slice a t.args.length c) ∧ IsT w0 t (.agg #[.int .i64 t.f, .slice a t.args.length c])
theorem PRow.openT {w0 w : World} {S : Nat → Prop} {r : Option Addr} {n : Nat} {ms : List T} (h : PRow (AtT w0) w S r n ms) : ∃ (b p : Nat) (Bf Pf : Nat → Nat) (A : Nat → Option Addr) (C : Nat → Nat), (∀ k, k < n → r = some ⟨b, p, none⟩) ∧ ∀ k, k < n → w.cell? ⟨b, p + k, none⟩ = some (.pointer (some ⟨Bf k, Pf k, none⟩)) ∧
    w0.cell? ⟨Bf k, Pf k, none⟩ = some (.int .i64 (tget ms k).f) ∧ w0.cell? ⟨Bf k, Pf k + 1, none⟩ = some (.slice (A k) (tget ms k).args.length (C k)) ∧ IsT w0 (tget ms k) (.agg #[.int .i64 (tget ms k).f, .slice (A k) (tget ms k).args.length (C k)]) := by
  obtain ⟨b, p, Bf, Pf, h1, h2⟩ := h.open (.mk 0 [])
  have key : ∀ k, k < n → ∃ q : Option Addr × Nat, w0.cell? ⟨Bf k, Pf k, none⟩ = some (.int .i64 (tget ms k).f) ∧ w0.cell? ⟨Bf k, Pf k + 1, none⟩ = some (.slice q.1 (tget ms k).args.length q.2) ∧ IsT w0 (tget ms k) (.agg #[.int .i64 (tget ms k).f, .slice q.1 (tget ms k).args.length q.2]) := fun k hk => by
    obtain ⟨a, c, h3, h4, h5⟩ := (h2 k hk).2; exact ⟨(a, c), h3, h4, h5⟩
  have : Inhabited (Option Addr × Nat) := ⟨(none, 0)⟩
  obtain ⟨F, hF⟩ := Go.Deep.choose_lt key
  exact ⟨b, p, Bf, Pf, fun k => (F k).1, fun k => (F k).2, h1, fun k hk => ⟨(h2 k hk).1, hF k hk⟩⟩
def AtR (w0 : World) (b p : Nat) (l : List T) : Prop := ∃ a c, w0.cell? ⟨b, p, none⟩ = some (.slice a l.length c) ∧ IsTs w0 l a 0
def rget (l : List (List T)) (k : Nat) : List T := l.getD k []
theorem PRow.openR {w0 w : World} {S : Nat → Prop} {r : Option Addr} {n : Nat} {ms : List (List T)} (h : PRow (AtR w0) w S r n ms) : ∃ (b p : Nat) (Bf Pf : Nat → Nat) (A : Nat → Option Addr) (C : Nat → Nat), (∀ k, k < n → r = some ⟨b, p, none⟩) ∧ ∀ k, k < n → w.cell? ⟨b, p + k, none⟩ = some (.pointer (some ⟨Bf k, Pf k, none⟩)) ∧
    w0.cell? ⟨Bf k, Pf k, none⟩ = some (.slice (A k) (rget ms k).length (C k)) ∧ IsTs w0 (rget ms k) (A k) 0 := by
  obtain ⟨b, p, Bf, Pf, h1, h2⟩ := h.open []
  have key : ∀ k, k < n → ∃ q : Option Addr × Nat, w0.cell? ⟨Bf k, Pf k, none⟩ = some (.slice q.1 (rget ms k).length q.2) ∧ IsTs w0 (rget ms k) q.1 0 := fun k hk => by
    obtain ⟨a, c, h3, h4⟩ := (h2 k hk).2; exact ⟨(a, c), h3, h4⟩
  have : Inhabited (Option Addr × Nat) := ⟨(none, 0)⟩
  obtain ⟨F, hF⟩ := Go.Deep.choose_lt key
  exact ⟨b, p, Bf, Pf, fun k => (F k).1, fun k => (F k).2, h1, fun k hk => ⟨(h2 k hk).1, hF k hk⟩⟩
end Go.Proofs.Ytnokgjajcnhkkaa

/- A drawn region 'a, b := make(..), make(..)': two new rows, in whatever order. -/
namespace Go.Proofs.Ytnokgjajcnhkkaa
open Go.RowKit Go
set_option linter.unusedVariables false
structure MkS (w0 : World) (n1 c1 t1 : Nat) (z1 : Array Value) (n2 c2 t2 : Nat) (z2 : Array Value) (va vb vp vq : Option Value) (w : World) : Prop where
 below : Below w0.heap.size w0 w
 a : ∀ v, va = some v → ∃ g, v = .slice (some ⟨g, 0, none⟩) n1 c1 ∧ w0.heap.size ≤ g ∧ Blk w g t1 z1
 b : ∀ v, vb = some v → ∃ g, v = .slice (some ⟨g, 0, none⟩) n2 c2 ∧ w0.heap.size ≤ g ∧ Blk w g t2 z2
 ne : ∀ v u, va = some v → vb = some u → v.ownBlock ≠ u.ownBlock
 p : ∀ v, vp = some v → va = some v
 q : ∀ v, vq = some v → vb = some v
def MkG (w0 : World) (n1 c1 t1 : Nat) (z1 : Array Value) (n2 c2 t2 : Nat) (z2 : Array Value) : List (Option Value) → World → Prop
 | [va, vb, vp, vq], w => MkS w0 n1 c1 t1 z1 n2 c2 t2 z2 va vb vp vq w
 | _, _ => False
section
variable {w0 w w' : World} {n1 c1 t1 n2 c2 t2 : Nat} {z1 z2 : Array Value} {va vb vp vq : Option Value}
theorem MkS.makeA (h : MkS w0 n1 c1 t1 z1 n2 c2 t2 z2 none vb vp vq w) : MkS w0 n1 c1 t1 z1 n2 c2 t2 z2 (some (.slice (some ⟨w.heap.size, 0, none⟩) n1 c1)) vb vp vq (w.alloc (.cells z1 t1)) := by
 refine ⟨bstep h.below (balloc _ _), fun v hv => ⟨_, (Option.some.inj hv).symm, h.below.size, Blk.new' rfl⟩, fun v hv => ?_, fun v u hv hu => ?_, fun v hv => (by cases h.p v hv), h.q⟩
 ·obtain ⟨g, h1, h2, h3⟩ := h.b v hv
  exact ⟨g, h1, h2, h3.below (balloc _ _)⟩
 ·obtain ⟨g, rfl, _, h3⟩ := h.b u hu
  obtain rfl := Option.some.inj hv
  have := h3.lt
  simp only [Value.ownBlock, ne_eq, Option.some.injEq]
  omega
theorem MkS.makeB (h : MkS w0 n1 c1 t1 z1 n2 c2 t2 z2 va none vp vq w) : MkS w0 n1 c1 t1 z1 n2 c2 t2 z2 va (some (.slice (some ⟨w.heap.size, 0, none⟩) n2 c2)) vp vq (w.alloc (.cells z2 t2)) := by
 refine ⟨bstep h.below (balloc _ _), fun v hv => ?_, fun v hv => ⟨_, (Option.some.inj hv).symm, h.below.size, Blk.new' rfl⟩, fun v u hv hu => ?_, h.p, fun v hv => (by cases h.q v hv)⟩
 ·obtain ⟨g, h1, h2, h3⟩ := h.a v hv
  exact ⟨g, h1, h2, h3.below (balloc _ _)⟩
 ·obtain ⟨g, rfl, _, h3⟩ := h.a v hv
  obtain rfl := Option.some.inj hu
  have := h3.lt
  simp only [Value.ownBlock, ne_eq, Option.some.injEq]
  omega
end
section
variable {P : Program} {ops : Array Oper}
structure CtxK2 (ops : Array Oper) (l : List (Bool × Value)) (chain : List Nat) (n : Fr) (K : Known) (w0 : World) (o : Oper) (a : Act) (w : World) : Prop where
 below : Below w0.heap.size w0 w
 kn : Kn n K a
 dep : ∀ j d, depB ops o j d = true → chain.contains j = false → valR l j (a.tmps.getD d undef)
def SoundK2 (P : Program) (ops : Array Oper) (Q : Exit → Act → World → Prop) (l : List (Bool × Value)) (n : Fr) (K : Known) (w0 : World) (n1 c1 t1 : Nat) (z1 : Array Value) (n2 c2 t2 : Nat) (z2 : Array Value) (ia ib ip iq : Nat) : Nat → List Oper → Prop
 | _, [] => True
 | i, o :: r => (([ia, ib, ip, iq].contains i = false ∧ o.guard = none ∧
    (∀ a w, CtxK2 ops l [ia, ib, ip, iq] n K w0 o a w → o.wp P a w (fun a' w' => ∃ v, a' = Act.put a o.dst v ∧ w' = w ∧ valR l i v) Q)) ∨
   (i = ia ∧ o.guard = none ∧ ∀ a w, CtxK2 ops l [ia, ib, ip, iq] n K w0 o a w → o.wp P a w (fun a' w' => a' = Act.put a o.dst (.slice (some ⟨w.heap.size, 0, none⟩) n1 c1) ∧ w' = w.alloc (.cells z1 t1)) Q) ∨
   (i = ib ∧ o.guard = none ∧ ∀ a w, CtxK2 ops l [ia, ib, ip, iq] n K w0 o a w → o.wp P a w (fun a' w' => a' = Act.put a o.dst (.slice (some ⟨w.heap.size, 0, none⟩) n2 c2) ∧ w' = w.alloc (.cells z2 t2)) Q) ∨
   (i = ip ∧ o.guard = none ∧ ∃ d, depB ops o ia d = true ∧ o.op = .assign (.tmp d)) ∨
   (i = iq ∧ o.guard = none ∧ ∃ d, depB ops o ib d = true ∧ o.op = .assign (.tmp d))) ∧ SoundK2 P ops Q l n K w0 n1 c1 t1 z1 n2 c2 t2 z2 ia ib ip iq (i + 1) r
theorem SoundK2.gen {Q : Exit → Act → World → Prop} {l : List (Bool × Value)} {n : Fr} {K : Known} {w0 : World} {n1 c1 t1 : Nat} {z1 : Array Value} {n2 c2 t2 : Nat} {z2 : Array Value} {ia ib ip iq : Nat} : ∀ {lo : List Oper} {i : Nat}, SoundK2 P ops Q l n K w0 n1 c1 t1 z1 n2 c2 t2 z2 ia ib ip iq i lo →
  SoundFromG P ops Q [ia, ib, ip, iq] (fun i v _ => valR l i v) (fun _ _ => True) (MkG w0 n1 c1 t1 z1 n2 c2 t2 z2) n K i lo
 | [], _, _ => trivial
 | o :: r, i, ⟨h, hr⟩ => by
  refine ⟨?_, hr.gen⟩
  have mk : ∀ {a : Act} {w : World} {vs : List (Option Value)} (_ : CtxG ops [ia, ib, ip, iq] (fun i v _ => valR l i v) (MkG w0 n1 c1 t1 z1 n2 c2 t2 z2) n K i o a w vs), CtxK2 ops l [ia, ib, ip, iq] n K w0 o a w := by
   intro a w vs C
   match vs, C.len, C.now with
   | [va, vb, vp, vq], _, hG => exact ⟨MkS.below hG, C.kn, C.dep⟩
  rcases h with ⟨h1, h2, h3⟩ | ⟨rfl, h1, h2⟩ | ⟨rfl, h1, h2⟩ | ⟨rfl, h1, dp, h2, h3⟩ | ⟨rfl, h1, dp, h2, h3⟩
  ·refine .inl ⟨h1, true, .none h2, fun g b hb => by (rw [h2] at hb; cases hb), fun e => (by cases e), fun _ a w vs C => ?_⟩
   refine Oper.wpIn_mono ?_ (wpIn_of (h3 a w (mk C)) (by rintro a' w' h; obtain ⟨v, rfl, _⟩ := h; exact put_defers _ _ _))
   rintro a' w' ⟨v, rfl, rfl, hv⟩
   exact ⟨v, rfl, trivial, C.now, hv⟩
  ·refine .inr ⟨0, rfl, h1, fun a w vs C hn => ?_⟩
   refine Oper.wpIn_mono ?_ (wpIn_of (h2 a w (mk C)) (by rintro a' w' h; obtain ⟨rfl, _⟩ := h; exact put_defers _ _ _))
   rintro a' w' ⟨rfl, rfl⟩
   match vs, C.len, hn, C.now with
   | [va, vb, vp, vq], _, hn, hG =>
    simp only [List.getElem?_cons_zero, Option.some.injEq] at hn
    subst hn
    exact ⟨_, rfl, trivial, MkS.makeA hG⟩
  ·refine .inr ⟨1, rfl, h1, fun a w vs C hn => ?_⟩
   refine Oper.wpIn_mono ?_ (wpIn_of (h2 a w (mk C)) (by rintro a' w' h; obtain ⟨rfl, _⟩ := h; exact put_defers _ _ _))
   rintro a' w' ⟨rfl, rfl⟩
   match vs, C.len, hn, C.now with
   | [va, vb, vp, vq], _, hn, hG =>
    simp only [List.getElem?_cons_zero, List.getElem?_cons_succ, Option.some.injEq] at hn
    subst hn
    exact ⟨_, rfl, trivial, MkS.makeB hG⟩
  ·refine .inr ⟨2, rfl, h1, fun a w vs C hn => ?_⟩
   have e0 := C.link 0 ia dp rfl h2
   match vs, C.len, hn, e0, C.now, C with
   | [va, vb, vp, vq], _, hn, e0, hG, C =>
    simp only [List.getElem?_cons_zero, List.getElem?_cons_succ, Option.some.injEq] at hn e0
    subst hn e0
    refine Oper.wpIn_mono ?_ (wpIn_of (wp_assign (K := fun a' w' => a' = Act.put a o.dst (a.tmps.getD dp undef) ∧ w' = w) h3 rfl ⟨rfl, rfl⟩) (by rintro a' w' ⟨rfl, _⟩; exact put_defers _ _ _))
    rintro a' w' ⟨rfl, rfl⟩
    have hG' : MkS w0 n1 c1 t1 z1 n2 c2 t2 z2 (some (a.tmps.getD dp undef)) vb none vq w' := hG
    exact ⟨_, rfl, trivial, show MkS w0 n1 c1 t1 z1 n2 c2 t2 z2 (some (a.tmps.getD dp undef)) vb (some (a.tmps.getD dp undef)) vq w' from ⟨hG'.below, hG'.a, hG'.b, hG'.ne, fun v hv => hv, hG'.q⟩⟩
  ·refine .inr ⟨3, rfl, h1, fun a w vs C hn => ?_⟩
   have e0 := C.link 1 ib dp rfl h2
   match vs, C.len, hn, e0, C.now, C with
   | [va, vb, vp, vq], _, hn, e0, hG, C =>
    simp only [List.getElem?_cons_zero, List.getElem?_cons_succ, Option.some.injEq] at hn e0
    subst hn e0
    refine Oper.wpIn_mono ?_ (wpIn_of (wp_assign (K := fun a' w' => a' = Act.put a o.dst (a.tmps.getD dp undef) ∧ w' = w) h3 rfl ⟨rfl, rfl⟩) (by rintro a' w' ⟨rfl, _⟩; exact put_defers _ _ _))
    rintro a' w' ⟨rfl, rfl⟩
    have hG' : MkS w0 n1 c1 t1 z1 n2 c2 t2 z2 va (some (a.tmps.getD dp undef)) vp none w' := hG
    exact ⟨_, rfl, trivial, show MkS w0 n1 c1 t1 z1 n2 c2 t2 z2 va (some (a.tmps.getD dp undef)) vp (some (a.tmps.getD dp undef)) w' from ⟨hG'.below, hG'.a, hG'.b, hG'.ne, hG'.p, fun v hv => hv⟩⟩
theorem WC.twoMk {id : Nat} {dr : Bool} {Q : Exit → Act → World → Prop} {n : Fr} {K : Known} {w : World} (l : List (Bool × Value)) (K0 : Known) {n1 c1 t1 : Nat} {z1 : Array Value} {n2 c2 t2 : Nat} {z2 : Array Value} (ia ib ip iq dp dq : Nat)
  (hd : ([ia, ib, ip, iq]).Nodup) (hin : (([ia, ib, ip, iq]).all fun c => Nat.blt c ops.size) = true) (hdp : (ops[ip]?).bind (·.dst) = some dp) (hdq : (ops[iq]?).bind (·.dst) = some dq)
  (hs : subK K0 K) (hclear : clearB ops K0 = true) (hm : P.follows .mixedOrders = true) (hB : opsB ops n.n = true)
  (h : SoundK2 P ops Q l n K0 w n1 c1 t1 z1 n2 c2 t2 z2 ia ib ip iq 0 ops.toList)
  (hQ : ∀ (a : Act) (w' : World) (g1 g2 : Nat), Kn n K0 a → Below w.heap.size w w' → w.heap.size ≤ g1 → w.heap.size ≤ g2 → g1 ≠ g2 → Blk w' g1 t1 z1 → Blk w' g2 t2 z2 → a.tmps.getD dp undef = .slice (some ⟨g1, 0, none⟩) n1 c1 → a.tmps.getD dq undef = .slice (some ⟨g2, 0, none⟩) n2 c2 → (∀ i d, (ops[i]?).bind (·.dst) = some d → ([ia, ib, ip, iq]).contains i = false → valR l i (a.tmps.getD d undef)) → Q .normal a w') :
  WC P n K w (.region id ops dr) Q := by
 refine WC.gen [ia, ib, ip, iq] (fun i v _ => valR l i v) (fun _ _ => True) (MkG w n1 c1 t1 z1 n2 c2 t2 z2) K0 hs hclear hm hB hd hin (fun _ _ _ _ h _ => h) ?_ h.gen (fun a w' vs hk hlen hall hG hu hl => ?_)
 ·have st : ∀ w' : World, Below w.heap.size w w' → MkS w n1 c1 t1 z1 n2 c2 t2 z2 none none none none w' := fun w' hb => ⟨hb, fun v hv => (by cases hv), fun v hv => (by cases hv), fun v u hv => (by cases hv), fun v hv => (by cases hv), fun v hv => (by cases hv)⟩
  cases dr with
  | true => exact st _ (Below.refl _ _).drew
  | false => exact st _ (Below.refl _ _)
 ·obtain ⟨v0, hv0⟩ := hall 0 (by simp)
  obtain ⟨v1, hv1⟩ := hall 1 (by simp)
  obtain ⟨v2, hv2⟩ := hall 2 (by simp)
  obtain ⟨v3, hv3⟩ := hall 3 (by simp)
  have ha := hl 2 ip dp rfl hdp
  have hb := hl 3 iq dq rfl hdq
  match vs, hlen, hv0, hv1, hv2, hv3, hG, ha, hb with
  | [va, vb, vp, vq], _, hv0, hv1, hv2, hv3, hG, ha, hb =>
   simp only [List.getElem?_cons_zero, List.getElem?_cons_succ, Option.some.injEq] at hv0 hv1 hv2 hv3 ha hb
   subst hv0 hv1 ha hb
   have hG' : MkS w n1 c1 t1 z1 n2 c2 t2 z2 (some v0) (some v1) (some (a.tmps.getD dp undef)) (some (a.tmps.getD dq undef)) w' := hG
   obtain rfl := Option.some.inj (hG'.p _ rfl)
   obtain rfl := Option.some.inj (hG'.q _ rfl)
   obtain ⟨g1, e1, h1, h2⟩ := hG'.a _ rfl
   obtain ⟨g2, e2, h3, h4⟩ := hG'.b _ rfl
   have hne := hG'.ne _ _ rfl rfl
   rw [e1, e2] at hne
   simp only [Value.ownBlock, ne_eq, Option.some.injEq] at hne
   exact hQ a w' g1 g2 hk hG'.below h1 h3 hne h2 h4 e1 e2 hu
end
end Go.Proofs.Ytnokgjajcnhkkaa

/- Multisets by a comparison of their members: plain. -/
namespace Go.Proofs.Ytnokgjajcnhkkaa
section
variable {α : Type} (c : α → α → Int)
/-- Strike the first that is the same as 'x'. -/
def strikeR (x : α) : List α → Option (List α)
  | [] => none
  | y :: r => if c x y = 2 then some r else (strikeR x r).map (y :: ·)
/-- What is left on both sides, when the same ones are struck pair by pair. -/
def multiLR : List α → List α → List α × List α
  | [], r => ([], r)
  | x :: l, r => match strikeR c x r with
    | some r' => multiLR l r'
    | none => (x :: (multiLR l r).1, (multiLR l r).2)
/-- For each of 'y' one of 'x' is above it. -/
def allAb (x y : List α) : Bool := y.all fun q => x.any fun p => c p q == 3
def multiP (a b : List α) : Int :=
  if (multiLR c a b).1.isEmpty && (multiLR c a b).2.isEmpty then 2 else if allAb c (multiLR c a b).1 (multiLR c a b).2 then 3 else if allAb c (multiLR c a b).2 (multiLR c a b).1 then 1 else 0
end
theorem strikeR_none {α : Type} {c : α → α → Int} {x : α} : ∀ {r : List α}, strikeR c x r = none ↔ ∀ y ∈ r, c x y ≠ 2
  | [] => by simp [strikeR]
  | y :: r => by
    rw [strikeR]
    by_cases h : c x y = 2
    · simp [h]
    · rw [if_neg h, Option.map_eq_none_iff, strikeR_none]; simp [h]
theorem multiP_eq {α : Type} {c : α → α → Int} {a b L R : List α} (h : multiLR c a b = (L, R)) : multiP c a b = if L.isEmpty && R.isEmpty then 2 else if allAb c L R then 3 else if allAb c R L then 1 else 0 := by unfold multiP; rw [h]
theorem strikeR_at {α : Type} {c : α → α → Int} {x : α} : ∀ {r : List α} {j : Nat} (hj : j < r.length), c x r[j] = 2 → (∀ i (hi : i < j), ¬ c x (r[i]'(by omega)) = 2) → strikeR c x r = some (r.eraseIdx j)
  | y :: r, 0, _, h, _ => by rw [strikeR, if_pos (show c x y = 2 from h)]; rfl
  | y :: r, j + 1, hj, h, hn => by
    rw [strikeR, if_neg (show ¬ c x y = 2 from hn 0 (by omega)), strikeR_at (j := j) (by simpa using hj) h (fun i hi => hn (i + 1) (by omega))]; rfl
theorem multiLR_strike {α : Type} {c : α → α → Int} {d : α} {a R : List α} {i j : Nat} (hi : i < a.length) (hj : j < R.length) (h : c (a.getD i d) (R.getD j d) = 2) (hn : ∀ q, q < j → ¬ c (a.getD i d) (R.getD q d) = 2) : multiLR c (a.drop i) R = multiLR c (a.drop (i + 1)) (R.eraseIdx j) := by
  have gd : ∀ (l : List α) (k : Nat) (hk : k < l.length), l.getD k d = l[k] := fun l k hk => by rw [List.getD_eq_getElem?_getD, List.getElem?_eq_getElem hk]; rfl
  rw [gd a i hi, gd R j hj] at h
  rw [List.drop_eq_getElem_cons hi, multiLR, strikeR_at hj h (fun q hq => by have z := hn q hq; rwa [gd a i hi, gd R q (by omega)] at z)]
theorem multiLR_keep {α : Type} {c : α → α → Int} {d : α} {a R : List α} {i : Nat} (hi : i < a.length) (hn : ∀ q, q < R.length → ¬ c (a.getD i d) (R.getD q d) = 2) : multiLR c (a.drop i) R = (a.getD i d :: (multiLR c (a.drop (i + 1)) R).1, (multiLR c (a.drop (i + 1)) R).2) := by
  have gd : ∀ (l : List α) (k : Nat) (hk : k < l.length), l.getD k d = l[k] := fun l k hk => by rw [List.getD_eq_getElem?_getD, List.getElem?_eq_getElem hk]; rfl
  have hs : strikeR c a[i] R = none := strikeR_none.2 (fun y hy => by
    obtain ⟨q, hq, rfl⟩ := List.getElem_of_mem hy
    have z := hn q hq
    rwa [gd a i hi, gd R q hq] at z)
  rw [List.drop_eq_getElem_cons hi, multiLR, hs, gd a i hi]
end Go.Proofs.Ytnokgjajcnhkkaa

/- Multisets by a comparison of their members: what holds of the members' comparison holds of the multisets'. -/
namespace Go.Proofs.Ytnokgjajcnhkkaa
/-- A relation turned round. -/
def trn (r : Int) : Int := if r = 1 then 3 else if r = 3 then 1 else r
/-- A comparison (0 none, 1 below, 2 the same, 3 above) that is an order, for those of which P holds. -/
structure GoodC {α : Type} (P : α → Prop) (c : α → α → Int) : Prop where
  refl : ∀ x, P x → c x x = 2
  turn : ∀ x y, P x → P y → c y x = trn (c x y)
  trans : ∀ x y z, P x → P y → P z → c x y = 3 → c y z = 3 → c x z = 3
  same : ∀ x y z, P x → P y → P z → c x y = 2 → c x z = c y z
  rng : ∀ x y, P x → P y → 0 ≤ c x y ∧ c x y ≤ 3
section
variable {α : Type} {P : α → Prop} {c : α → α → Int}
theorem GoodC.symm (g : GoodC P c) {x y : α} (hx : P x) (hy : P y) (h : c x y = 2) : c y x = 2 := by rw [g.turn x y hx hy, h]; rfl
theorem GoodC.irrefl (g : GoodC P c) {x : α} (hx : P x) : c x x ≠ 3 := by rw [g.refl x hx]; decide
/-- How many of a list are the same as x. -/
def cnt (c : α → α → Int) (x : α) (l : List α) : Nat := l.countP (fun y => c x y == 2)
theorem cnt_cons {x y : α} {l : List α} : cnt c x (y :: l) = cnt c x l + (if c x y = 2 then 1 else 0) := by
  unfold cnt; rw [List.countP_cons]; simp
theorem cnt_append {x : α} {l k : List α} : cnt c x (l ++ k) = cnt c x l + cnt c x k := by unfold cnt; rw [List.countP_append]
theorem cnt_pos {x : α} {l : List α} : 0 < cnt c x l ↔ ∃ y ∈ l, c x y = 2 := by unfold cnt; rw [List.countP_pos_iff]; simp
theorem cnt_same (g : GoodC P c) {x y : α} (hx : P x) (hy : P y) (h : c x y = 2) : ∀ {l : List α}, (∀ z ∈ l, P z) → cnt c x l = cnt c y l
  | [], _ => rfl
  | z :: l, hl => by rw [cnt_cons, cnt_cons, cnt_same g hx hy h (fun q hq => hl q (List.mem_cons_of_mem _ hq)), g.same x y z hx hy (hl z List.mem_cons_self) h]
/-- The comparison of multisets, by how often a member stands in them. -/
def HO (P : α → Prop) (c : α → α → Int) (a b : List α) : Prop := (∃ x, P x ∧ cnt c x a ≠ cnt c x b) ∧ ∀ x, P x → cnt c x a < cnt c x b → ∃ y, P y ∧ c y x = 3 ∧ cnt c y b < cnt c y a
def EQm (P : α → Prop) (c : α → α → Int) (a b : List α) : Prop := ∀ x, P x → cnt c x a = cnt c x b
theorem maxel (g : GoodC P c) : ∀ {l : List α}, (∀ x ∈ l, P x) → l ≠ [] → ∃ m ∈ l, ∀ z ∈ l, c z m ≠ 3
  | [], _, h => absurd rfl h
  | [x], hl, _ => ⟨x, List.mem_cons_self, fun z hz => by rw [List.mem_singleton.1 hz]; exact g.irrefl (hl x List.mem_cons_self)⟩
  | x :: y :: l, hl, _ => by
    have hx := hl x List.mem_cons_self
    obtain ⟨m, hm, h⟩ := maxel g (l := y :: l) (fun q hq => hl q (List.mem_cons_of_mem _ hq)) (by simp)
    have hm' := hl m (List.mem_cons_of_mem _ hm)
    by_cases e : c x m = 3
    · refine ⟨x, List.mem_cons_self, fun z hz => ?_⟩
      rcases List.mem_cons.1 hz with rfl | hz
      · exact g.irrefl hx
      · intro e2; exact h z hz (g.trans z x m (hl z (List.mem_cons_of_mem _ hz)) hx hm' e2 e)
    · refine ⟨m, List.mem_cons_of_mem _ hm, fun z hz => ?_⟩
      rcases List.mem_cons.1 hz with rfl | hz
      · exact e
      · exact h z hz
theorem maxel_of (g : GoodC P c) {l : List α} (hl : ∀ x ∈ l, P x) (D : α → Prop) [DecidablePred D] (hne : ∃ x ∈ l, D x) : ∃ m ∈ l, D m ∧ ∀ z ∈ l, D z → c z m ≠ 3 := by
  obtain ⟨x, hx, hd⟩ := hne
  obtain ⟨m, hm, h⟩ := maxel g (l := l.filter (fun y => decide (D y))) (fun y hy => hl y (List.mem_filter.1 hy).1) (fun e => by
    have : x ∈ l.filter (fun y => decide (D y)) := List.mem_filter.2 ⟨hx, by simpa using hd⟩
    rw [e] at this; cases this)
  have z := List.mem_filter.1 hm
  exact ⟨m, z.1, by simpa using z.2, fun q hq hd => h q (List.mem_filter.2 ⟨hq, by simpa using hd⟩)⟩
theorem rep {x : α} {a b : List α} (h : cnt c x a ≠ cnt c x b) : ∃ y ∈ a ++ b, c x y = 2 := by
  have : 0 < cnt c x (a ++ b) := by rw [cnt_append]; omega
  exact cnt_pos.1 this
theorem HO.asymm (g : GoodC P c) {a b : List α} (ha : ∀ z ∈ a, P z) (hb : ∀ z ∈ b, P z) (h : HO P c a b) (k : HO P c b a) : False := by
  have hab : ∀ z ∈ a ++ b, P z := fun z hz => (List.mem_append.1 hz).elim (ha z) (hb z)
  have cs : ∀ {x y : α}, P x → P y → c x y = 2 → cnt c x a = cnt c y a ∧ cnt c x b = cnt c y b := fun hx hy e => ⟨cnt_same g hx hy e ha, cnt_same g hx hy e hb⟩
  obtain ⟨⟨x, hx, hne⟩, h⟩ := h
  obtain ⟨x', hx', e⟩ := rep hne
  have q := cs hx (hab x' hx') e
  obtain ⟨m, hm, hd, hmax⟩ := maxel_of g hab (fun y => cnt c y a ≠ cnt c y b) ⟨x', hx', by rw [← q.1, ← q.2]; exact hne⟩
  have hPm := hab m hm
  have key : ∃ y, P y ∧ c y m = 3 ∧ cnt c y a ≠ cnt c y b := by
    rcases Nat.lt_or_gt_of_ne hd with hl | hl
    · obtain ⟨y, hy, h1, h2⟩ := h m hPm hl; exact ⟨y, hy, h1, by omega⟩
    · obtain ⟨y, hy, h1, h2⟩ := k.2 m hPm hl; exact ⟨y, hy, h1, by omega⟩
  obtain ⟨y, hy, h1, h2⟩ := key
  obtain ⟨y', hy', e2⟩ := rep h2
  have q2 := cs hy (hab y' hy') e2
  exact hmax y' hy' (by rw [← q2.1, ← q2.2]; exact h2) (by rw [← g.same y y' m hy (hab y' hy') hPm e2]; exact h1)
theorem HO.congr {a b a' b' : List α} (h : HO P c a b) (e : EQm P c a a') (e' : EQm P c b b') : HO P c a' b' := by
  obtain ⟨⟨x, hx, h1⟩, h2⟩ := h
  refine ⟨⟨x, hx, by rw [← e x hx, ← e' x hx]; exact h1⟩, fun x hx hl => ?_⟩
  rw [← e x hx, ← e' x hx] at hl
  obtain ⟨y, hy, h3, h4⟩ := h2 x hx hl
  exact ⟨y, hy, h3, by rw [← e y hy, ← e' y hy]; exact h4⟩
theorem EQm.symm {a b : List α} (h : EQm P c a b) : EQm P c b a := fun x hx => (h x hx).symm
theorem EQm.refl (a : List α) : EQm P c a a := fun _ _ => rfl
theorem HO.trans (g : GoodC P c) {a b d : List α} (ha : ∀ z ∈ a, P z) (hb : ∀ z ∈ b, P z) (hd : ∀ z ∈ d, P z) (h : HO P c a b) (k : HO P c b d) : HO P c a d := by
  have hab : ∀ z ∈ a ++ b, P z := fun z hz => (List.mem_append.1 hz).elim (ha z) (hb z)
  refine ⟨?_, fun x hx hl => ?_⟩
  · refine Classical.byContradiction (fun hn => ?_)
    have e : EQm P c a d := fun x hx => Decidable.byContradiction (fun q => hn ⟨x, hx, q⟩)
    exact HO.asymm g ha hb h (k.congr (EQm.refl b) e.symm)
  · have cs : ∀ {x y : α}, P x → P y → c x y = 2 → cnt c x a = cnt c y a ∧ cnt c x b = cnt c y b ∧ cnt c x d = cnt c y d := fun hx hy e => ⟨cnt_same g hx hy e ha, cnt_same g hx hy e hb, cnt_same g hx hy e hd⟩
    -- one of those that are above x and of which there are more in a than in b, or more in b than in d
    have find : ∀ y, P y → c y x = 3 → (cnt c y b < cnt c y a ∨ cnt c y d < cnt c y b) → ∃ y' ∈ a ++ b, c y y' = 2 ∧ c y' x = 3 ∧ (cnt c y' b < cnt c y' a ∨ cnt c y' d < cnt c y' b) := fun y hy h1 h2 => by
      have : 0 < cnt c y (a ++ b) := by rw [cnt_append]; omega
      obtain ⟨y', hy', e⟩ := cnt_pos.1 this
      have q := cs hy (hab y' hy') e
      exact ⟨y', hy', e, by rw [← g.same y y' x hy (hab y' hy') hx e]; exact h1, by rw [← q.1, ← q.2.1, ← q.2.2]; exact h2⟩
    have first : ∃ y, P y ∧ c y x = 3 ∧ (cnt c y b < cnt c y a ∨ cnt c y d < cnt c y b) := by
      by_cases e : cnt c x b < cnt c x d
      · obtain ⟨y, hy, h1, h2⟩ := k.2 x hx e; exact ⟨y, hy, h1, .inr h2⟩
      · obtain ⟨y, hy, h1, h2⟩ := h.2 x hx (by omega); exact ⟨y, hy, h1, .inl h2⟩
    obtain ⟨y, hy, h1, h2⟩ := first
    obtain ⟨y', hy', _, h1', h2'⟩ := find y hy h1 h2
    obtain ⟨m, hm, ⟨hm1, hm2⟩, hmax⟩ := maxel_of g hab (fun y => c y x = 3 ∧ (cnt c y b < cnt c y a ∨ cnt c y d < cnt c y b)) ⟨y', hy', h1', h2'⟩
    have hPm := hab m hm
    refine ⟨m, hPm, hm1, Decidable.byContradiction (fun hn => ?_)⟩
    have up : ∃ z, P z ∧ c z m = 3 ∧ (cnt c z b < cnt c z a ∨ cnt c z d < cnt c z b) := by
      rcases hm2 with q | q
      · obtain ⟨z, hz, q1, q2⟩ := k.2 m hPm (by omega); exact ⟨z, hz, q1, .inr q2⟩
      · obtain ⟨z, hz, q1, q2⟩ := h.2 m hPm (by omega); exact ⟨z, hz, q1, .inl q2⟩
    obtain ⟨z, hz, q1, q2⟩ := up
    obtain ⟨z', hz', e, q3, q4⟩ := find z hz (g.trans z m x hz hPm hx q1 hm1) q2
    exact hmax z' hz' ⟨q3, q4⟩ (by rw [← g.same z z' m hz (hab z' hz') hPm e]; exact q1)
theorem HO.add {a b K K' : List α} (h : HO P c a b) (e : EQm P c K K') : HO P c (a ++ K) (b ++ K') := by
  obtain ⟨⟨x, hx, h1⟩, h2⟩ := h
  refine ⟨⟨x, hx, by rw [cnt_append, cnt_append, e x hx]; omega⟩, fun x hx hl => ?_⟩
  rw [cnt_append, cnt_append, e x hx] at hl
  obtain ⟨y, hy, h3, h4⟩ := h2 x hx (by omega)
  exact ⟨y, hy, h3, by rw [cnt_append, cnt_append, e y hy]; omega⟩
end
end Go.Proofs.Ytnokgjajcnhkkaa

namespace Go.Proofs.Ytnokgjajcnhkkaa
open Go.RowKit Go
set_option linter.unusedVariables false
set_option linter.unusedSimpArgs false
section
variable {P : Program} {n : Fr} {K : Known} {w : World} {Q : Exit → Act → World → Prop} {c : Code}
theorem WC.scope (hr : n.r = none) (h : WC P n K w c (Exit.noGoto Q)) : WC P n K w (.scope c) Q := fun a ha => by
  have z := h a ha
  rw [hr] at z ⊢
  exact wpIn_wide.2 (wp_scope_straight (wpIn_wide.1 z))
theorem WE.scopeRet (h : WE n K w Q .ret) : WE n K w (Exit.noGoto Q) .ret := h
end
end Go.Proofs.Ytnokgjajcnhkkaa
