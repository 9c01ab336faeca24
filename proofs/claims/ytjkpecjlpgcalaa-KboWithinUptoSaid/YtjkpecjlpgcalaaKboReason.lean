/- The walks through the program's order of Knuth and Bendix: the reason why one term stands above another, and the comparison. -/
import Derived.Test.YtjkpecjlpgcalaaKboProg
namespace Go.Proofs.Ytjkpecjlpgcalaa
open Go.RowKit Go.Sort Go

theorem Od.reasonL_drop (o : Od) (l q : List T) (k : Nat) (h : k < l.length) (h' : k < q.length) : o.reasonL (l.drop k) (q.drop k) = if T.same l[k] q[k] then o.reasonL (l.drop (k + 1)) (q.drop (k + 1)) else o.cmp l[k] q[k] := by
  rw [List.drop_eq_getElem_cons h, List.drop_eq_getElem_cons h', Od.reasonL]
theorem Od.reasonL_long (o : Od) (l q : List T) (h : q.length < l.length) : o.reasonL (l.drop q.length) (q.drop q.length) = 3 := by
  rw [List.drop_eq_getElem_cons h, List.drop_eq_nil_of_le (Nat.le_refl _), Od.reasonL]
theorem Od.reasonL_short (o : Od) (l q : List T) (_h : l.length ≤ q.length) : o.reasonL (l.drop l.length) (q.drop l.length) = 1 := by
  rw [List.drop_eq_nil_of_le (Nat.le_refl _)]
  cases q.drop l.length <;> rfl
theorem Od.reason_eq (o : Od) (f g : Int) (l q : List T) : o.reason (.mk f l) (.mk g q) =
  if o.weight (.mk g q) < o.weight (.mk f l) then 3 else if o.weight (.mk f l) < o.weight (.mk g q) then 1
  else if f < 0 ∧ g < 0 then 0
  else if g < 0 then (if around f g (.mk f l) then 3 else 0)
  else if f < 0 then (if around g f (.mk g q) then 1 else 0)
  else if f ≠ g then (if o.rank g < o.rank f then 3 else if o.rank f < o.rank g then 1 else 0)
  else reasonL o l q := rfl
theorem Od.reason_range (o : Od) (s t : T) : 0 ≤ o.reason s t ∧ o.reason s t ≤ 3 := by
  have hL : ∀ l k, 0 ≤ o.reasonL l k ∧ o.reasonL l k ≤ 3 := by
    intro l
    induction l with
    | nil => intro k; cases k <;> simp [Od.reasonL]
    | cons a r ih =>
      intro k
      cases k with
      | nil => simp [Od.reasonL]
      | cons b k =>
        rw [Od.reasonL]
        split
        · exact ih k
        · rcases o.cmp_range a b with h | h | h | h <;> omega
  have := hL s.args t.args
  unfold Od.reason
  (repeat' split) <;> omega


set_option maxRecDepth 100000 in
set_option maxHeartbeats 1000000 in
theorem reasonV_any (o : Od) (s t : T) (w : World) (vo v u : Value) (ht : t.f < 0) (ks : o.knows s = true) (kt : o.knows t = true) (ho : IsOd w o vo) (hv : IsT w s v) (hu : IsT w t u) :
    Calls Try.prog 40 #[vo, v, u] w fun e w' => e = .returned (.int .i64 (o.reason s t)) ∧ Below w.heap.size w w' := by
  obtain ⟨f, l⟩ := s
  obtain ⟨g, q⟩ := t
  rw [T.f_mk] at ht
  have A := fun w u h => around_any g (.mk f l) w u h
  rw [T.f_mk] at A
  have ho0 := ho
  have hv0 := hv
  have hu0 := hu
  obtain ⟨a3, a4, c3, c4, rfl, n1, n2, n3, n4, p1, p2, _⟩ := ho
  obtain ⟨⟨hf1, hf2⟩, a1, c1, rfl, hc1, hm1, hl⟩ := hv
  obtain ⟨⟨hg1, hg2⟩, a2, c2, rfl, hc2, hm2, hq⟩ := hu
  unfold maxLen at hm1 hm2 n2 n4
  have W1 := fun w vo v => weigh_any o (.mk f l) w vo v ks
  have W2 := fun w vo v => weigh_any o (.mk g q) w vo v kt
  have KS := Od.knows_args ks
  have KT := Od.knows_args kt
  have E := o.reason_eq f g l q
  generalize hca : o.reason (.mk f l) (.mk g q) = ab at E ⊢
  generalize hcw1 : o.weight (.mk f l) = x at *
  generalize hcw2 : o.weight (.mk g q) = y at *
  have HE := Lib.hid E
  have Hho0 := Lib.hid ho0
  have Hhv0 := Lib.hid hv0
  have Hhu0 := Lib.hid hu0
  have HKS := Lib.hid KS
  have HKT := Lib.hid KT
  clear ho0 hv0 hu0 KS KT
  clear E hca hcw1 hcw2 ks kt
  go_enter Try.func40, Try.ntmps40
  go_wp2_with fail
  obtain ⟨B1, B2, B3, hw⟩ := box3 (Below.refl _ (((w.alloc (.cells #[.bool o.lpo, .slice a3 o.prec.length c3, .slice a4 o.weights.length c4, .int .i64 o.var] 24)).alloc (.cells #[.int .i64 f, .slice a1 l.length c1] 27)).alloc (.cells #[.int .i64 g, .slice a2 q.length c2] 27)))
  generalize ((w.alloc (.cells #[.bool o.lpo, .slice a3 o.prec.length c3, .slice a4 o.weights.length c4, .int .i64 o.var] 24)).alloc (.cells #[.int .i64 f, .slice a1 l.length c1] 27)).alloc (.cells #[.int .i64 g, .slice a2 q.length c2] 27) = W0 at B1 B2 B3 hw ⊢
  obtain ⟨u0, u1, u2, u3⟩ := B1.four
  obtain ⟨s0, s1⟩ := B2.two
  obtain ⟨t0, t1⟩ := B3.two
  have r0 := cell_regrown u0
  have r1 := cell_regrown u1
  have r2 := cell_regrown u2
  have r3 := cell_regrown u3
  have r4 := cell_regrown s0
  have r5 := cell_regrown s1
  have r6 := cell_regrown t0
  have r7 := cell_regrown t1
  have Hhw := Lib.hid hw
  have HB1 := Lib.hid B1
  have HB2 := Lib.hid B2
  have HB3 := Lib.hid B3
  clear hw B1 B2 B3
  refine wp_region_quiet_below (by kernel_rfl) (by kernel_rfl) ?_
  repeat (quiet_step (first | exact Calls.regrown_of (W1 _ _ _ (Hho0.out.below (bstep Hhw.out (below_regrown _ _ _))) (Hhv0.out.below (bstep Hhw.out (below_regrown _ _ _)))) | exact Calls.regrown_of (W2 _ _ _ (Hho0.out.below (bstep Hhw.out (below_regrown _ _ _))) (Hhu0.out.below (bstep Hhw.out (below_regrown _ _ _))))))
  refine wpQuiet_nil ?_
  intro _ hw'
  obtain ⟨⟨dq, osq⟩, hw''⟩ := hw'
  subst hw''
  have hbq := below_regrown W0 dq osq
  generalize grow (redrawn W0 dq) osq = wq at hbq ⊢
  clear r0 r1 r2 r3 r4 r5 r6 r7 u0 u1 u2 u3 s0 s1 t0 t1 W1 W2
  have hw1 := bstep Hhw.out hbq
  have C1 := HB1.out.below hbq
  have C2 := HB2.out.below hbq
  have C3 := HB3.out.below hbq
  obtain ⟨u0, u1, u2, u3⟩ := C1.four
  obtain ⟨s0, s1⟩ := C2.two
  obtain ⟨t0, t1⟩ := C3.two
  clear hbq Hhw HB1 HB2 HB3
  have Hhw1 := Lib.hid hw1
  have HC1 := Lib.hid C1
  have HC2 := Lib.hid C2
  have HC3 := Lib.hid C3
  clear hw1 C1 C2 C3
  clear hl hq p1 p2 HKS HKT
  by_cases hyx : y < x
  · have HV := Lib.hid (show ab = 3 by rw [HE.out, if_pos hyx])
    go_wp2_with fail
    go_ret
    exact ⟨rint HV.out, Hhw1.out⟩
  · by_cases hxy : x < y
    · have HV := Lib.hid (show ab = 1 by rw [HE.out, if_neg hyx, if_pos hxy])
      go_wp2_with fail
      go_ret
      exact ⟨rint HV.out, Hhw1.out⟩
    · by_cases hf : f < 0
      · have HV := Lib.hid (show ab = 0 by rw [HE.out, if_neg hyx, if_neg hxy, if_pos ⟨hf, ht⟩])
        go_wp2_with fail
        go_ret
        exact ⟨rint HV.out, Hhw1.out⟩
      · have HV : ab = if Od.around f g (.mk f l) = true then 3 else 0 := by rw [HE.out, if_neg hyx, if_neg hxy, if_neg (by omega), if_pos ht]
        have A := fun w u => A w u (by omega)
        cases har : Od.around f g (.mk f l) with
        | true =>
          rw [har] at A
          have HV := Lib.hid (show ab = 3 by rw [HV, har]; rfl)
          clear har
          go_wp2_with fail
          refine (A _ _ (Hhv0.out.below Hhw1.out)).mono ?_
          rintro e w2 ⟨rfl, hb2⟩
          go_wp2_with fail
          go_ret
          exact ⟨rint HV.out, bstep Hhw1.out hb2⟩
        | false =>
          rw [har] at A
          have HV := Lib.hid (show ab = 0 by rw [HV, har]; rfl)
          clear har
          go_wp2_with fail
          refine (A _ _ (Hhv0.out.below Hhw1.out)).mono ?_
          rintro e w2 ⟨rfl, hb2⟩
          go_wp2_with fail
          go_ret
          exact ⟨rint HV.out, bstep Hhw1.out hb2⟩

/-- The comparison's contract for one pair of terms. -/
def CmpOk (o : Od) (s t : T) : Prop := ∀ (w : World) (vo v u : Value), s.size ≤ 4294967296 → t.size ≤ 4294967296 → o.knows s = true → o.knows t = true → IsOd w o vo → IsT w s v → IsT w t u →
    Calls Try.prog 28 #[vo, v, u] w fun e w' => e = .returned (.int .i64 (o.cmp s t)) ∧ Below w.heap.size w w'


set_option maxRecDepth 100000 in
set_option maxHeartbeats 4000000 in
theorem reason_any (o : Od) (s t : T) (w : World) (vo v u : Value) (zs : s.size ≤ 4294967296) (zt : t.size ≤ 4294967296) (ks : o.knows s = true) (kt : o.knows t = true) (ho : IsOd w o vo) (hv : IsT w s v) (hu : IsT w t u)
    (IHH : Hid (∀ a ∈ s.args, ∀ b, CmpOk o a b)) :
    Calls Try.prog 40 #[vo, v, u] w fun e w' => e = .returned (.int .i64 (o.reason s t)) ∧ Below w.heap.size w w' := by
  by_cases ht : t.f < 0
  · exact reasonV_any o s t w vo v u ht ks kt ho hv hu
  · have RV := fun (hf : s.f < 0) w vo v u => reasonV_any o t s w vo v u hf kt ks
    obtain ⟨f, l⟩ := s
    obtain ⟨g, q⟩ := t
    rw [T.args_mk] at IHH
    rw [T.f_mk] at ht RV
    have RT : f < 0 → ¬ o.weight (.mk g q) < o.weight (.mk f l) → ¬ o.weight (.mk f l) < o.weight (.mk g q) → o.reason (.mk g q) (.mk f l) = if Od.around g f (.mk g q) = true then 3 else 0 := by
      intro h1 h2 h3
      rw [Od.reason_eq, if_neg h3, if_neg h2, if_neg (by omega), if_pos h1]
    have ho0 := ho
    have hv0 := hv
    have hu0 := hu
    obtain ⟨a3, a4, c3, c4, rfl, n1, n2, n3, n4, p1, p2, _⟩ := ho
    obtain ⟨⟨hf1, hf2⟩, a1, c1, rfl, hc1, hm1, hl⟩ := hv
    obtain ⟨⟨hg1, hg2⟩, a2, c2, rfl, hc2, hm2, hq⟩ := hu
    unfold maxLen at hm1 hm2 n2 n4
    have W1 := fun w vo v => weigh_any o (.mk f l) w vo v ks
    have W2 := fun w vo v => weigh_any o (.mk g q) w vo v kt
    have KS := Od.knows_args ks
    have KT := Od.knows_args kt
    have E := o.reason_eq f g l q
    generalize hca : o.reason (.mk f l) (.mk g q) = ab at E ⊢
    generalize hcw1 : o.weight (.mk f l) = x at *
    generalize hcw2 : o.weight (.mk g q) = y at *
    have HE := Lib.hid E
    have Hho0 := Lib.hid ho0
    have Hhv0 := Lib.hid hv0
    have Hhu0 := Lib.hid hu0
    have HKS := Lib.hid KS
    have HKT := Lib.hid KT
    clear ho0 hv0 hu0 KS KT
    clear E hca hcw1 hcw2 ks kt
    go_enter Try.func40, Try.ntmps40
    go_wp2_with fail
    obtain ⟨B1, B2, B3, hw⟩ := box3 (Below.refl _ (((w.alloc (.cells #[.bool o.lpo, .slice a3 o.prec.length c3, .slice a4 o.weights.length c4, .int .i64 o.var] 24)).alloc (.cells #[.int .i64 f, .slice a1 l.length c1] 27)).alloc (.cells #[.int .i64 g, .slice a2 q.length c2] 27)))
    generalize ((w.alloc (.cells #[.bool o.lpo, .slice a3 o.prec.length c3, .slice a4 o.weights.length c4, .int .i64 o.var] 24)).alloc (.cells #[.int .i64 f, .slice a1 l.length c1] 27)).alloc (.cells #[.int .i64 g, .slice a2 q.length c2] 27) = W0 at B1 B2 B3 hw ⊢
    obtain ⟨u0, u1, u2, u3⟩ := B1.four
    obtain ⟨s0, s1⟩ := B2.two
    obtain ⟨t0, t1⟩ := B3.two
    have r0 := cell_regrown u0
    have r1 := cell_regrown u1
    have r2 := cell_regrown u2
    have r3 := cell_regrown u3
    have r4 := cell_regrown s0
    have r5 := cell_regrown s1
    have r6 := cell_regrown t0
    have r7 := cell_regrown t1
    have Hhw := Lib.hid hw
    have HB1 := Lib.hid B1
    have HB2 := Lib.hid B2
    have HB3 := Lib.hid B3
    clear hw B1 B2 B3
    refine wp_region_quiet_below (by kernel_rfl) (by kernel_rfl) ?_
    repeat (quiet_step (first | exact Calls.regrown_of (W1 _ _ _ (Hho0.out.below (bstep Hhw.out (below_regrown _ _ _))) (Hhv0.out.below (bstep Hhw.out (below_regrown _ _ _)))) | exact Calls.regrown_of (W2 _ _ _ (Hho0.out.below (bstep Hhw.out (below_regrown _ _ _))) (Hhu0.out.below (bstep Hhw.out (below_regrown _ _ _))))))
    refine wpQuiet_nil ?_
    intro _ hw'
    obtain ⟨⟨dq, osq⟩, hw''⟩ := hw'
    subst hw''
    have hbq := below_regrown W0 dq osq
    generalize grow (redrawn W0 dq) osq = wq at hbq ⊢
    clear r0 r1 r2 r3 r4 r5 r6 r7 u0 u1 u2 u3 s0 s1 t0 t1 W1 W2
    have hw1 := bstep Hhw.out hbq
    have C1 := HB1.out.below hbq
    have C2 := HB2.out.below hbq
    have C3 := HB3.out.below hbq
    obtain ⟨u0, u1, u2, u3⟩ := C1.four
    obtain ⟨s0, s1⟩ := C2.two
    obtain ⟨t0, t1⟩ := C3.two
    clear hbq Hhw HB1 HB2 HB3
    have Hhw1 := Lib.hid hw1
    have HC1 := Lib.hid C1
    have HC2 := Lib.hid C2
    have HC3 := Lib.hid C3
    clear hw1 C1 C2 C3
    by_cases hyx : y < x
    · have HV := Lib.hid (show ab = 3 by rw [HE.out, if_pos hyx])
      clear RV RT hl hq p1 p2 HKS HKT IHH
      go_wp2_with fail
      go_ret
      exact ⟨rint HV.out, Hhw1.out⟩
    · by_cases hxy : x < y
      · have HV := Lib.hid (show ab = 1 by rw [HE.out, if_neg hyx, if_pos hxy])
        clear RV RT hl hq p1 p2 HKS HKT IHH
        go_wp2_with fail
        go_ret
        exact ⟨rint HV.out, Hhw1.out⟩
      · by_cases hf : f < 0
        · have RT := RT hf (by omega) (by omega)
          have RV := RV hf
          have HV : ab = if Od.around g f (.mk g q) = true then 1 else 0 := by rw [HE.out, if_neg (by omega), if_neg (by omega), if_neg (by omega), if_neg (by omega), if_pos hf]
          clear hl hq p1 p2 HKS HKT IHH
          cases har : Od.around g f (.mk g q) with
          | true =>
            rw [har] at RT HV
            rw [RT] at RV
            have HV := Lib.hid (show ab = Od.turned (if true = true then 3 else 0) by rw [HV]; rfl)
            clear har RT
            go_wp2_with fail
            refine (RV _ _ _ _ (Hho0.out.below Hhw1.out) (Hhu0.out.below Hhw1.out) (Hhv0.out.below Hhw1.out)).mono ?_
            rintro e w2 ⟨rfl, hb2⟩
            go_wp2_with (go_at_call 53; refine (turned_any _ _ (by decide) (by decide)).mono ?_; rintro e w3 ⟨rfl, hb3⟩)
            go_ret
            exact ⟨rint HV.out, bstep (bstep Hhw1.out hb2) hb3⟩
          | false =>
            rw [har] at RT HV
            rw [RT] at RV
            have HV := Lib.hid (show ab = Od.turned (if false = true then 3 else 0) by rw [HV]; rfl)
            clear har RT
            go_wp2_with fail
            refine (RV _ _ _ _ (Hho0.out.below Hhw1.out) (Hhu0.out.below Hhw1.out) (Hhv0.out.below Hhw1.out)).mono ?_
            rintro e w2 ⟨rfl, hb2⟩
            go_wp2_with (go_at_call 53; refine (turned_any _ _ (by decide) (by decide)).mono ?_; rintro e w3 ⟨rfl, hb3⟩)
            go_ret
            exact ⟨rint HV.out, bstep (bstep Hhw1.out hb2) hb3⟩
        · clear RV RT
          obtain ⟨z0, z1, z2, KA⟩ := HKS.out.resolve_left (by omega)
          obtain ⟨y0, y1, y2, KB⟩ := HKT.out.resolve_left (by omega)
          by_cases hfg : f = g
          · have HV := Lib.hid (show ab = o.reasonL l q by rw [HE.out, if_neg (by omega), if_neg (by omega), if_neg (by omega), if_neg (by omega), if_neg (by omega), if_neg (by simpa using hfg)])
            subst hfg
            have HKA := Lib.hid KA
            have HKB := Lib.hid KB
            clear KA KB HKS HKT HE p1 p2 ht
            rcases Nat.lt_or_ge q.length l.length with hql | hql
            · go_wp2_with fail
              clear u0 u1 u2 u3 s0 s1 t0 t1
              go_loopw [89] (fun i wr => ∃ (k : Nat), k ≤ l.length ∧ k ≤ q.length ∧ i = .int .i64 k ∧ Hid (o.reasonL l q = o.reasonL (l.drop k) (q.drop k)) ∧ Below w.heap.size w wr ∧
                Box wr w.heap.size [.bool o.lpo, .slice a3 o.prec.length c3, .slice a4 o.weights.length c4, .int .i64 o.var] ∧ Box wr (w.heap.size + 1) [.int .i64 f, .slice a1 l.length c1] ∧ Box wr (w.heap.size + 2) [.int .i64 f, .slice a2 q.length c2]) (fun i _ => l.length - (intOf i).toNat)
              case atStart => exact ⟨0, Nat.zero_le _, Nat.zero_le _, rfl, rfl, Hhw1.out, HC1.out, HC2.out, HC3.out⟩
              case round =>
                clear Hhw1 HC1 HC2 HC3
                obtain ⟨k, hk, hkq, rfl, hx, hw, hB1, hB2, hB3⟩ := hrel
                obtain ⟨u0, u1, u2, u3⟩ := hB1.four
                obtain ⟨s0, s1⟩ := hB2.two
                obtain ⟨t0, t1⟩ := hB3.two
                by_cases hlt : k < l.length ∧ k < q.length
                · obtain ⟨hlt, hlq⟩ := hlt
                  obtain ⟨b1, o1, a5, c5, rfl, g1, g2, h3⟩ := hl.at_ hw k hlt
                  obtain ⟨b2, o2, a6, c6, rfl, g3, g4, h4⟩ := hq.at_ hw k hlq
                  have hml := List.getElem_mem hlt
                  have hmq := List.getElem_mem hlq
                  have S := fun w v u => same_any l[k] q[k] w v u
                  have IH := fun w vo v u => IHH.out l[k] hml q[k] w vo v u (by have := T.size_le_sizeL hml; rw [T.size] at zs; omega) (by have := T.size_le_sizeL hmq; rw [T.size] at zt; omega) (HKA.out _ hml) (HKB.out _ hmq)
                  have q5 := o.reasonL_drop l q k hlt hlq
                  have k0 : (0 : Int) ≤ (k : Int) := by omega
                  have k1 : (k : Int) < (l.length : Int) := by omega
                  have k2 : (k : Int) < (q.length : Int) := by omega
                  have r0 := cell_regrown u0
                  have r1 := cell_regrown u1
                  have r2 := cell_regrown u2
                  have r3 := cell_regrown u3
                  have r5 := cell_regrown s1
                  have r7 := cell_regrown t1
                  have r8 := cell_regrown g1
                  have r9 := cell_regrown g2
                  have r10 := cell_regrown g3
                  have r11 := cell_regrown g4
                  cases hz : T.same l[k] q[k] with
                  | true =>
                    rw [hz] at S
                    have Hh3 := Lib.hid h3
                    have Hh4 := Lib.hid h4
                    have HhB1 := Lib.hid hB1
                    have HhB2 := Lib.hid hB2
                    have HhB3 := Lib.hid hB3
                    have Hhw := Lib.hid hw
                    have Hq5 := Lib.hid q5
                    have Hhx := Lib.hid hx
                    have Hhz := Lib.hid hz
                    clear h3 h4 hB1 hB2 hB3 hw q5 hx hz
                    clear IHH hl hq IH
                    go_wp2_with fail
                    refine wp_region_quiet_below (by kernel_rfl) (by kernel_rfl) ?_
                    repeat (quiet_step (exact Calls.regrown_of (S _ _ _ (Hh3.out.below (below_regrown _ _ _)) (Hh4.out.below (below_regrown _ _ _)))))
                    refine wpQuiet_nil ?_
                    intro _ hw'
                    obtain ⟨⟨dq, osq⟩, hw''⟩ := hw'
                    subst hw''
                    have hbq := below_regrown wr dq osq
                    generalize grow (redrawn wr dq) osq = wq at hbq ⊢
                    go_wp2_with fail
                    go_roundw
                    case rel => exact ⟨k + 1, by omega, by omega, by go_num, by unfold Hid; rw [Hhx.out, Hq5.out, if_pos Hhz.out], bstep Hhw.out hbq, HhB1.out.below hbq, HhB2.out.below hbq, HhB3.out.below hbq⟩
                    case measure => simp [intOf]; omega
                  | false =>
                    rw [hz] at S
                    have Hh3 := Lib.hid h3
                    have Hh4 := Lib.hid h4
                    have HhB1 := Lib.hid hB1
                    have HhB2 := Lib.hid hB2
                    have HhB3 := Lib.hid hB3
                    have Hhw := Lib.hid hw
                    have Hq5 := Lib.hid q5
                    have Hhx := Lib.hid hx
                    have Hhz := Lib.hid hz
                    clear h3 h4 hB1 hB2 hB3 hw q5 hx hz
                    clear IHH hl hq
                    go_wp2_with fail
                    refine wp_region_quiet_below (by kernel_rfl) (by kernel_rfl) ?_
                    repeat (quiet_step (exact Calls.regrown_of (S _ _ _ (Hh3.out.below (below_regrown _ _ _)) (Hh4.out.below (below_regrown _ _ _)))))
                    refine wpQuiet_nil ?_
                    intro _ hw'
                    obtain ⟨⟨dq, osq⟩, hw''⟩ := hw'
                    subst hw''
                    have hbq := below_regrown wr dq osq
                    generalize grow (redrawn wr dq) osq = wq at hbq ⊢
                    clear r0 r1 r2 r3 r5 r7 r8 r9 r10 r11
                    have r0 := cell_regrown (bkeeps hbq _ _ u0)
                    have r1 := cell_regrown (bkeeps hbq _ _ u1)
                    have r2 := cell_regrown (bkeeps hbq _ _ u2)
                    have r3 := cell_regrown (bkeeps hbq _ _ u3)
                    have r5 := cell_regrown (bkeeps hbq _ _ s1)
                    have r7 := cell_regrown (bkeeps hbq _ _ t1)
                    have r8 := cell_regrown (bkeeps hbq _ _ g1)
                    have r9 := cell_regrown (bkeeps hbq _ _ g2)
                    have r10 := cell_regrown (bkeeps hbq _ _ g3)
                    have r11 := cell_regrown (bkeeps hbq _ _ g4)
                    have hb2 := Lib.hid hbq
                    clear hbq
                    go_wp2_with fail
                    refine wp_region_quiet_below (by kernel_rfl) (by kernel_rfl) ?_
                    repeat (quiet_step (exact Calls.regrown_of (IH _ _ _ _ (Hho0.out.below (bstep (bstep Hhw.out hb2.out) (below_regrown _ _ _))) ((Hh3.out.below hb2.out).below (below_regrown _ _ _)) ((Hh4.out.below hb2.out).below (below_regrown _ _ _)))))
                    refine wpQuiet_nil ?_
                    intro _ hw'
                    obtain ⟨⟨dq, osq⟩, hw''⟩ := hw'
                    subst hw''
                    have hbq := below_regrown wq dq osq
                    generalize grow (redrawn wq dq) osq = wq at hbq ⊢
                    go_wp2_with fail
                    go_ret
                    exact ⟨rint (by rw [HV.out, Hhx.out, Hq5.out, if_neg (by rw [Hhz.out]; simp)]), bstep (bstep Hhw.out hb2.out) hbq⟩
                · obtain rfl : k = q.length := by omega
                  have Q := Lib.hid (o.reasonL_long l q hql)
                  have Hhw := Lib.hid hw
                  have Hhx := Lib.hid hx
                  have Hhlt := Lib.hid hlt
                  clear hw hx hlt
                  clear IHH hl hq
                  go_wp2_with fail
                  go_ret
                  exact ⟨rint (by rw [HV.out, Hhx.out, Q.out]), Hhw.out⟩
            · go_wp2_with fail
              clear u0 u1 u2 u3 s0 s1 t0 t1
              go_loopw [89] (fun i wr => ∃ (k : Nat), k ≤ l.length ∧ k ≤ q.length ∧ i = .int .i64 k ∧ Hid (o.reasonL l q = o.reasonL (l.drop k) (q.drop k)) ∧ Below w.heap.size w wr ∧
                Box wr w.heap.size [.bool o.lpo, .slice a3 o.prec.length c3, .slice a4 o.weights.length c4, .int .i64 o.var] ∧ Box wr (w.heap.size + 1) [.int .i64 f, .slice a1 l.length c1] ∧ Box wr (w.heap.size + 2) [.int .i64 f, .slice a2 q.length c2]) (fun i _ => l.length - (intOf i).toNat)
              case atStart => exact ⟨0, Nat.zero_le _, Nat.zero_le _, rfl, rfl, Hhw1.out, HC1.out, HC2.out, HC3.out⟩
              case round =>
                clear Hhw1 HC1 HC2 HC3
                obtain ⟨k, hk, hkq, rfl, hx, hw, hB1, hB2, hB3⟩ := hrel
                obtain ⟨u0, u1, u2, u3⟩ := hB1.four
                obtain ⟨s0, s1⟩ := hB2.two
                obtain ⟨t0, t1⟩ := hB3.two
                by_cases hlt : k < l.length ∧ k < q.length
                · obtain ⟨hlt, hlq⟩ := hlt
                  obtain ⟨b1, o1, a5, c5, rfl, g1, g2, h3⟩ := hl.at_ hw k hlt
                  obtain ⟨b2, o2, a6, c6, rfl, g3, g4, h4⟩ := hq.at_ hw k hlq
                  have hml := List.getElem_mem hlt
                  have hmq := List.getElem_mem hlq
                  have S := fun w v u => same_any l[k] q[k] w v u
                  have IH := fun w vo v u => IHH.out l[k] hml q[k] w vo v u (by have := T.size_le_sizeL hml; rw [T.size] at zs; omega) (by have := T.size_le_sizeL hmq; rw [T.size] at zt; omega) (HKA.out _ hml) (HKB.out _ hmq)
                  have q5 := o.reasonL_drop l q k hlt hlq
                  have k0 : (0 : Int) ≤ (k : Int) := by omega
                  have k1 : (k : Int) < (l.length : Int) := by omega
                  have k2 : (k : Int) < (q.length : Int) := by omega
                  have r0 := cell_regrown u0
                  have r1 := cell_regrown u1
                  have r2 := cell_regrown u2
                  have r3 := cell_regrown u3
                  have r5 := cell_regrown s1
                  have r7 := cell_regrown t1
                  have r8 := cell_regrown g1
                  have r9 := cell_regrown g2
                  have r10 := cell_regrown g3
                  have r11 := cell_regrown g4
                  cases hz : T.same l[k] q[k] with
                  | true =>
                    rw [hz] at S
                    have Hh3 := Lib.hid h3
                    have Hh4 := Lib.hid h4
                    have HhB1 := Lib.hid hB1
                    have HhB2 := Lib.hid hB2
                    have HhB3 := Lib.hid hB3
                    have Hhw := Lib.hid hw
                    have Hq5 := Lib.hid q5
                    have Hhx := Lib.hid hx
                    have Hhz := Lib.hid hz
                    clear h3 h4 hB1 hB2 hB3 hw q5 hx hz
                    clear IHH hl hq IH
                    go_wp2_with fail
                    refine wp_region_quiet_below (by kernel_rfl) (by kernel_rfl) ?_
                    repeat (quiet_step (exact Calls.regrown_of (S _ _ _ (Hh3.out.below (below_regrown _ _ _)) (Hh4.out.below (below_regrown _ _ _)))))
                    refine wpQuiet_nil ?_
                    intro _ hw'
                    obtain ⟨⟨dq, osq⟩, hw''⟩ := hw'
                    subst hw''
                    have hbq := below_regrown wr dq osq
                    generalize grow (redrawn wr dq) osq = wq at hbq ⊢
                    go_wp2_with fail
                    go_roundw
                    case rel => exact ⟨k + 1, by omega, by omega, by go_num, by unfold Hid; rw [Hhx.out, Hq5.out, if_pos Hhz.out], bstep Hhw.out hbq, HhB1.out.below hbq, HhB2.out.below hbq, HhB3.out.below hbq⟩
                    case measure => simp [intOf]; omega
                  | false =>
                    rw [hz] at S
                    have Hh3 := Lib.hid h3
                    have Hh4 := Lib.hid h4
                    have HhB1 := Lib.hid hB1
                    have HhB2 := Lib.hid hB2
                    have HhB3 := Lib.hid hB3
                    have Hhw := Lib.hid hw
                    have Hq5 := Lib.hid q5
                    have Hhx := Lib.hid hx
                    have Hhz := Lib.hid hz
                    clear h3 h4 hB1 hB2 hB3 hw q5 hx hz
                    clear IHH hl hq
                    go_wp2_with fail
                    refine wp_region_quiet_below (by kernel_rfl) (by kernel_rfl) ?_
                    repeat (quiet_step (exact Calls.regrown_of (S _ _ _ (Hh3.out.below (below_regrown _ _ _)) (Hh4.out.below (below_regrown _ _ _)))))
                    refine wpQuiet_nil ?_
                    intro _ hw'
                    obtain ⟨⟨dq, osq⟩, hw''⟩ := hw'
                    subst hw''
                    have hbq := below_regrown wr dq osq
                    generalize grow (redrawn wr dq) osq = wq at hbq ⊢
                    clear r0 r1 r2 r3 r5 r7 r8 r9 r10 r11
                    have r0 := cell_regrown (bkeeps hbq _ _ u0)
                    have r1 := cell_regrown (bkeeps hbq _ _ u1)
                    have r2 := cell_regrown (bkeeps hbq _ _ u2)
                    have r3 := cell_regrown (bkeeps hbq _ _ u3)
                    have r5 := cell_regrown (bkeeps hbq _ _ s1)
                    have r7 := cell_regrown (bkeeps hbq _ _ t1)
                    have r8 := cell_regrown (bkeeps hbq _ _ g1)
                    have r9 := cell_regrown (bkeeps hbq _ _ g2)
                    have r10 := cell_regrown (bkeeps hbq _ _ g3)
                    have r11 := cell_regrown (bkeeps hbq _ _ g4)
                    have hb2 := Lib.hid hbq
                    clear hbq
                    go_wp2_with fail
                    refine wp_region_quiet_below (by kernel_rfl) (by kernel_rfl) ?_
                    repeat (quiet_step (exact Calls.regrown_of (IH _ _ _ _ (Hho0.out.below (bstep (bstep Hhw.out hb2.out) (below_regrown _ _ _))) ((Hh3.out.below hb2.out).below (below_regrown _ _ _)) ((Hh4.out.below hb2.out).below (below_regrown _ _ _)))))
                    refine wpQuiet_nil ?_
                    intro _ hw'
                    obtain ⟨⟨dq, osq⟩, hw''⟩ := hw'
                    subst hw''
                    have hbq := below_regrown wq dq osq
                    generalize grow (redrawn wq dq) osq = wq at hbq ⊢
                    go_wp2_with fail
                    go_ret
                    exact ⟨rint (by rw [HV.out, Hhx.out, Hq5.out, if_neg (by rw [Hhz.out]; simp)]), bstep (bstep Hhw.out hb2.out) hbq⟩
                · obtain rfl : k = l.length := by omega
                  have Q := Lib.hid (o.reasonL_short l q hql)
                  have Hhw := Lib.hid hw
                  have Hhx := Lib.hid hx
                  have Hhlt := Lib.hid hlt
                  clear hw hx hlt
                  clear IHH hl hq
                  go_wp2_with fail
                  go_ret
                  exact ⟨rint (by rw [HV.out, Hhx.out, Q.out]), Hhw.out⟩
          · have HV : ab = (if o.rank g < o.rank f then 3 else if o.rank f < o.rank g then 1 else 0) := by rw [HE.out, if_neg (by omega), if_neg (by omega), if_neg (by omega), if_neg (by omega), if_neg (by omega), if_pos (by simpa using hfg)]
            have hfgb : (f != g) = true := by simpa using hfg
            obtain ⟨b5, o5, rfl, g5, _⟩ := p1.at_ Hhw1.out f.toNat (by omega)
            obtain ⟨b6, o6, e6, g6, _⟩ := p1.at_ Hhw1.out g.toNat (by omega)
            simp only [Option.some.injEq, Addr.mk.injEq, and_true] at e6
            obtain ⟨rfl, rfl⟩ := e6
            have R1 : o.rank f = o.prec[f.toNat]'(by omega) := by unfold Od.rank; simp [List.getD, show f.toNat < o.prec.length by omega]
            have R2 : o.rank g = o.prec[g.toNat]'(by omega) := by unfold Od.rank; simp [List.getD, show g.toNat < o.prec.length by omega]
            generalize o.prec[f.toNat]'(by omega) = pf at *
            generalize o.prec[g.toNat]'(by omega) = pg at *
            rw [R1, R2] at HV
            have r0 := cell_regrown u1
            have r1 := cell_regrown s0
            have r2 := cell_regrown t0
            have r3 := cell_regrown g5
            have r4 := cell_regrown g6
            clear HKS HKT hl hq p1 p2 hfg HE R1 R2 IHH
            by_cases hp1 : pg < pf
            · have HV := Lib.hid (show ab = 3 by rw [HV, if_pos hp1])
              go_wp2_with fail
              refine wp_region_quiet_below (by kernel_rfl) (by kernel_rfl) ?_
              repeat (quiet_step (fail))
              refine wpQuiet_nil ?_
              intro _ hw'
              obtain ⟨⟨dq, osq⟩, hw''⟩ := hw'
              subst hw''
              have hbq := below_regrown wq dq osq
              generalize grow (redrawn wq dq) osq = wq at hbq ⊢
              go_wp2_with fail
              go_ret
              exact ⟨rint HV.out, bstep Hhw1.out hbq⟩
            · by_cases hp2 : pf < pg
              · have HV := Lib.hid (show ab = 1 by rw [HV, if_neg hp1, if_pos hp2])
                go_wp2_with fail
                refine wp_region_quiet_below (by kernel_rfl) (by kernel_rfl) ?_
                repeat (quiet_step (fail))
                refine wpQuiet_nil ?_
                intro _ hw'
                obtain ⟨⟨dq, osq⟩, hw''⟩ := hw'
                subst hw''
                have hbq := below_regrown wq dq osq
                generalize grow (redrawn wq dq) osq = wq at hbq ⊢
                have hb2 := Lib.hid hbq
                clear r0 r1 r2 r3 r4
                have r0 := cell_regrown (bkeeps hbq _ _ u1)
                have r1 := cell_regrown (bkeeps hbq _ _ s0)
                have r2 := cell_regrown (bkeeps hbq _ _ t0)
                have r3 := cell_regrown (bkeeps hbq _ _ g5)
                have r4 := cell_regrown (bkeeps hbq _ _ g6)
                clear hbq
                go_wp2_with fail
                refine wp_region_quiet_below (by kernel_rfl) (by kernel_rfl) ?_
                repeat (quiet_step (fail))
                refine wpQuiet_nil ?_
                intro _ hw'
                obtain ⟨⟨dq, osq⟩, hw''⟩ := hw'
                subst hw''
                have hbq := below_regrown wq dq osq
                generalize grow (redrawn wq dq) osq = wq at hbq ⊢
                go_wp2_with fail
                go_ret
                exact ⟨rint HV.out, bstep (bstep Hhw1.out hb2.out) hbq⟩
              · have HV := Lib.hid (show ab = 0 by rw [HV, if_neg hp1, if_neg hp2])
                go_wp2_with fail
                refine wp_region_quiet_below (by kernel_rfl) (by kernel_rfl) ?_
                repeat (quiet_step (fail))
                refine wpQuiet_nil ?_
                intro _ hw'
                obtain ⟨⟨dq, osq⟩, hw''⟩ := hw'
                subst hw''
                have hbq := below_regrown wq dq osq
                generalize grow (redrawn wq dq) osq = wq at hbq ⊢
                have hb2 := Lib.hid hbq
                clear r0 r1 r2 r3 r4
                have r0 := cell_regrown (bkeeps hbq _ _ u1)
                have r1 := cell_regrown (bkeeps hbq _ _ s0)
                have r2 := cell_regrown (bkeeps hbq _ _ t0)
                have r3 := cell_regrown (bkeeps hbq _ _ g5)
                have r4 := cell_regrown (bkeeps hbq _ _ g6)
                clear hbq
                go_wp2_with fail
                refine wp_region_quiet_below (by kernel_rfl) (by kernel_rfl) ?_
                repeat (quiet_step (fail))
                refine wpQuiet_nil ?_
                intro _ hw'
                obtain ⟨⟨dq, osq⟩, hw''⟩ := hw'
                subst hw''
                have hbq := below_regrown wq dq osq
                generalize grow (redrawn wq dq) osq = wq at hbq ⊢
                go_wp2_with fail
                go_ret
                exact ⟨rint HV.out, bstep (bstep Hhw1.out hb2.out) hbq⟩

end Go.Proofs.Ytjkpecjlpgcalaa
