/- The walks through the document's order of Knuth and Bendix: what is above. -/
import Derived.Test.YtjkpecjlpgcalaaKboRef3
namespace Go.Proofs.Ytjkpecjlpgcalaa
open Go.RowKit Go.Sort Go

theorem Od.aboveL_drop (o : Od) (l q : List T) (k : Nat) (h : k < l.length) (h' : k < q.length) : o.aboveL (l.drop k) (q.drop k) = if T.same l[k] q[k] then o.aboveL (l.drop (k + 1)) (q.drop (k + 1)) else o.above l[k] q[k] := by
  rw [List.drop_eq_getElem_cons h, List.drop_eq_getElem_cons h', Od.aboveL]
theorem Od.aboveL_long (o : Od) (l q : List T) (k : Nat) (h : k < l.length) (h' : q.length ≤ k) : o.aboveL (l.drop k) (q.drop k) = true := by
  rw [List.drop_eq_getElem_cons h, List.drop_eq_nil_of_le h', Od.aboveL]
theorem Od.aboveL_end (o : Od) (l q : List T) : o.aboveL (l.drop l.length) (q.drop l.length) = false := by
  rw [List.drop_eq_nil_of_le (Nat.le_refl _), Od.aboveL]
set_option maxRecDepth 100000 in
set_option maxHeartbeats 1000000 in
theorem above_any (o : Od) (s : T) : ∀ (t : T) (w : World) (vo v u : Value), s.size ≤ 4294967296 → t.size ≤ 4294967296 → o.knows s = true → o.knows t = true → IsOd w o vo → IsT w s v → IsT w t u →
    Calls Try.prog 26 #[vo, v, u] w fun e w' => e = .returned (.bool (o.above s t)) ∧ Below w.heap.size w w' := by
  induction s using T.ind with
  | h f l ih =>
  intro t w vo v u zs zt ks kt ho hv hu
  obtain ⟨g, q⟩ := t
  have ho0 := ho
  have hv0 := hv
  have hu0 := hu
  obtain ⟨a3, a4, c3, c4, rfl, n1, n2, n3, n4, p1, p2, _⟩ := ho
  obtain ⟨⟨hf1, hf2⟩, a1, c1, rfl, hc1, hm1, hl⟩ := hv
  obtain ⟨⟨hg1, hg2⟩, a2, c2, rfl, hc2, hm2, hq⟩ := hu
  unfold maxLen at hm1 hm2 n2 n4
  have C := fun w v1 v2 v3 => covers_any (.mk f l) (.mk g q) zs zt (.mk g q) w v1 v2 v3
  have W1 := fun w vo v => rweight_any o (.mk f l) w vo v ks
  have W2 := fun w vo v => rweight_any o (.mk g q) w vo v kt
  have E := o.above_eq (.mk f l) (.mk g q)
  simp only [T.f_mk, T.args_mk] at E
  have A := fun v => raround_any f v (.mk f l)
  have KS := Od.knows_args ks
  have KT := Od.knows_args kt
  generalize hca : o.above (.mk f l) (.mk g q) = ab at E ⊢
  generalize hcw1 : o.weight (.mk f l) = x at *
  generalize hcw2 : o.weight (.mk g q) = y at *
  cases hcc : Od.covers (.mk f l) (.mk g q) (.mk g q) with
  | false =>
    rw [hcc] at C E
    rw [Bool.false_and] at E
    have Hho0 := Lib.hid ho0
    have Hhv0 := Lib.hid hv0
    have Hhu0 := Lib.hid hu0
    clear ho0 hv0 hu0
    clear hcc hca hcw1 hcw2 hl hq p1 p2 W1 W2 A ih KS KT ks kt
    subst E
    go_enter Try.func26, Try.ntmps26
    go_wp2_with fail
    refine (C _ _ _ _ (Hhv0.out.below (bstep (balloc2 _ _ _) (balloc _ _))) (Hhu0.out.below (bstep (balloc2 _ _ _) (balloc _ _))) (Hhu0.out.below (bstep (balloc2 _ _ _) (balloc _ _)))).mono ?_
    rintro e w1 ⟨rfl, hb1⟩
    go_wp2_with fail
    go_ret
    exact ⟨rfl, bstep (bstep (balloc2 _ _ _) (balloc _ _)) hb1⟩
  | true =>
    rw [hcc] at C E
    rw [Bool.true_and] at E
    have HE := Lib.hid E
    have Hho0 := Lib.hid ho0
    have Hhv0 := Lib.hid hv0
    have Hhu0 := Lib.hid hu0
    have HKS := Lib.hid KS
    have HKT := Lib.hid KT
    clear ho0 hv0 hu0 KS KT
    clear E hcc hca hcw1 hcw2 ks kt
    have IHH := Lib.hid ih
    clear ih
    go_enter Try.func26, Try.ntmps26
    go_wp2_with fail
    refine (C _ _ _ _ (Hhv0.out.below (bstep (balloc2 _ _ _) (balloc _ _))) (Hhu0.out.below (bstep (balloc2 _ _ _) (balloc _ _))) (Hhu0.out.below (bstep (balloc2 _ _ _) (balloc _ _)))).mono ?_
    rintro e w1 ⟨rfl, hb1⟩
    obtain ⟨B1, B2, B3, hw1⟩ := box3 hb1
    clear hb1 C
    obtain ⟨u0, u1, u2, u3⟩ := B1.four
    obtain ⟨s0, s1⟩ := B2.two
    obtain ⟨t0, t1⟩ := B3.two
    have r0 := cell_regrown u0
    have r1 := cell_regrown u1
    have r2 := cell_regrown u2
    have r3 := cell_regrown u3
    have r4 := cell_regrown s0
    have r5 := cell_regrown s1
    have r6 := cell_regrown t0
    have r7 := cell_regrown t1
    have Hhw1 := Lib.hid hw1
    have HB1 := Lib.hid B1
    have HB2 := Lib.hid B2
    have HB3 := Lib.hid B3
    clear hw1 B1 B2 B3
    go_wp2_with fail
    refine wp_region_quiet_below (by kernel_rfl) (by kernel_rfl) ?_
    repeat (quiet_step (first | exact Calls.regrown_of (W1 _ _ _ (Hho0.out.below (bstep Hhw1.out (below_regrown _ _ _))) (Hhv0.out.below (bstep Hhw1.out (below_regrown _ _ _)))) | exact Calls.regrown_of (W2 _ _ _ (Hho0.out.below (bstep Hhw1.out (below_regrown _ _ _))) (Hhu0.out.below (bstep Hhw1.out (below_regrown _ _ _))))))
    refine wpQuiet_nil ?_
    intro _ hw'
    obtain ⟨⟨dq, osq⟩, hw''⟩ := hw'
    subst hw''
    have hbq := below_regrown w1 dq osq
    generalize grow (redrawn w1 dq) osq = wq at hbq ⊢
    clear r0 r1 r2 r3 r4 r5 r6 r7 u0 u1 u2 u3 s0 s1 t0 t1 W1 W2
    have hw := bstep Hhw1.out hbq
    have C1 := HB1.out.below hbq
    have C2 := HB2.out.below hbq
    have C3 := HB3.out.below hbq
    obtain ⟨u0, u1, u2, u3⟩ := C1.four
    obtain ⟨s0, s1⟩ := C2.two
    obtain ⟨t0, t1⟩ := C3.two
    clear hbq Hhw1 HB1 HB2 HB3
    have Hhw := Lib.hid hw
    have HC1 := Lib.hid C1
    have HC2 := Lib.hid C2
    have HC3 := Lib.hid C3
    clear hw C1 C2 C3
    by_cases hxy : x = y
    · subst hxy
      have hne : (x != x) = false := by simp
      have HE2 : ab = (if f < 0 then false else if g < 0 then Od.around f g (.mk f l) else if f ≠ g then decide (o.rank g < o.rank f) else o.aboveL l q) := by
        rw [HE.out, decide_eq_false (by omega), decide_eq_true rfl, Bool.false_or, Bool.true_and]
        rfl
      have HE := Lib.hid HE2
      clear HE2
      by_cases h0 : f < 0
      · have HV := Lib.hid (show ab = false by rw [HE.out, if_pos h0])
        clear HKS HKT IHH hl hq p1 p2 A
        go_wp2_with fail
        go_ret
        exact ⟨rbool HV.out, Hhw.out⟩
      · by_cases k0 : g < 0
        · have HV := Lib.hid (show ab = Od.around f g (.mk f l) by rw [HE.out, if_neg h0, if_pos k0])
          clear HKS HKT IHH hl hq p1 p2
          go_wp2_with fail
          refine (A _ _ _ (Hhv0.out.below Hhw.out)).mono ?_
          rintro e w2 ⟨rfl, hb2⟩
          go_wp2_with fail
          go_ret
          exact ⟨rbool HV.out, bstep Hhw.out hb2⟩
        · obtain ⟨z0, z1, z2, KA⟩ := HKS.out.resolve_left (by omega)
          obtain ⟨y0, y1, y2, KB⟩ := HKT.out.resolve_left (by omega)
          by_cases hfg : f = g
          · have HV := Lib.hid (show ab = o.aboveL l q by rw [HE.out, if_neg h0, if_neg k0, if_neg (by simpa using hfg)])
            subst hfg
            have HKA := Lib.hid KA
            have HKB := Lib.hid KB
            clear KA KB HKS HKT HE A p1 p2 k0
            go_wp2_with fail
            clear u0 u1 u2 u3 s0 s1 t0 t1
            go_loopw [9] (fun i wr => ∃ (k : Nat), k ≤ l.length ∧ k ≤ q.length ∧ i = .int .i64 k ∧ Hid (o.aboveL l q = o.aboveL (l.drop k) (q.drop k)) ∧ Below w.heap.size w wr ∧
              Box wr w.heap.size [.bool o.lpo, .slice a3 o.prec.length c3, .slice a4 o.weights.length c4, .int .i64 o.var] ∧ Box wr (w.heap.size + 1) [.int .i64 f, .slice a1 l.length c1] ∧ Box wr (w.heap.size + 2) [.int .i64 f, .slice a2 q.length c2]) (fun i _ => l.length - (intOf i).toNat)
            case atStart => exact ⟨0, Nat.zero_le _, Nat.zero_le _, rfl, rfl, Hhw.out, HC1.out, HC2.out, HC3.out⟩
            case round =>
              clear Hhw HC1 HC2 HC3
              obtain ⟨k, hk, hkq, rfl, hx, hw, hB1, hB2, hB3⟩ := hrel
              obtain ⟨u0, u1, u2, u3⟩ := hB1.four
              obtain ⟨s0, s1⟩ := hB2.two
              obtain ⟨t0, t1⟩ := hB3.two
              by_cases hlt : k < l.length
              · by_cases hlq : k < q.length
                · obtain ⟨b1, o1, a5, c5, rfl, g1, g2, h3⟩ := hl.at_ hw k hlt
                  obtain ⟨b2, o2, a6, c6, rfl, g3, g4, h4⟩ := hq.at_ hw k hlq
                  have hml := List.getElem_mem hlt
                  have hmq := List.getElem_mem hlq
                  have S := fun w v u => rsame_any l[k] q[k] w v u
                  have IH := fun w vo v u => IHH.out l[k] hml q[k] w vo v u (by have := T.size_le_sizeL hml; rw [T.size] at zs; omega) (by have := T.size_le_sizeL hmq; rw [T.size] at zt; omega) (HKA.out _ hml) (HKB.out _ hmq)
                  have q5 := o.aboveL_drop l q k hlt hlq
                  have k0 : (0 : Int) ≤ (k : Int) := by omega
                  have k1 : (k : Int) < (l.length : Int) := by omega
                  have k2 : (k : Int) < (q.length : Int) := by omega
                  have r0 := cell_regrown u0
                  have r1 := cell_regrown u1
                  have r2 := cell_regrown u2
                  have r3 := cell_regrown u3
                  have r5 := cell_regrown s1
                  have r7 := cell_regrown t1
                  have r8 := cell_regrown g1
                  have r9 := cell_regrown g2
                  have r10 := cell_regrown g3
                  have r11 := cell_regrown g4
                  cases hz : T.same l[k] q[k] with
                  | true =>
                    rw [hz] at S
                    have Hh3 := Lib.hid h3
                    have Hh4 := Lib.hid h4
                    have HhB1 := Lib.hid hB1
                    have HhB2 := Lib.hid hB2
                    have HhB3 := Lib.hid hB3
                    have Hhw := Lib.hid hw
                    have Hq5 := Lib.hid q5
                    have Hhx := Lib.hid hx
                    have Hhz := Lib.hid hz
                    clear h3 h4 hB1 hB2 hB3 hw q5 hx hz
                    clear IHH hl hq IH
                    go_wp2_with fail
                    refine wp_region_quiet_below (by kernel_rfl) (by kernel_rfl) ?_
                    repeat (quiet_step (exact Calls.regrown_of (S _ _ _ (Hh3.out.below (below_regrown _ _ _)) (Hh4.out.below (below_regrown _ _ _)))))
                    refine wpQuiet_nil ?_
                    intro _ hw'
                    obtain ⟨⟨dq, osq⟩, hw''⟩ := hw'
                    subst hw''
                    have hbq := below_regrown wr dq osq
                    generalize grow (redrawn wr dq) osq = wq at hbq ⊢
                    go_wp2_with fail
                    go_roundw
                    case rel => exact ⟨k + 1, by omega, by omega, by go_num, by unfold Hid; rw [Hhx.out, Hq5.out, if_pos Hhz.out], bstep Hhw.out hbq, HhB1.out.below hbq, HhB2.out.below hbq, HhB3.out.below hbq⟩
                    case measure => simp [intOf]; omega
                  | false =>
                    rw [hz] at S
                    have Hh3 := Lib.hid h3
                    have Hh4 := Lib.hid h4
                    have HhB1 := Lib.hid hB1
                    have HhB2 := Lib.hid hB2
                    have HhB3 := Lib.hid hB3
                    have Hhw := Lib.hid hw
                    have Hq5 := Lib.hid q5
                    have Hhx := Lib.hid hx
                    have Hhz := Lib.hid hz
                    clear h3 h4 hB1 hB2 hB3 hw q5 hx hz
                    clear IHH hl hq
                    go_wp2_with fail
                    refine wp_region_quiet_below (by kernel_rfl) (by kernel_rfl) ?_
                    repeat (quiet_step (exact Calls.regrown_of (S _ _ _ (Hh3.out.below (below_regrown _ _ _)) (Hh4.out.below (below_regrown _ _ _)))))
                    refine wpQuiet_nil ?_
                    intro _ hw'
                    obtain ⟨⟨dq, osq⟩, hw''⟩ := hw'
                    subst hw''
                    have hbq := below_regrown wr dq osq
                    generalize grow (redrawn wr dq) osq = wq at hbq ⊢
                    clear r0 r1 r2 r3 r5 r7 r8 r9 r10 r11
                    have u0 := bkeeps hbq _ _ u0
                    have u1 := bkeeps hbq _ _ u1
                    have u2 := bkeeps hbq _ _ u2
                    have u3 := bkeeps hbq _ _ u3
                    have s1 := bkeeps hbq _ _ s1
                    have t1 := bkeeps hbq _ _ t1
                    have g1 := bkeeps hbq _ _ g1
                    have g2 := bkeeps hbq _ _ g2
                    have g3 := bkeeps hbq _ _ g3
                    have g4 := bkeeps hbq _ _ g4
                    have r0 := cell_regrown u0
                    have r1 := cell_regrown u1
                    have r2 := cell_regrown u2
                    have r3 := cell_regrown u3
                    have r5 := cell_regrown s1
                    have r7 := cell_regrown t1
                    have r8 := cell_regrown g1
                    have r9 := cell_regrown g2
                    have r10 := cell_regrown g3
                    have r11 := cell_regrown g4
                    have hb2 := Lib.hid hbq
                    clear hbq
                    go_wp2_with fail
                    refine wp_region_quiet_below (by kernel_rfl) (by kernel_rfl) ?_
                    repeat (quiet_step (exact Calls.regrown_of (IH _ _ _ _ (Hho0.out.below (bstep (bstep Hhw.out hb2.out) (below_regrown _ _ _))) ((Hh3.out.below hb2.out).below (below_regrown _ _ _)) ((Hh4.out.below hb2.out).below (below_regrown _ _ _)))))
                    refine wpQuiet_nil ?_
                    intro _ hw'
                    obtain ⟨⟨dq, osq⟩, hw''⟩ := hw'
                    subst hw''
                    have hbq := below_regrown wq dq osq
                    generalize grow (redrawn wq dq) osq = wq at hbq ⊢
                    go_wp2_with fail
                    go_ret
                    exact ⟨rbool (by rw [HV.out, Hhx.out, Hq5.out, if_neg (by rw [Hhz.out]; simp)]), bstep (bstep Hhw.out hb2.out) hbq⟩
                · have Q := Lib.hid (o.aboveL_long l q k hlt (by omega))
                  have hll : q.length < l.length := by omega
                  have Hhw := Lib.hid hw
                  have Hhx := Lib.hid hx
                  clear hw hx
                  clear IHH hl hq
                  go_wp2_with fail
                  go_ret
                  exact ⟨rbool (by rw [HV.out, Hhx.out, Q.out] <;> simp <;> omega), Hhw.out⟩
              · obtain rfl : k = l.length := by omega
                have Q := Lib.hid (o.aboveL_end l q)
                have Hhw := Lib.hid hw
                have Hhx := Lib.hid hx
                clear hw hx
                clear IHH hl hq
                go_wp2_with fail
                go_ret
                exact ⟨rbool (by rw [HV.out, Hhx.out, Q.out] <;> simp <;> omega), Hhw.out⟩
          · have HV := Lib.hid (show ab = decide (o.rank g < o.rank f) by rw [HE.out, if_neg h0, if_neg k0, if_pos (by simpa using hfg)])
            have hfgb : (f != g) = true := by simpa using hfg
            obtain ⟨b5, o5, rfl, g5, _⟩ := p1.at_ Hhw.out f.toNat (by omega)
            obtain ⟨b6, o6, e6, g6, _⟩ := p1.at_ Hhw.out g.toNat (by omega)
            simp only [Option.some.injEq, Addr.mk.injEq, and_true] at e6
            obtain ⟨rfl, rfl⟩ := e6
            have R1 : o.rank f = o.prec[f.toNat]'(by omega) := by unfold Od.rank; simp [List.getD, show f.toNat < o.prec.length by omega]
            have R2 : o.rank g = o.prec[g.toNat]'(by omega) := by unfold Od.rank; simp [List.getD, show g.toNat < o.prec.length by omega]
            generalize o.prec[f.toNat]'(by omega) = pf at *
            generalize o.prec[g.toNat]'(by omega) = pg at *
            have r0 := cell_regrown u1
            have r1 := cell_regrown s0
            have r2 := cell_regrown t0
            have r3 := cell_regrown g5
            have r4 := cell_regrown g6
            have HR1 := Lib.hid R1
            have HR2 := Lib.hid R2
            clear R1 R2
            clear HKS HKT IHH hl hq p1 p2 A hfg HE
            go_wp2_with fail
            refine wp_region_quiet_below (by kernel_rfl) (by kernel_rfl) ?_
            repeat (quiet_step (fail))
            refine wpQuiet_nil ?_
            intro _ hw'
            obtain ⟨⟨dq, osq⟩, hw''⟩ := hw'
            subst hw''
            have hbq := below_regrown wq dq osq
            generalize grow (redrawn wq dq) osq = wq at hbq ⊢
            go_wp2_with fail
            go_ret
            exact ⟨rbool (by rw [HV.out, HR1.out, HR2.out]), bstep Hhw.out hbq⟩
    · have hne : (x != y) = true := by simpa using hxy
      have HX := Lib.hid hxy
      clear hxy
      go_wp2_with fail
      go_ret
      exact ⟨rbool (by rw [HE.out]; have := HX.out; simp [this]), Hhw.out⟩

end Go.Proofs.Ytjkpecjlpgcalaa
