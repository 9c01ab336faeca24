/- The walk through the places of a term. -/
import Derived.Test.YtjkpecjlpgcalaaPut
import Derived.Test.YtjkpecjlpgcalaaPlacesMem
namespace Go.Proofs.Ytjkpecjlpgcalaa
open Go.RowKit Go.Sort Go


theorem natV_one (l : List Nat) : ∀ u ∈ l.map natV, u.oneCell' = true := by
  intro u hu
  obtain ⟨n, _, rfl⟩ := List.mem_map.1 hu
  rfl

/-- Where a walk stops ahead of an append. -/
theorem stop_app {P : Program} {ops : Array Oper} {rest : List Oper} {Q : Exit → Act → World → Prop} {a : Act} {w : World} {d : Option Tmp} {args : Array Operand} {tys : Array TypeId} {ty : TypeId} {ps : String} {af : Array Edge} {gd : Option (Nat × Bool)}
    (h : Stop (wpList P ops Q (⟨d, .call { callee := .builtin .append, args := args, argTypes := tys }, ty, ps, af, gd⟩ :: rest) a w)) : wpList P ops Q (⟨d, .call { callee := .builtin .append, args := args, argTypes := tys }, ty, ps, af, gd⟩ :: rest) a w := h.out

section
variable {B : Nat} {w0 w : World} {y0 y1 : Value} {L Q : List Pl1} {path : List Nat} {rv iv pv : Value}

theorem wpList_appP {ops : Array Oper} {rest : List Oper} {o : Oper} {a : Act} {K : Exit → Act → World → Prop} {x y : Operand} {g k : Nat} (hgd : o.guard = none) (ho : o.op = .call { callee := .builtin .append, args := #[x, y], argTypes := #[43, 43] })
    (hx : a.eval x = pv) (hy : a.eval y = .slice (some ⟨g, 0, none⟩) 1 1) (hB : Blk w g 3 #[natV k]) (h : Pl B w0 y0 y1 L Q path w rv iv pv) (hlen : path.length ≤ 4294967295)
    (hK : ∀ pa pc w', Pl B w0 y0 y1 L Q (path ++ [k]) w' rv iv (.slice pa (path.length + 1) pc) → wpList Try.prog ops K rest (a.put o.dst (.slice pa (path.length + 1) pc)) w') : wpList Try.prog ops K (o :: rest) a w := by
  have hint : (Try.prog.info? 3).map (fun i => (i.zero, i.size, i.bytes)) = some (some (.int .i64 0), 1, 8) := by kernel_rfl
  obtain ⟨i0, hi, hz0, hz1, hz2⟩ := info_parts hint
  have hN := h.arg.lt
  refine wpList_append_lies w hgd x y 43 ho (w0.heap.size + 1) 3 i0 (.int .i64 0) 1 8 Try.underlying43 hi hz0 hz1 hz2 rfl (by decide) pv path.length (path.map natV) hx h.p ⟨g, 0, none⟩ 1 1 [natV k] hy rfl (World.news_of_block hB) (natV_one [k]) (by omega) (by unfold maxLen; omega) (by omega) (by omega) _ rfl ?_
  intro g1 c1 w4 hown hgrow hat _
  exact hK _ _ _ (h.step hown hgrow hat)

theorem wpList_appL {ops : Array Oper} {rest : List Oper} {o : Oper} {a : Act} {K : Exit → Act → World → Prop} {x y : Operand} {g : Nat} {t : T} {u v : Value} (hgd : o.guard = none) (ho : o.op = .call { callee := .builtin .append, args := #[x, y], argTypes := #[41, 41] })
    (hx : a.eval x = rv) (hy : a.eval y = .slice (some ⟨g, 0, none⟩) 1 1) (hB : Blk w g 45 #[pv, u, v]) (h : Pl B w0 y0 y1 L Q path w rv iv pv) (ht : InT (Fp B (w0.heap.size + 1) rv pv) w t (.agg #[u, v])) (hpath : 0 < path.length) (hlen : L.length ≤ 4294967295) (hpv : pv.oneCell' = true)
    (hK : ∀ ra rc w', Pl B w0 y0 y1 (L ++ [(path, t)]) Q [] w' (.slice ra (L.length + 1) rc) iv (.slice none 0 0) → wpList Try.prog ops K rest (a.put o.dst (.slice ra (L.length + 1) rc)) w') : wpList Try.prog ops K (o :: rest) a w := by
  have hpl : (Try.prog.info? 45).map (fun i => (i.zero, i.size, i.bytes)) = some (some (.agg #[.slice none 0 0, .int .i64 0, .slice none 0 0]), 3, 56) := by kernel_rfl
  obtain ⟨j0, kj, kz0, kz1, kz2⟩ := info_parts hpl
  have hN := h.arg.lt
  obtain ⟨xs, h1, h2⟩ := h.rows
  have huv : u.oneCell' = true ∧ v.oneCell' = true := by
    obtain ⟨_, a', c', e, _⟩ := ht.form
    simp only [Value.agg.injEq, Array.mk.injEq, List.cons.injEq, and_true] at e
    obtain ⟨rfl, rfl⟩ := e
    exact ⟨rfl, rfl⟩
  refine wpList_append_lies w hgd x y 41 ho (w0.heap.size + 1) 45 j0 (.agg #[.slice none 0 0, .int .i64 0, .slice none 0 0]) 3 56 Try.underlying41 kj kz0 kz1 kz2 rfl (by decide) rv L.length xs hx h1 ⟨g, 0, none⟩ 1 1 [pv, u, v] hy rfl (World.news_of_block hB) (by simp [hpv, huv.1, huv.2]) (by omega) (by unfold maxLen; omega) (by omega) (by omega) _ rfl ?_
  intro g1 c1 w4 hown hgrow hat _
  exact hK _ _ _ (h.snoc h2 ht hpath hown hgrow hat)
end

set_option maxRecDepth 100000 in
set_option maxHeartbeats 8000000 in
theorem places_any (B : Nat) : ∀ (t : T) (w : World) (v : Value), t.size ≤ 4294967290 → InT (fun b => b < B) w t v → B ≤ w.heap.size →
    Calls Try.prog 18 #[v] w fun e w' => ∃ a c, e = .returned (.slice a t.places.length c) ∧ t.places.length ≤ c ∧ c ≤ maxLen ∧ InPls (New B w.heap.size) w' t.places a ∧ Below w.heap.size w w' := by
  intro t
  induction t using T.ind with
  | h f ar ih =>
    intro w v hmax hv hB
    obtain ⟨hf, at_, ct, rfl, hc, hm, hl⟩ := id hv
    have Hv := Lib.hid hv
    have hsz := T.size_eq (T.mk f ar)
    have hlen : ar.length ≤ 4294967290 := by
      have h2 := len_sizeL ar
      simp at hsz; omega
    have Hsz := Lib.hid hsz
    have Hmax := Lib.hid hmax
    unfold maxLen at hm
    clear hv hsz hmax
    go_enter Try.func18, Try.ntmps18
    go_wp2_with fail
    refine (copy_any B (.mk f ar) _ _ (by have := Hmax.out; omega) (Hv.out.below (balloc _ _)) (by simp; omega)).mono ?_
    rintro e w1 ⟨cv, rfl, hcv, hb1⟩
    obtain ⟨_, ca, cc, rfl, _, _, _⟩ := id hcv.form
    have hB1 : Blk w1 w.heap.size 27 #[.int .i64 f, .slice at_ ar.length ct] := (Blk.new' rfl).below hb1
    have hw1 := bstep (balloc _ _) hb1
    have hsz1 := hb1.size
    have k0 := hB1.cell 0
    have k1 := hB1.cell 1
    simp only [List.getElem?_toArray, List.getElem?_cons_zero, List.getElem?_cons_succ] at k0 k1
    have Hhcv := Lib.hid hcv
    have HhB1 := Lib.hid hB1
    have Hhw1 := Lib.hid hw1
    have Hhsz1 := Lib.hid hsz1
    clear hcv hB1 hw1 hsz1
    clear hb1
    go_wp2_with fail
    go_loopw [3, 4, 5, 6, 7, 8] (fun lv nv _ _ _ _ wr => ∃ (n : Nat), n ≤ ar.length ∧ nv = .int .i64 n ∧ Hid (Pl B w (.int .i64 f) (.slice at_ ar.length ct) (([], .mk f ar) :: T.placesL 0 (ar.take n)) [] [] wr lv (.slice none 0 0) (.slice none 0 0)) ∧ Hid (∃ a m c, lv = .slice a m c)) (fun _ nv _ _ _ _ _ => ar.length - (intOf nv).toNat)
    case atStart =>
      have hs := Hhsz1.out
      simp at hs
      refine ⟨0, Nat.zero_le _, rfl, Pl.start hB (bstep Hhw1.out (balloc _ _)) (HhB1.out.alloc _) (by omega) (Blk.new' rfl) ?_, ⟨_, _, _, rfl⟩⟩
      refine InT.below (balloc _ _) ((Hhcv.out.mono fun b hb hlt => ⟨hb.imp id (fun h => by simpa using h), by omega⟩))
    case round =>
      clear k0 k1 Hhcv HhB1 Hhw1 Hhsz1
      obtain ⟨n, hn, rfl, HP, hsh⟩ := hrel
      have k0 := HP.out.arg.cell 0
      have k1 := HP.out.arg.cell 1
      simp only [List.getElem?_toArray, List.getElem?_cons_zero, List.getElem?_cons_succ] at k0 k1
      by_cases hlt : n < ar.length
      · obtain ⟨bt, ot, u, x, rfl, hS, g0, g1, gt⟩ := hl.at_ n hlt
        have Hgt := Lib.hid gt
        have HS := Lib.hid hS
        have g0 := (HP.out.below.cell (show (⟨bt, ot + n * 2, none⟩ : Addr).block < w.heap.size from Nat.lt_of_lt_of_le hS hB)).trans g0
        have g1 := (HP.out.below.cell (show (⟨bt, ot + n * 2 + 1, none⟩ : Addr).block < w.heap.size from Nat.lt_of_lt_of_le hS hB)).trans g1
        have z0 : (0 : Int) ≤ (n : Int) := by omega
        have z1 : (n : Int) < (ar.length : Int) := by omega
        have hsn : ar[n].size ≤ 4294967290 ∧ (T.places ar[n]).length ≤ 4294967290 ∧ (T.placesL 0 (ar.take n)).length + (T.places ar[n]).length + 1 ≤ 4294967290 := by
          have h1 := Hsz.out
          have h2 := T.sizeL_take_succ ar n hlt
          have h3 := T.sizeL_take_le ar (n + 1)
          have h4 := Hmax.out
          rw [T.places_size, T.placesL_size]
          simp only [T.args_mk] at h1
          omega
        obtain ⟨Q, hQ⟩ : ∃ Q, Q = T.places ar[n] := ⟨_, rfl⟩
        obtain ⟨L, hL⟩ : ∃ L, L = (([], .mk f ar) :: T.placesL 0 (ar.take n) : List Pl1) := ⟨_, rfl⟩
        have hbound : L.length + Q.length ≤ 4294967290 ∧ ∀ x ∈ Q, x.1.length ≤ 4294967290 := by
          refine ⟨by rw [hL, hQ]; simp only [List.length_cons]; omega, fun x hx => ?_⟩
          rw [hQ] at hx
          exact Nat.le_trans (T.places_len _ x hx) hsn.1
        have HB2 := Lib.hid hbound
        have HQ := Lib.hid hQ
        have HL := Lib.hid hL
        rw [← hL] at HP
        have RC := fun (W : World) (h1 : InT (fun b => b < B) W ar[n] (.agg #[u, x])) (h2 : B ≤ W.heap.size) => ih ar[n] (List.getElem_mem hlt) W (.agg #[u, x]) hsn.1 h1 h2
        rw [← hQ] at RC
        clear ih hS gt hsn hbound hQ hL
        go_wp2_with fail
        refine (RC _ (Hgt.out.old HP.out.below hB) (Nat.le_trans hB HP.out.below.size)).mono ?_
        rintro e w2 ⟨qa, qc, rfl, hq1, hq2, hq3, hb2⟩
        have HP2 := Lib.hid (HP.out.call hb2 hq1 hq2 hq3)
        have g0 := bkeeps hb2 _ _ g0
        have g1 := bkeeps hb2 _ _ g1
        clear RC hb2 hq3 HP k0 k1
        unfold maxLen at hq2
        have Hq12 := Lib.hid (And.intro hq1 hq2)
        have Hsh := hsh
        clear hsh
        go_wp2_with fail
        go_loopw [3, 6, 7, 8] (fun lv kv _ _ wr => ∃ (m : Nat), m ≤ Q.length ∧ kv = .int .i64 m ∧ Hid (Pl B w (.int .i64 f) (.slice (some ⟨bt, ot, none⟩) ar.length ct) (L ++ (Q.take m).map (fun x => (n :: x.1, x.2))) Q [] wr lv (.slice qa Q.length qc) (.slice none 0 0)) ∧ Hid (∃ a m c, lv = .slice a m c)) (fun _ kv _ _ _ => Q.length - (intOf kv).toNat)
        case atStart => exact ⟨0, Nat.zero_le _, rfl, by rw [List.take_zero, List.map_nil, List.append_nil]; exact HP2.out, Hsh.out⟩
        case round =>
          clear HP2 Hsh
          obtain ⟨m, hm2, rfl, HP, hsh⟩ := hrel
          by_cases hmt : m < Q.length
          · obtain ⟨b2, o2, q, xu, xv, rfl, c0, c1, c2, hp1, ht1⟩ := HP.out.at_ m hmt
            have HP3 := Lib.hid (HP.out.begin (i := n))
            obtain ⟨L2, hL2⟩ : ∃ L2, L2 = L ++ (Q.take m).map (fun x => (n :: x.1, x.2)) := ⟨_, rfl⟩
            rw [← hL2] at HP3
            have HL2 := Lib.hid hL2
            have Hsh := hsh
            obtain ⟨path, tt, hqm⟩ : ∃ path tt, Q[m] = (path, tt) := ⟨_, _, rfl⟩
            have Hqm := Lib.hid hqm
            have hpl : path.length ≤ 4294967290 := by
              have := HB2.out.2 _ (List.getElem_mem hmt)
              rw [hqm] at this
              exact this
            clear c0 c1 c2 hp1 ht1 HP hL2 hsh hqm
            go_wp2_with fail
            go_loopw [7, 8] (fun pv jv wr3 => ∃ (j : Nat), j ≤ path.length ∧ jv = .int .i64 j ∧ Hid (Pl B w (.int .i64 f) (.slice (some ⟨bt, ot, none⟩) ar.length ct) L2 Q (n :: path.take j) wr3 u3 (.slice (some ⟨b2, o2, none⟩) Q.length qc) pv) ∧ Hid (∃ a m c, pv = .slice a m c)) (fun _ jv _ => path.length - (intOf jv).toNat)
            case atStart => exact ⟨0, Nat.zero_le _, rfl, by rw [List.take_zero]; exact HP3.out, ⟨_, _, _, rfl⟩⟩
            case round =>
              clear HP3
              obtain ⟨j, hj, rfl, HP, hpsh⟩ := hrel
              obtain ⟨b3, o3, q3, xu, xv, e3, c0, c1, c2, hp1, ht1⟩ := HP.out.at_ m hmt
              simp only [Option.some.injEq, Addr.mk.injEq, and_true] at e3
              obtain ⟨rfl, rfl⟩ := e3
              rw [Hqm.out] at hp1 ht1
              simp only at hp1 ht1
              obtain ⟨pa, pc, rfl, hpc1, hpc2, hcell⟩ := hp1
              unfold maxLen at hpc2
              obtain ⟨_, ua, uc, huv, _, _, _⟩ := id ht1.form
              simp only [Value.agg.injEq, Array.mk.injEq, List.cons.injEq, and_true] at huv
              obtain ⟨rfl, rfl⟩ := huv
              obtain ⟨pva, pvn, pvc, rfl⟩ := hpsh.out
              have z2 : (0 : Int) ≤ (m : Int) := by omega
              have z3 : (m : Int) < (Q.length : Int) := by omega
              have Ht1 := Lib.hid ht1
              have hq2 := Hq12.out.2
              clear ht1
              by_cases hjt : j < path.length
              · obtain ⟨bp, op, rfl, hSp, gx⟩ := hcell j hjt
                have z4 : (0 : Int) ≤ (j : Int) := by omega
                have z5 : (j : Int) < (path.length : Int) := by omega
                clear hcell
                have Hgx := Lib.hid gx
                unfold natV at gx
                have hpc : (n :: path.take j).length ≤ 4294967295 := by simp; omega
                go_wp2_with (with_reducible refine stop_app ?_)
                refine Stop.mk ?_
                refine wpList_appP rfl rfl rfl rfl (Blk.new' rfl) (HP.out.below_ (balloc _ _)) hpc ?_
                intro pa2 pc2 w4 HP5
                rw [show (n :: path.take j).length = j + 1 by simp; omega] at HP5
                have HHP5 := Lib.hid HP5
                clear HP5
                clear HP hpsh hpc c0 c1 c2 gx hSp
                go_wp2_with fail
                go_roundw
                case rel => exact ⟨j + 1, by omega, by go_num, by rw [List.take_succ_eq_append_getElem hjt]; exact HHP5.out, ⟨_, _, _, rfl⟩⟩
                case measure => simp [intOf]; omega
              · clear hcell
                have hjl : path.take j = path := by rw [show j = path.length by omega, List.take_length]
                rw [hjl] at HP
                have hlen : L2.length ≤ 4294967295 := by have := HB2.out.1; rw [HL2.out]; simp; omega
                go_wp2_with (with_reducible refine stop_app ?_)
                refine Stop.mk ?_
                refine wpList_appL rfl rfl rfl rfl (Blk.new' rfl) (HP.out.below_ (balloc _ _)) (Ht1.out.below (balloc _ _)) (by simp) hlen rfl ?_
                intro ra2 rc2 w4 HP5
                have HHP5 := Lib.hid HP5
                clear HP5
                clear HP hpsh Hsh hlen c0 c1 c2 Ht1
                go_wp2_with fail
                go_roundw
                case rel =>
                  refine ⟨m + 1, by omega, by go_num, ?_, ⟨_, _, _, rfl⟩⟩
                  rw [List.take_succ_eq_append_getElem hmt, List.map_append, Hqm.out]
                  have e : L ++ ((Q.take m).map (fun x => (n :: x.1, x.2)) ++ [(path, tt)].map (fun x => (n :: x.1, x.2))) = L2 ++ [(n :: path, tt)] := by rw [HL2.out, List.append_assoc]; rfl
                  rw [e]
                  exact HHP5.out
                case measure => simp [intOf]; omega
          · have HD := Lib.hid HP.out.drop
            have he : L ++ (Q.take m).map (fun x => (n :: x.1, x.2)) = (([], .mk f ar) :: T.placesL 0 (ar.take (n + 1)) : List Pl1) := by
              rw [show m = Q.length by omega, List.take_length, HL.out, HQ.out, List.take_succ_eq_append_getElem hlt, T.placesL_append]
              simp only [List.cons_append, T.placesL, List.append_nil, List.length_take, Nat.zero_add]
              rw [Nat.min_eq_left (by omega)]
            rw [he] at HD
            clear HP he
            go_wp2_with fail
            go_roundw
            case rel => exact ⟨n + 1, by omega, by go_num, HD.out, hsh.out⟩
            case measure => simp [intOf]; omega
      · have HV := Lib.hid (show T.places (.mk f ar) = ([], .mk f ar) :: T.placesL 0 (ar.take n) by rw [show n = ar.length by omega, List.take_length, T.places])
        obtain ⟨ra, rn, rc, rfl⟩ := hsh.out
        go_wp2_with fail
        go_ret
        obtain ⟨a', c', e, h1, h2, h3⟩ := HP.out.value (by simp)
        rw [HV.out]
        exact ⟨a', c', by rw [e]; rfl, h1, h2, h3, HP.out.below⟩

end Go.Proofs.Ytjkpecjlpgcalaa
