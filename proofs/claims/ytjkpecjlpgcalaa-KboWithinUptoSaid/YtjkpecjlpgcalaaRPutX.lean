/- A copy of a term: its row is its own. -/
import Derived.Test.YtjkpecjlpgcalaaPut
import Derived.Test.YtjkpecjlpgcalaaPair
import Derived.Test.YtjkpecjlpgcalaaPlacesMem
namespace Go.Proofs.Ytjkpecjlpgcalaa
open Go.RowKit Go.Sort Go

theorem oR_mono {w : World} {base base' : Nat} {e : TypeId} {size : Nat} {v : Value} {n : Nat} {xs : List Value} (h : w.ownsRow base e size v n xs) (hb : base' ≤ base) : w.ownsRow base' e size v n xs := by
  refine ⟨h.1, h.2.imp id ?_⟩
  rintro ⟨g, cap, cur, e1, e2, r⟩
  exact ⟨g, cap, cur, e1, Nat.le_trans hb e2, r⟩

theorem Grow.rows_far {B : Nat} {w0 w : World} {y0 y1 : Value} {f : Int} {ts : List T} {r u0 u1 : Value} (h : Grow B w0 y0 y1 f ts w r r) :
    ∃ xs, ((w.setCell ⟨w0.heap.size + 1, 0, none⟩ u0).setCell ⟨w0.heap.size + 1, 1, none⟩ u1).ownsRow w0.heap.size 27 2 r ts.length xs ∧ Elems (Own B w0.heap.size r) ((w.setCell ⟨w0.heap.size + 1, 0, none⟩ u0).setCell ⟨w0.heap.size + 1, 1, none⟩ u1) ts xs := by
  obtain ⟨xs, h1, h2⟩ := h.rows
  have G := (gsetc w ⟨w0.heap.size + 1, 0, none⟩ u0).trans (gsetc (w.setCell ⟨w0.heap.size + 1, 0, none⟩ u0) ⟨w0.heap.size + 1, 1, none⟩ u1)
  have hle := h.le
  refine ⟨xs, oR_mono (h1.kept G (.inr fun e => ?_)) (by omega), Elems.mono (S := Own B (w0.heap.size + 3) r) (fun b hb _ => ⟨hb.1.imp id (fun h => by omega), hb.2⟩) (h2.keep fun p x hp hx => G.cell hx (fun e => ?_))⟩
  · have := h1.lt _ e; simp at this
  · have hp := hp.1
    simp only [Option.some.injEq] at e
    rw [e] at hp
    simp at hp
    omega

def copySp2 (w : World) (bt ot ct k : Nat) (ar : List T) (rv u x : Value) : List (Bool × Value) := [(true, .pointer (some ⟨(w.heap.size + 2), 1, none⟩)), (true, rv), (true, .pointer (some ⟨w.heap.size, 1, none⟩)), (true, .slice (some ⟨bt, ot, none⟩) ar.length ct), (true, .int .i64 k), (true, .pointer (some ⟨bt, ot + k * 2, none⟩)), (true, (.agg #[u, x])), (true, undef), (true, undef), (true, undef), (true, .pointer (some ⟨(w.heap.size + 2), 1, none⟩)), (true, undef)]

set_option maxHeartbeats 2000000 in
theorem copy_own (B : Nat) (t : T) (w : World) (v : Value) (hmax : t.size ≤ 4294967296) (hv : InT (fun b => b < B) w t v) (hB : B ≤ w.heap.size) :
    Calls Try.prog 34 #[v] w fun e w' => ∃ r, e = .returned (.agg #[.int .i64 t.f, r]) ∧ ((∃ xs, w'.ownsRow w.heap.size 27 2 r t.args.length xs ∧ Elems (Own B w.heap.size r) w' t.args xs) ∧ Below w.heap.size w w') := by
  cases t with
  | mk f ar =>
    obtain ⟨hf, at_, ct, rfl, hc, hm, hl⟩ := hv
    have hlen : ar.length ≤ 4294967295 := by
      have := T.size_eq (T.mk f ar)
      have h2 := len_sizeL ar
      simp at this; omega
    unfold maxLen at hm
    go_enter Try.func34, Try.ntmps34
    go_wp2_with (refine stop_region ?_)
    go_loopw [4] (fun i wr => ∃ (k : Nat) (rv : Value), k ≤ ar.length ∧ i = .int .i64 k ∧ Hid (Grow B w (.int .i64 f) (.slice at_ ar.length ct) f (ar.take k) wr rv rv) ∧ Hid (∃ a n c, rv = .slice a n c)) (fun i _ => ar.length - (intOf i).toNat)
    case atStart =>
      exact ⟨0, .slice none 0 0, Nat.zero_le _, rfl, .start3 hB, ⟨_, _, _, rfl⟩⟩
    case round =>
      obtain ⟨k, rv, hk, rfl, HG, hsh⟩ := hrel
      have k0 := HG.out.arg.cell 0
      have k1 := HG.out.arg.cell 1
      simp only [List.getElem?_toArray, List.getElem?_cons_zero, List.getElem?_cons_succ] at k0 k1
      by_cases hlt : k < ar.length
      · obtain ⟨bt, ot, u, x, rfl, hS, g0, g1, gt⟩ := hl.at_ k hlt
        have RC := Lib.hid (fun (w : World) => copy_any B ar[k] w (.agg #[u, x]) (by have := T.size_eq (T.mk f ar); have := T.size_le_sizeL (List.getElem_mem hlt); simp at *; omega))
        have HS := Lib.hid hS
        have Hlt := Lib.hid hlt
        have Hmax := Lib.hid hlen
        have HR := Lib.hid (show ∀ b, rv.ownBlock = some b → b < wr.heap.size from fun b hb => by obtain ⟨xs, h1, _⟩ := HG.out.rows; exact (h1.lt b hb).2)
        have HN := Lib.hid (show w.heap.size + 3 ≤ wr.heap.size from HG.out.out.lt)
        have z1 : (k : Int) < (ar.length : Int) := by omega
        have Hg0 := Lib.hid g0
        have Hg1 := Lib.hid g1
        have Hgt := Lib.hid gt
        clear g0 g1 gt
        clear hS hlen
        go_wp2_with (refine stop_region ?_)
        refine Stop.mk ?_
        refine wp_region_chain [7, 8, 9, 11] (optP (copySp2 w bt ot ct k ar rv u x)) (GrowG B w wr (.int .i64 f) (.slice (some ⟨bt, ot, none⟩) ar.length ct) f (ar.take k) rv (ar[k])) [false, false, false, false, false, false, false, false, false, false, false, false, false, false, false, true, true, true, true, true, true, true, true, true, true, true, false] (by kernel_rfl) (by kernel_rfl) (by kernel_rfl) (by decide) (by kernel_rfl) (by kernel_rfl) (⟨rfl, HG.out.drew⟩) ?_ ?_
        · refine ⟨.inl ⟨by decide, true, .none rfl, fun h => optUndef h, fun hβ fx wx vs C => ?_⟩, ?_⟩
          · exact wp_fld_apiTerm_1 rfl ((rel_eval (by kernel_rfl)).trans (show fx 3 = .pointer (some ⟨(w.heap.size + 2), 0, none⟩) from C.keep 3 (by kernel_rfl))) ⟨_, rfl, rfl, optDef hβ rfl⟩
          refine ⟨.inl ⟨by decide, true, .none rfl, fun h => optUndef h, fun hβ fx wx vs C => ?_⟩, ?_⟩
          · exact wp_ld_LapiTerm rfl ((rel_eval (by kernel_rfl)).trans (optPVal (x := .pointer (some ⟨(w.heap.size + 2), 1, none⟩)) (β := true) (C.dep 0 15 (by kernel_rfl) (by decide)) rfl rfl)) (C.now.out (Nat.le_trans (C.most 2 9 rfl (by kernel_rfl)) (by decide))) ⟨_, rfl, rfl, optDef hβ rfl⟩
          refine ⟨.inl ⟨by decide, true, .none rfl, fun h => optUndef h, fun hβ fx wx vs C => ?_⟩, ?_⟩
          · exact wp_fld_apiTerm_1 rfl ((rel_eval (by kernel_rfl)).trans (show fx 1 = .pointer (some ⟨w.heap.size, 0, none⟩) from C.keep 1 (by kernel_rfl))) ⟨_, rfl, rfl, optDef hβ rfl⟩
          refine ⟨.inl ⟨by decide, true, .none rfl, fun h => optUndef h, fun hβ fx wx vs C => ?_⟩, ?_⟩
          · exact wp_ld_LapiTerm rfl ((rel_eval (by kernel_rfl)).trans (optPVal (x := .pointer (some ⟨w.heap.size, 1, none⟩)) (β := true) (C.dep 2 17 (by kernel_rfl) (by decide)) rfl rfl)) (C.now.arg.2) ⟨_, rfl, rfl, optDef hβ rfl⟩
          refine ⟨.inl ⟨by decide, true, .none rfl, fun h => optUndef h, fun hβ fx wx vs C => ?_⟩, ?_⟩
          · exact wp_move rfl ((rel_eval (by kernel_rfl)).trans (show fx 4 = .int .i64 k from C.keep 4 (by kernel_rfl))) ⟨_, rfl, rfl, optDef hβ rfl⟩
          refine ⟨.inl ⟨by decide, true, .none rfl, fun h => optUndef h, fun hβ fx wx vs C => ?_⟩, ?_⟩
          · exact wp_ix_LapiTerm rfl ((rel_eval (by kernel_rfl)).trans (optPVal (x := .slice (some ⟨bt, ot, none⟩) ar.length ct) (β := true) (C.dep 3 18 (by kernel_rfl) (by decide)) rfl rfl)) ((rel_eval (by kernel_rfl)).trans (optPVal (x := .int .i64 k) (β := true) (C.dep 4 19 (by kernel_rfl) (by decide)) rfl rfl)) (Hlt.out) ⟨_, rfl, rfl, optDef hβ rfl⟩
          refine ⟨.inl ⟨by decide, true, .none rfl, fun h => optUndef h, fun hβ fx wx vs C => ?_⟩, ?_⟩
          · exact wp_ld_apiTerm rfl ((rel_eval (by kernel_rfl)).trans (optPVal (x := .pointer (some ⟨bt, ot + k * 2, none⟩)) (β := true) (C.dep 5 20 (by kernel_rfl) (by decide)) rfl rfl)) (C.now.old HS.out Hg0.out) (C.now.old HS.out Hg1.out) ⟨_, rfl, rfl, optDef hβ rfl⟩
          refine ⟨.inr ⟨0, rfl, rfl, fun fx wx vs C hlen => ?_⟩, ?_⟩
          · obtain ⟨rfl⟩ := vs_eq0 hlen
            exact wp_call (by kernel_rfl) rfl (hv1 ((rel_eval (by kernel_rfl)).trans (optPVal (x := (.agg #[u, x])) (β := true) (C.dep 6 21 (by kernel_rfl) (by decide)) rfl rfl))) (RC.out _ (C.now.oldT Hgt.out) C.now.size) (fun v w' h => ⟨v, rfl, C.now.call h.1 h.2⟩)
          refine ⟨.inr ⟨1, rfl, rfl, fun fx wx vs C hlen => ?_⟩, ?_⟩
          · obtain ⟨v0, rfl⟩ := vs_eq1 hlen
            exact wp_rowT rfl ((rel_eval (by kernel_rfl)).trans (Option.some.inj (C.link 0 7 22 rfl (by kernel_rfl))).symm) (C.now.inT) (fun u y h1 h2 h3 => ⟨_, rfl, C.now.row h1 h2 h3⟩)
          refine ⟨.inr ⟨2, rfl, rfl, fun fx wx vs C hlen => ?_⟩, ?_⟩
          · obtain ⟨v0, v1, rfl⟩ := vs_eq2 hlen
            exact wp_appendT rfl ((rel_eval (by kernel_rfl)).trans (optPVal (x := rv) (β := true) (C.dep 1 16 (by kernel_rfl) (by decide)) rfl rfl)) ((rel_eval (by kernel_rfl)).trans (Option.some.inj (C.link 1 8 23 rfl (by kernel_rfl))).symm) (by have := Hmax.out; simp; omega) C.now HR.out HN.out (fun r w' h => ⟨_, rfl, h⟩)
          refine ⟨.inl ⟨by decide, true, .none rfl, fun h => optUndef h, fun hβ fx wx vs C => ?_⟩, ?_⟩
          · exact wp_fld_apiTerm_1 rfl ((rel_eval (by kernel_rfl)).trans (show fx 3 = .pointer (some ⟨(w.heap.size + 2), 0, none⟩) from C.keep 3 (by kernel_rfl))) ⟨_, rfl, rfl, optDef hβ rfl⟩
          refine ⟨.inr ⟨3, rfl, rfl, fun fx wx vs C hlen => ?_⟩, ?_⟩
          · obtain ⟨v0, v1, v2, rfl⟩ := vs_eq3 hlen
            obtain ⟨hq, ra, rn, rc, hr⟩ := C.now.three
            subst hr
            exact wp_storeT rfl ((rel_eval (by kernel_rfl)).trans (optPVal (x := .pointer (some ⟨(w.heap.size + 2), 1, none⟩)) (β := true) (C.dep 10 25 (by kernel_rfl) (by decide)) rfl rfl)) ((rel_eval (by kernel_rfl)).trans (Option.some.inj (C.link 2 9 24 rfl (by kernel_rfl))).symm) (hq.out.cell 1) (hq.out.frozen 1) (fun v => ⟨v, rfl, C.now.store⟩)
          exact trivial
        intro ux w3 vs hlen hG hu hch
        obtain ⟨v0, v1, v2, v3, rfl⟩ := vs_eq4 hlen
        obtain ⟨hG2, hsh2⟩ := hG.four
        have HhG2 := Lib.hid hG2
        have Hhsh2 := Lib.hid hsh2
        clear hG2 hsh2
        clear hG hu hch HG hsh k0 k1
        simp only [finM]
        go_wp2_with fail
        go_roundw
        case rel => exact ⟨k + 1, v2, by omega, by go_num, by rw [List.take_succ_eq_append_getElem hlt]; exact HhG2.out, Hhsh2.out⟩
        case measure => simp [intOf]; omega
      · obtain rfl : k = ar.length := by omega
        obtain ⟨ra, rn, rc, rfl⟩ := hsh.out
        have o0 := HG.out.out.cell 0
        have o1 := HG.out.out.cell 1
        obtain ⟨x0, x1, hr⟩ := HG.out.res
        have c0 := hr.cell 0
        have c1 := hr.cell 1
        have y0 := hr.frozen 0
        have y1 := hr.frozen 1
        simp only [List.getElem?_toArray, List.getElem?_cons_zero, List.getElem?_cons_succ] at o0 o1 c0 c1
        have Hhr := Lib.hid hr
        clear hr
        go_wp2_with fail
        refine bodyPost_ret (v := .agg #[.int .i64 f, .slice ra rn rc]) (by simp [results, Try.results34, go_sem, c0, c1]) rfl ?_
        have hrow := HG.out.rows_far (u0 := .int .i64 f) (u1 := .slice ra rn rc)
        rw [List.take_length] at hrow
        exact ⟨_, rfl, hrow, (HG.out.finish (u0 := .int .i64 f) (u1 := .slice ra rn rc) hf).2⟩

end Go.Proofs.Ytjkpecjlpgcalaa

/- A store of a term into a row that is the call's own. -/
namespace Go.Proofs.Ytjkpecjlpgcalaa
open Go.RowKit Go

def StoG (W : World) (g i : Nat) (y z : Value) : List (Option Value) → World → Prop
  | [none], w => w = W
  | _, w => w = (W.setCell ⟨g, 0 + i * 2, none⟩ y).setCell ⟨g, 0 + i * 2 + 1, none⟩ z

section
variable {W w : World} {g i : Nat} {y z : Value} {vs : List (Option Value)}
theorem StoG.none_of (_ : StoG W g i y z vs w) (hl : vs.length = 1) (h : vs[0]? = some none) : vs = [none] := by
  match vs, hl, h with
  | [none], _, _ => rfl
theorem StoG.reads (h : StoG W g i y z vs w) {q : Addr} {v : Value} (hq : q.block ≠ g ∧ W.cell? q = some v) : w.cell? q = some v := by
  have hs : ∀ (W : World) (i : Nat) (u : Value), W.cell? q = some v → (W.setCell ⟨g, i, none⟩ u).cell? q = some v := fun W i u h => (gsetc W ⟨g, i, none⟩ u).cell h (by simpa using hq.1)
  unfold StoG at h
  split at h
  · rw [h]; exact hq.2
  · rw [h]; exact hs _ _ _ (hs _ _ _ hq.2)

variable {av : Act} {K : Act → World → Prop} {Q : Exit → Act → World → Prop} {o : Oper}
theorem wp_storeAt {x q : Operand} {p : Nat} {f : Int} {ra : Option Addr} {rn rc : Nat} {cur : Array Value} (ho : o.op = .store 27 x q) (hx : av.eval x = .pointer (some ⟨g, p, none⟩)) (hy : av.eval q = .agg #[.int .i64 f, .slice ra rn rc]) (hB : Blk w g 27 cur) (hp : p + 1 < cur.size)
    (hK : ∀ v, K (av.put o.dst v) ((w.setCell ⟨g, p, none⟩ (.int .i64 f)).setCell ⟨g, p + 1, none⟩ (.slice ra rn rc))) : o.wp Try.prog av w K Q := by
  have h0 := hB.cell p
  have h1 := hB.cell (p + 1)
  have f0 := hB.frozen p
  have f1 := hB.frozen (p + 1)
  rw [Array.getElem?_eq_getElem (by omega)] at h0 h1
  unfold Oper.wp execOp
  simp only [ho, hx, hy]
  go_simp
  exact hK _

theorem Elems.set {S : Nat → Prop} {t : T} (ht : InT S w t (.agg #[y, z])) : ∀ {l : List T} {xs : List Value} (i : Nat), Elems S w l xs → i < l.length → Elems S w (l.set i t) ((xs.set (i * 2) y).set (i * 2 + 1) z)
  | _ :: _, _ :: _ :: _, 0, h, _ => ⟨ht, h.2⟩
  | _ :: _, _ :: _ :: _, i + 1, h, hi => by
    rw [show (i + 1) * 2 = i * 2 + 1 + 1 by omega]
    exact ⟨h.1, Elems.set ht i h.2 (by simpa using hi)⟩
  | [], [], _, _, hi => by simp at hi
  | [], _ :: _, _, h, _ => h.elim
  | _ :: _, [], _, h, _ => h.elim
  | _ :: _, [_], _, h, _ => h.elim

/-- The row with one term another one. -/
theorem row_stored {N B : Nat} {cap : Nat} {l : List T} {xs : List Value} {t : T} {fh : Int} (hf : I64 fh) (hN : B ≤ N) (hi : i < l.length) (h1 : w.ownsRow N 27 2 (.slice (some ⟨g, 0, none⟩) l.length cap) l.length xs) (h2 : Elems (Own B N (.slice (some ⟨g, 0, none⟩) l.length cap)) w l xs) (ht : InT (Own B N (.slice (some ⟨g, 0, none⟩) l.length cap)) w t (.agg #[y, z])) :
    InT (New B N) ((w.setCell ⟨g, 0 + i * 2, none⟩ y).setCell ⟨g, 0 + i * 2 + 1, none⟩ z) (.mk fh (l.set i t)) (.agg #[.int .i64 fh, .slice (some ⟨g, 0, none⟩) l.length cap]) := by
  obtain ⟨o1, g1⟩ := h1.stored (0 + i * 2) y
  obtain ⟨o2, g2⟩ := o1.stored (0 + i * 2 + 1) z
  have G := g1.trans g2
  have kk : ∀ (p : Addr) (v : Value), Own B N (.slice (some ⟨g, 0, none⟩) l.length cap) p.block → w.cell? p = some v → ((w.setCell ⟨g, 0 + i * 2, none⟩ y).setCell ⟨g, 0 + i * 2 + 1, none⟩ z).cell? p = some v := fun p v hp hv => G.cell hv (fun e => hp.2 (by simpa [Value.ownBlock] using e.symm))
  have hE := Elems.set (ht.keep kk) i (h2.keep kk) hi
  rcases h1.2 with ⟨_, h0⟩ | ⟨g', cap', cur, e, hg, _, hc, hm, _, _⟩
  · omega
  · simp only [Value.slice.injEq, Option.some.injEq, Addr.mk.injEq, and_true, true_and] at e
    obtain ⟨rfl, rfl⟩ := e
    refine ⟨hf, some ⟨g, 0, none⟩, cap, by simp, by simpa using hc, hm, ?_⟩
    refine InTs.mono (S := New B N) (fun b hb _ => hb) (Elems.row (.inr hg) (Elems.mono (fun b hb _ => hb.1) hE) (fun j u hj => ?_))
    have := o2.cells (g := g) rfl j u (by simpa using hj)
    have e : (⟨g, 0, none⟩ : Addr).add j = ⟨g, j, none⟩ := by unfold Addr.add; split <;> simp_all
    rw [e] at this
    simpa using this
end
end Go.Proofs.Ytjkpecjlpgcalaa

/- The walk through the document's Put: a term with another one at a place. -/
namespace Go.Proofs.Ytjkpecjlpgcalaa
open Go.RowKit Go.Sort Go

def rp3 (w : World) (bp op pc bt ot ct i : Nat) (p : List Nat) (ar : List T) : List (Bool × Sp) := [(true, .val (.slice (some ⟨bp, op, none⟩) (p.length + 1) pc)), (true, .val (.pointer (some ⟨bp, op, none⟩))), (true, .val (.int .i64 i)), (true, .val (.bool (decide ((i : Int) < (0 : Int))))), (true, .val (.bool (decide ((i : Int) < (0 : Int))))), ((true && !(decide ((i : Int) < (0 : Int)))), .val (.slice (some ⟨bp, op, none⟩) (p.length + 1) pc)), ((true && !(decide ((i : Int) < (0 : Int)))), .val (.pointer (some ⟨bp, op, none⟩))), ((true && !(decide ((i : Int) < (0 : Int)))), .val (.int .i64 i)), ((true && !(decide ((i : Int) < (0 : Int)))), .val (.pointer (some ⟨w.heap.size, 1, none⟩))), ((true && !(decide ((i : Int) < (0 : Int)))), .val (.slice (some ⟨bt, ot, none⟩) ar.length ct)), ((true && !(decide ((i : Int) < (0 : Int)))), .val (.int .i64 ar.length)), ((true && !(decide ((i : Int) < (0 : Int)))), .val (.bool (decide ((ar.length : Int) ≤ (i : Int))))), (true, .val (.bool ((decide ((i : Int) < (0 : Int))) || (decide ((ar.length : Int) ≤ (i : Int))))))]
def rp5 (w : World) (s : T) (as_ : Option Addr) (bp op pc bt ot ct i cs : Nat) (p : List Nat) (ar : List T) (u x : Value) : List (Bool × Value) := [(true, .pointer (some ⟨w.heap.size, 1, none⟩)), (true, .slice (some ⟨bt, ot, none⟩) ar.length ct), (true, .slice (some ⟨bp, op, none⟩) (p.length + 1) pc), (true, .pointer (some ⟨bp, op, none⟩)), (true, .int .i64 i), (true, .pointer (some ⟨bt, ot + i * 2, none⟩)), (true, (.agg #[u, x])), (true, .slice (some ⟨bp, op, none⟩) (p.length + 1) pc), (true, .slice (if pc = 1 then some ⟨bp, op, none⟩ else some ⟨bp, op + 1, none⟩) p.length (pc - 1)), (true, (.agg #[.int .i64 s.f, .slice as_ s.args.length cs])), (true, undef), (true, undef), (true, undef), (true, undef), (true, undef), (true, undef), (true, undef)]
def rp9 (w4 : World) (bp op pc i h8 gr cap : Nat) (p : List Nat) (ar : List T) (X : T) (xa : Option Addr) (xc : Nat) : List (Bool × Value) := [(true, .pointer (some ⟨w4.heap.size, 1, none⟩)), (true, .slice (some ⟨gr, 0, none⟩) ar.length cap), (true, .slice (some ⟨bp, op, none⟩) (p.length + 1) pc), (true, .pointer (some ⟨bp, op, none⟩)), (true, .int .i64 i), (true, (.agg #[.int .i64 X.f, .slice xa X.args.length xc])), (true, .pointer (some ⟨gr, 0 + i * 2, none⟩)), (true, undef)]

set_option maxRecDepth 100000 in
set_option maxHeartbeats 8000000 in
theorem rput_any (B : Nat) (s : T) (hs : s.size ≤ 4294967290) : ∀ (p : List Nat) (t : T) (w : World) (tv pv sv : Value), t.size ≤ 4294967290 → p.length ≤ 4294967290 → InT (fun b => b < B) w t tv → PIn (fun b => b < B) w p pv → InT (fun b => b < B) w s sv → B ≤ w.heap.size → Od.Within t p →
    Calls Try.prog 21 #[tv, pv, sv] w fun e w' => ∃ v', e = .returned (.tuple #[v', .bool true]) ∧ (InT (New B w.heap.size) w' (t.into p s) v' ∧ Below w.heap.size w w') := by
  intro p
  induction p with
  | nil =>
    intro t w tv pv sv ht _ hv hp hsv hB _
    have Hsv := Lib.hid hsv
    obtain ⟨_, at_, ct, rfl, _, _, _⟩ := hv.form
    obtain ⟨_, as_, cs, rfl, _, _, _⟩ := hsv.form
    obtain ⟨pa, pc, rfl, _, _, _⟩ := hp
    have CP := fun (W : World) (h : InT (fun b => b < B) W s (.agg #[.int .i64 s.f, .slice as_ s.args.length cs])) (h2 : B ≤ W.heap.size) => copy_any B s W _ (by omega) h h2
    clear hv hsv
    go_enter Try.func21, Try.ntmps21
    go_wp2_with fail
    refine (CP _ (Hsv.out.below (bstep (balloc2 _ _ _) (balloc _ _))) (by simp; omega)).mono ?_
    rintro e w1 ⟨cv, rfl, hcv, hb1⟩
    obtain ⟨B0, B1, B2, hw1⟩ := box3 hb1
    have hR : Blk w1 (w.heap.size + 2) 27 #[.int .i64 0, .slice none 0 0] := (Blk.new' (by simp)).below hb1
    have r0 := hR.cell 0
    have r1 := hR.cell 1
    have y0 := hR.frozen 0
    have y1 := hR.frozen 1
    simp only [List.getElem?_toArray, List.getElem?_cons_zero, List.getElem?_cons_succ] at r0 r1
    obtain ⟨_, ca, cc, rfl, _, _, _⟩ := id hcv.form
    have Hhcv := Lib.hid hcv
    have Hhw1 := Lib.hid hw1
    have HB0 := Lib.hid B0
    have HB1 := Lib.hid B1
    have HB2 := Lib.hid B2
    have HhR := Lib.hid hR
    clear hcv hw1 B0 B1 B2 hR
    clear hb1 CP
    go_wp2_with fail
    refine bodyPost_ret (v := .tuple #[.agg #[.int .i64 s.f, .slice ca s.args.length cc], .bool true]) (by simp [results, Try.results21, go_sem, r0, r1]) rfl ?_
    have e : t.into [] s = s := by cases t; rfl
    rw [e]
    have hn : ¬ New B (w.heap.size + 3) (w.heap.size + 2) := by unfold New; omega
    have hcv := Hhcv.out
    simp only [World.size_alloc] at hcv
    refine ⟨_, rfl, (InT.far2 hn hcv).mono (fun b hb _ => hb.imp id (fun h => by omega)), ?_⟩
    exact (Hhw1.out.setCell (p := ⟨w.heap.size + 2, 0, none⟩) (by simp) _).setCell (p := ⟨w.heap.size + 2, 1, none⟩) (by simp) _
  | cons i p ih =>
    intro t w tv pv sv ht hpl hv hp hsv hB hW
    obtain ⟨f, ar⟩ := t
    obtain ⟨hlt, hW⟩ := hW
    have Hsv := Lib.hid hsv
    have Hv := Lib.hid hv
    obtain ⟨hf, at_, ct, rfl, hct, hctm, hl⟩ := hv
    obtain ⟨_, as_, cs, rfl, _, _, _⟩ := hsv.form
    obtain ⟨pa, pc, rfl, hpc, hpm, hcells⟩ := hp
    obtain ⟨bp, op, e, hSp, gp⟩ := hcells 0 (by simp)
    subst e
    simp only [Nat.add_zero, List.getElem_cons_zero] at gp
    have htail : PIn (fun b => b < B) w p (.slice (if pc = 1 then some ⟨bp, op, none⟩ else some ⟨bp, op + 1, none⟩) p.length (pc - 1)) := by
      simp only [List.length_cons] at hpc
      refine ⟨_, _, rfl, by omega, by unfold maxLen at *; omega, fun j hj => ?_⟩
      obtain ⟨b, o, e, hb, hc⟩ := hcells (j + 1) (by simp; omega)
      simp only [Option.some.injEq, Addr.mk.injEq, and_true] at e
      obtain ⟨rfl, rfl⟩ := e
      refine ⟨bp, op + 1, by rw [if_neg (by omega)], hb, ?_⟩
      rw [show op + 1 + j = op + (j + 1) by omega]
      simpa using hc
    obtain ⟨bt, ot, u, x, rfl, hS, g0, g1, gt⟩ := hl.at_ i hlt
    have hsi : ar[i].size ≤ 4294967290 := by
      have := T.size_eq (T.mk f ar)
      have := T.size_le_sizeL (List.getElem_mem hlt)
      simp at *
      omega
    have Hpc := Lib.hid (show p.length + 1 ≤ pc ∧ pc ≤ 9223372036854775807 from ⟨by simpa using hpc, by unfold maxLen at hpm; omega⟩)
    have Hmax := Lib.hid ht
    have HB := Lib.hid hB
    have Hpl : p.length ≤ 4294967290 := by simp at hpl; omega
    clear hsv hcells hpl
    unfold maxLen at hctm hpm
    simp only [List.length_cons] at hpc ⊢
    go_enter Try.func21, Try.ntmps21
    go_wp2_with (with_reducible refine stop_region ?_)
    have hR : Blk (((w.alloc (.cells #[.int .i64 f, .slice (some ⟨bt, ot, none⟩) ar.length ct] 27)).alloc (.cells #[.int .i64 s.f, .slice as_ s.args.length cs] 27)).alloc (.cells #[.int .i64 0, .slice none 0 0] 27)) (w.heap.size + 2) 27 #[.int .i64 0, .slice none 0 0] := Blk.new' (by simp)
    have hA := ((Blk.new' (w := w) (t := 27) (cs := #[.int .i64 f, .slice (some ⟨bt, ot, none⟩) ar.length ct]) rfl).alloc (.cells #[.int .i64 s.f, .slice as_ s.args.length cs] 27)).alloc (.cells #[.int .i64 0, .slice none 0 0] 27)
    have hS2 := (Blk.new' (w := w.alloc (.cells #[.int .i64 f, .slice (some ⟨bt, ot, none⟩) ar.length ct] 27)) (t := 27) (cs := #[.int .i64 s.f, .slice as_ s.args.length cs]) (b := w.heap.size + 1) (by simp)).alloc (.cells #[.int .i64 0, .slice none 0 0] 27)
    have hw := bstep (balloc2 w (.cells #[.int .i64 f, .slice (some ⟨bt, ot, none⟩) ar.length ct] 27) (.cells #[.int .i64 s.f, .slice as_ s.args.length cs] 27)) (balloc _ (.cells #[.int .i64 0, .slice none 0 0] 27))
    generalize (((w.alloc (.cells #[.int .i64 f, .slice (some ⟨bt, ot, none⟩) ar.length ct] 27)).alloc (.cells #[.int .i64 s.f, .slice as_ s.args.length cs] 27)).alloc (.cells #[.int .i64 0, .slice none 0 0] 27)) = W0 at hR hA hS2 hw ⊢
    have Hgp := Lib.hid (bkeeps hw _ _ gp)
    have Hk1 := Lib.hid (show W0.cell? ⟨w.heap.size, 1, none⟩ = some (.slice (some ⟨bt, ot, none⟩) ar.length ct) from hA.cell 1)
    refine Stop.mk ?_
    refine wp_region_lit (optR (rp3 w bp op pc bt ot ct i p ar)) [false, false, false, false, false, false, false, false, false, false, false, false, false, false, false, false, true, true, true, true, true, true, true, true, true, true, true, true, true, false, false, false, false, false, false, false, false, false, false, false, false, false, false, false, false, false, false, false, false, false, false, false, false, false, false, false, false] (by kernel_rfl) (by kernel_rfl) (by kernel_rfl) (optKeep _) ?_ ?_
    · refine ⟨⟨true, .none rfl, fun h w => optUndef h, fun hβ fx wx hwx hn hd => ?_⟩, ?_⟩
      · exact wp_move rfl ((rel_eval (by kernel_rfl)).trans (show fx 1 = .slice (some ⟨bp, op, none⟩) (p.length + 1) pc from hn 1 (by kernel_rfl))) ⟨_, rfl, Below.refl _ _, optDef hβ rfl⟩
      refine ⟨⟨true, .none rfl, fun h w => optUndef h, fun hβ fx wx hwx hn hd => ?_⟩, ?_⟩
      · exact wp_ix0_apiPos rfl ((rel_eval (by kernel_rfl)).trans (optVal (x := .slice (some ⟨bp, op, none⟩) (p.length + 1) pc) (β := true) (hd 0 16 (by kernel_rfl)) rfl rfl)) rfl (Nat.succ_pos _) ⟨_, rfl, Below.refl _ _, optDef hβ rfl⟩
      refine ⟨⟨true, .none rfl, fun h w => optUndef h, fun hβ fx wx hwx hn hd => ?_⟩, ?_⟩
      · exact wp_ld_int rfl ((rel_eval (by kernel_rfl)).trans (optVal (x := .pointer (some ⟨bp, op, none⟩)) (β := true) (hd 1 17 (by kernel_rfl)) rfl rfl)) (bkeeps hwx _ _ (Hgp.out)) ⟨_, rfl, Below.refl _ _, optDef hβ rfl⟩
      refine ⟨⟨true, .none rfl, fun h w => optUndef h, fun hβ fx wx hwx hn hd => ?_⟩, ?_⟩
      · exact wp_lt_int rfl ((rel_eval (by kernel_rfl)).trans (optVal (x := .int .i64 i) (β := true) (hd 2 18 (by kernel_rfl)) rfl rfl)) rfl ⟨_, rfl, Below.refl _ _, optDef hβ rfl⟩
      refine ⟨⟨true, .none rfl, fun h w => optUndef h, fun hβ fx wx hwx hn hd => ?_⟩, ?_⟩
      · exact wp_move rfl ((rel_eval (by kernel_rfl)).trans (optVal (x := .bool (decide ((i : Int) < (0 : Int)))) (β := true) (hd 3 19 (by kernel_rfl)) rfl rfl)) ⟨_, rfl, Below.refl _ _, optDef hβ rfl⟩
      refine ⟨⟨(true && !(decide ((i : Int) < (0 : Int)))), .no (c := (decide ((i : Int) < (0 : Int)))) (d := true) rfl (fun v w h => h), fun h w => optUndef h, fun hβ fx wx hwx hn hd => ?_⟩, ?_⟩
      · exact wp_move rfl ((rel_eval (by kernel_rfl)).trans (show fx 1 = .slice (some ⟨bp, op, none⟩) (p.length + 1) pc from hn 1 (by kernel_rfl))) ⟨_, rfl, Below.refl _ _, optDef hβ rfl⟩
      refine ⟨⟨(true && !(decide ((i : Int) < (0 : Int)))), .no (c := (decide ((i : Int) < (0 : Int)))) (d := true) rfl (fun v w h => h), fun h w => optUndef h, fun hβ fx wx hwx hn hd => ?_⟩, ?_⟩
      · exact wp_ix0_apiPos rfl ((rel_eval (by kernel_rfl)).trans (optVal (x := .slice (some ⟨bp, op, none⟩) (p.length + 1) pc) (β := (true && !(decide ((i : Int) < (0 : Int))))) (hd 5 21 (by kernel_rfl)) rfl hβ)) rfl (Nat.succ_pos _) ⟨_, rfl, Below.refl _ _, optDef hβ rfl⟩
      refine ⟨⟨(true && !(decide ((i : Int) < (0 : Int)))), .no (c := (decide ((i : Int) < (0 : Int)))) (d := true) rfl (fun v w h => h), fun h w => optUndef h, fun hβ fx wx hwx hn hd => ?_⟩, ?_⟩
      · exact wp_ld_int rfl ((rel_eval (by kernel_rfl)).trans (optVal (x := .pointer (some ⟨bp, op, none⟩)) (β := (true && !(decide ((i : Int) < (0 : Int))))) (hd 6 22 (by kernel_rfl)) rfl hβ)) (bkeeps hwx _ _ (Hgp.out)) ⟨_, rfl, Below.refl _ _, optDef hβ rfl⟩
      refine ⟨⟨(true && !(decide ((i : Int) < (0 : Int)))), .no (c := (decide ((i : Int) < (0 : Int)))) (d := true) rfl (fun v w h => h), fun h w => optUndef h, fun hβ fx wx hwx hn hd => ?_⟩, ?_⟩
      · exact wp_fld_apiTerm_1 rfl ((rel_eval (by kernel_rfl)).trans (show fx 3 = .pointer (some ⟨w.heap.size, 0, none⟩) from hn 3 (by kernel_rfl))) ⟨_, rfl, Below.refl _ _, optDef hβ rfl⟩
      refine ⟨⟨(true && !(decide ((i : Int) < (0 : Int)))), .no (c := (decide ((i : Int) < (0 : Int)))) (d := true) rfl (fun v w h => h), fun h w => optUndef h, fun hβ fx wx hwx hn hd => ?_⟩, ?_⟩
      · exact wp_ld_LapiTerm rfl ((rel_eval (by kernel_rfl)).trans (optVal (x := .pointer (some ⟨w.heap.size, 1, none⟩)) (β := (true && !(decide ((i : Int) < (0 : Int))))) (hd 8 24 (by kernel_rfl)) rfl hβ)) (bkeeps hwx _ _ (Hk1.out)) ⟨_, rfl, Below.refl _ _, optDef hβ rfl⟩
      refine ⟨⟨(true && !(decide ((i : Int) < (0 : Int)))), .no (c := (decide ((i : Int) < (0 : Int)))) (d := true) rfl (fun v w h => h), fun h w => optUndef h, fun hβ fx wx hwx hn hd => ?_⟩, ?_⟩
      · exact wp_len_LapiTerm rfl ((rel_eval (by kernel_rfl)).trans (optVal (x := .slice (some ⟨bt, ot, none⟩) ar.length ct) (β := (true && !(decide ((i : Int) < (0 : Int))))) (hd 9 25 (by kernel_rfl)) rfl hβ)) ⟨_, rfl, Below.refl _ _, optDef hβ rfl⟩
      refine ⟨⟨(true && !(decide ((i : Int) < (0 : Int)))), .no (c := (decide ((i : Int) < (0 : Int)))) (d := true) rfl (fun v w h => h), fun h w => optUndef h, fun hβ fx wx hwx hn hd => ?_⟩, ?_⟩
      · exact wp_ge_int rfl ((rel_eval (by kernel_rfl)).trans (optVal (x := .int .i64 i) (β := (true && !(decide ((i : Int) < (0 : Int))))) (hd 7 23 (by kernel_rfl)) rfl hβ)) ((rel_eval (by kernel_rfl)).trans (optVal (x := .int .i64 ar.length) (β := (true && !(decide ((i : Int) < (0 : Int))))) (hd 10 26 (by kernel_rfl)) rfl hβ)) ⟨_, rfl, Below.refl _ _, optDef hβ rfl⟩
      refine ⟨⟨true, .none rfl, fun h w => optUndef h, fun hβ fx wx hwx hn hd => ?_⟩, ?_⟩
      · exact wp_or rfl ((rel_eval (by kernel_rfl)).trans (optVal (x := .bool (decide ((i : Int) < (0 : Int)))) (β := true) (hd 4 20 (by kernel_rfl)) rfl rfl)) (fun hp => ((rel_eval (by kernel_rfl)).trans (optVal (x := .bool (decide ((ar.length : Int) ≤ (i : Int)))) (β := (true && !(decide ((i : Int) < (0 : Int))))) (hd 11 27 (by kernel_rfl)) rfl (bMkN hβ hp)))) ⟨_, rfl, Below.refl _ _, optDef hβ rfl⟩
      exact trivial
    intro ux w3 hb3 hu
    have eu := optVal (x := .bool ((decide ((i : Int) < (0 : Int))) || (decide ((ar.length : Int) ≤ (i : Int))))) (β := true) (hu 12 28 (by kernel_rfl)) rfl rfl
    simp only [finM]
    rw [eu]
    clear hu eu
    have hE : ((decide ((i : Int) < (0 : Int))) || (decide ((ar.length : Int) ≤ (i : Int)))) = false := by simp; omega
    rw [hE]
    go_wp2_with (with_reducible refine stop_region ?_)
    clear Hgp Hk1 hE
    have hw1 := bstep hw hb3
    have hA := hA.below hb3
    have hS2 := hS2.below hb3
    have hR := hR.below hb3
    have hltR1 := Lib.hid hR.lt
    obtain ⟨W1, hW1⟩ : ∃ W1, W1 = w3 := ⟨_, rfl⟩
    subst hW1
    have Hgp := Lib.hid (bkeeps hw1 _ _ gp)
    have Hk1 := Lib.hid (show W1.cell? ⟨w.heap.size, 1, none⟩ = some (.slice (some ⟨bt, ot, none⟩) ar.length ct) from hA.cell 1)
    have Hs0 := Lib.hid (show W1.cell? ⟨w.heap.size + 1, 0, none⟩ = some (.int .i64 s.f) from hS2.cell 0)
    have Hs1 := Lib.hid (show W1.cell? ⟨w.heap.size + 1, 1, none⟩ = some (.slice as_ s.args.length cs) from hS2.cell 1)
    have Hg0 := Lib.hid (bkeeps hw1 _ _ g0)
    have Hg1 := Lib.hid (bkeeps hw1 _ _ g1)
    have Hle := Lib.hid (Nat.le_trans hB hw1.size)
    have RC := Lib.hid (fun (W : World) (hb : Below W1.heap.size W1 W) (h2 : B ≤ W.heap.size) => ih ar[i] W _ _ _ hsi Hpl (InT.old (bstep hw1 hb) hB gt) (PIn.keep (S := fun b => b < B) (fun q y (hq : q.block < B) hy => ((bstep hw1 hb).cell (Nat.lt_of_lt_of_le hq hB)).trans hy) htail) (InT.old (bstep hw1 hb) hB Hsv.out) h2 hW)
    refine Stop.mk ?_
    refine wp_region_mem [10, 11, 12, 13, 14, 15, 16] (optP (rp5 w s as_ bp op pc bt ot ct i cs p ar u x)) (PairG B W1 (ar[i].into p s)) [false, false, false, false, false, false, false, false, true, true, false, false, false, false, false, false, false, false, false, false, false, false, false, false, false, false, false, false, false, false, true, true, true, true, true, true, true, true, true, true, true, true, true, true, false, false, false, false, false, false, false, false, false, false, false, false, false] (by kernel_rfl) (by kernel_rfl) (by decide) (by kernel_rfl) (by kernel_rfl) (⟨none, .start Hle.out ((Below.refl _ _).drew)⟩) ?_ ?_
    · refine ⟨.inl ⟨by decide, true, .none rfl, fun h => optUndef h, fun hβ fx wx vs C => ?_⟩, ?_⟩
      · exact wp_fld_apiTerm_1 rfl ((rel_eval (by kernel_rfl)).trans (show fx 3 = .pointer (some ⟨w.heap.size, 0, none⟩) from C.keep 3 (by kernel_rfl))) ⟨_, rfl, rfl, optDef hβ rfl⟩
      refine ⟨.inl ⟨by decide, true, .none rfl, fun h => optUndef h, fun hβ fx wx vs C => ?_⟩, ?_⟩
      · exact wp_ld_LapiTerm rfl ((rel_eval (by kernel_rfl)).trans (optPVal (x := .pointer (some ⟨w.heap.size, 1, none⟩)) (β := true) (C.dep 0 31 (by kernel_rfl) (by decide)) rfl rfl)) (bkeeps C.now.below _ _ Hk1.out) ⟨_, rfl, rfl, optDef hβ rfl⟩
      refine ⟨.inl ⟨by decide, true, .none rfl, fun h => optUndef h, fun hβ fx wx vs C => ?_⟩, ?_⟩
      · exact wp_move rfl ((rel_eval (by kernel_rfl)).trans (show fx 1 = .slice (some ⟨bp, op, none⟩) (p.length + 1) pc from C.keep 1 (by kernel_rfl))) ⟨_, rfl, rfl, optDef hβ rfl⟩
      refine ⟨.inl ⟨by decide, true, .none rfl, fun h => optUndef h, fun hβ fx wx vs C => ?_⟩, ?_⟩
      · exact wp_ix0_apiPos rfl ((rel_eval (by kernel_rfl)).trans (optPVal (x := .slice (some ⟨bp, op, none⟩) (p.length + 1) pc) (β := true) (C.dep 2 33 (by kernel_rfl) (by decide)) rfl rfl)) rfl (Nat.succ_pos _) ⟨_, rfl, rfl, optDef hβ rfl⟩
      refine ⟨.inl ⟨by decide, true, .none rfl, fun h => optUndef h, fun hβ fx wx vs C => ?_⟩, ?_⟩
      · exact wp_ld_int rfl ((rel_eval (by kernel_rfl)).trans (optPVal (x := .pointer (some ⟨bp, op, none⟩)) (β := true) (C.dep 3 34 (by kernel_rfl) (by decide)) rfl rfl)) (bkeeps C.now.below _ _ Hgp.out) ⟨_, rfl, rfl, optDef hβ rfl⟩
      refine ⟨.inl ⟨by decide, true, .none rfl, fun h => optUndef h, fun hβ fx wx vs C => ?_⟩, ?_⟩
      · exact wp_ix_LapiTerm rfl ((rel_eval (by kernel_rfl)).trans (optPVal (x := .slice (some ⟨bt, ot, none⟩) ar.length ct) (β := true) (C.dep 1 32 (by kernel_rfl) (by decide)) rfl rfl)) ((rel_eval (by kernel_rfl)).trans (optPVal (x := .int .i64 i) (β := true) (C.dep 4 35 (by kernel_rfl) (by decide)) rfl rfl)) (hlt) ⟨_, rfl, rfl, optDef hβ rfl⟩
      refine ⟨.inl ⟨by decide, true, .none rfl, fun h => optUndef h, fun hβ fx wx vs C => ?_⟩, ?_⟩
      · exact wp_ld_apiTerm rfl ((rel_eval (by kernel_rfl)).trans (optPVal (x := .pointer (some ⟨bt, ot + i * 2, none⟩)) (β := true) (C.dep 5 36 (by kernel_rfl) (by decide)) rfl rfl)) (bkeeps C.now.below _ _ Hg0.out) (bkeeps C.now.below _ _ Hg1.out) ⟨_, rfl, rfl, optDef hβ rfl⟩
      refine ⟨.inl ⟨by decide, true, .none rfl, fun h => optUndef h, fun hβ fx wx vs C => ?_⟩, ?_⟩
      · exact wp_move rfl ((rel_eval (by kernel_rfl)).trans (show fx 1 = .slice (some ⟨bp, op, none⟩) (p.length + 1) pc from C.keep 1 (by kernel_rfl))) ⟨_, rfl, rfl, optDef hβ rfl⟩
      refine ⟨.inl ⟨by decide, true, .none rfl, fun h => optUndef h, fun hβ fx wx vs C => ?_⟩, ?_⟩
      · exact wp_slice1 rfl ((rel_eval (by kernel_rfl)).trans (optPVal (x := .slice (some ⟨bp, op, none⟩) (p.length + 1) pc) (β := true) (C.dep 7 38 (by kernel_rfl) (by decide)) rfl rfl)) Hpc.out.1 Hpc.out.2 ⟨_, rfl, rfl, optDef hβ rfl⟩
      refine ⟨.inl ⟨by decide, true, .none rfl, fun h => optUndef h, fun hβ fx wx vs C => ?_⟩, ?_⟩
      · exact wp_ld_apiTerm rfl ((rel_eval (by kernel_rfl)).trans (show fx 5 = .pointer (some ⟨(w.heap.size + 1), 0, none⟩) from C.keep 5 (by kernel_rfl))) (bkeeps C.now.below _ _ Hs0.out) (bkeeps C.now.below _ _ Hs1.out) ⟨_, rfl, rfl, optDef hβ rfl⟩
      refine ⟨.inr ⟨0, rfl, rfl, fun fx wx vs C hnone => ?_⟩, ?_⟩
      · obtain ⟨c, m, e0, e1, al, st, asg, g, rfl, h⟩ := C.now.out
        obtain rfl : c = none := by simpa using hnone
        obtain rfl : st = none := by simpa using C.most 5 15 rfl (by kernel_rfl)
        exact wp_call (by kernel_rfl) rfl (hv3 ((rel_eval (by kernel_rfl)).trans (optPVal (x := (.agg #[u, x])) (β := true) (C.dep 6 37 (by kernel_rfl) (by decide)) rfl rfl)) ((rel_eval (by kernel_rfl)).trans (optPVal (x := .slice (if pc = 1 then some ⟨bp, op, none⟩ else some ⟨bp, op + 1, none⟩) p.length (pc - 1)) (β := true) (C.dep 8 39 (by kernel_rfl) (by decide)) rfl rfl)) ((rel_eval (by kernel_rfl)).trans (optPVal (x := (.agg #[.int .i64 s.f, .slice as_ s.args.length cs])) (β := true) (C.dep 9 40 (by kernel_rfl) (by decide)) rfl rfl))) (tuple_of (RC.out _ C.now.below C.now.le)) (fun v w' hv => by obtain ⟨v', rfl, h1, h2⟩ := hv; exact ⟨_, rfl, ⟨g, h.call h1 h2⟩⟩)
      refine ⟨.inr ⟨1, rfl, rfl, fun fx wx vs C hnone => ?_⟩, ?_⟩
      · obtain ⟨c, m, e0, e1, al, st, asg, g, rfl, h⟩ := C.now.out
        obtain rfl : m = none := by simpa using hnone
        have l0 := C.link 0 10 41 rfl (by kernel_rfl)
        simp only [List.getElem?_cons_zero, Option.some.injEq] at l0
        subst l0
        exact wp_move rfl (rel_eval (by kernel_rfl)) ⟨_, rfl, ⟨g, h.move⟩⟩
      refine ⟨.inr ⟨2, rfl, rfl, fun fx wx vs C hnone => ?_⟩, ?_⟩
      · obtain ⟨c, m, e0, e1, al, st, asg, g, rfl, h⟩ := C.now.out
        obtain rfl : e0 = none := by simpa using hnone
        have l1 := C.link 1 11 30 rfl (by kernel_rfl)
        obtain rfl : st = none := by simpa using C.most 5 15 rfl (by kernel_rfl)
        simp only [List.getElem?_cons_zero, List.getElem?_cons_succ, Option.some.injEq] at l1
        have hc := h.pm _ l1
        obtain ⟨v', e', hI⟩ := h.pc _ hc
        subst l1
        subst hc
        exact wp_extract0 rfl ((rel_eval (by kernel_rfl)).trans e') ⟨_, rfl, ⟨g, h.first_ e'⟩⟩
      refine ⟨.inr ⟨3, rfl, rfl, fun fx wx vs C hnone => ?_⟩, ?_⟩
      · obtain ⟨c, m, e0, e1, al, st, asg, g, rfl, h⟩ := C.now.out
        obtain rfl : e1 = none := by simpa using hnone
        have l1 := C.link 1 11 30 rfl (by kernel_rfl)
        simp only [List.getElem?_cons_zero, List.getElem?_cons_succ, Option.some.injEq] at l1
        obtain ⟨v', e', hI⟩ := h.pc _ (h.pm _ l1)
        exact wp_extract1 rfl ((rel_eval (by kernel_rfl)).trans e') ⟨_, rfl, ⟨g, h.second⟩⟩
      refine ⟨.inr ⟨4, rfl, rfl, fun fx wx vs C hnone => ?_⟩, ?_⟩
      · obtain ⟨c, m, e0, e1, al, st, asg, g, rfl, h⟩ := C.now.out
        obtain rfl : al = none := by simpa using hnone
        obtain rfl : st = none := by simpa using C.most 5 15 rfl (by kernel_rfl)
        exact wp_allocT rfl ⟨_, rfl, ⟨_, h.alloc⟩⟩
      refine ⟨.inr ⟨5, rfl, rfl, fun fx wx vs C hnone => ?_⟩, ?_⟩
      · obtain ⟨c, m, e0, e1, al, st, asg, g, rfl, h⟩ := C.now.out
        obtain rfl : st = none := by simpa using hnone
        have l4 := C.link 4 14 8 rfl (by kernel_rfl)
        have l2 := C.link 2 12 42 rfl (by kernel_rfl)
        exact h.store_op rfl (by simpa using l2) (by simpa using l4) (rel_eval (by kernel_rfl)) (rel_eval (by kernel_rfl)) (fun q w' hq => ⟨q, rfl, hq⟩)
      refine ⟨.inr ⟨6, rfl, rfl, fun fx wx vs C hnone => ?_⟩, ?_⟩
      · obtain ⟨c, m, e0, e1, al, st, asg, g, rfl, h⟩ := C.now.out
        obtain rfl : asg = none := by simpa using hnone
        have l3 := C.link 3 13 43 rfl (by kernel_rfl)
        simp only [List.getElem?_cons_zero, List.getElem?_cons_succ, Option.some.injEq] at l3
        exact wp_assign rfl ((rel_eval (by kernel_rfl)).trans (h.p1 _ l3)) ⟨_, rfl, ⟨g, h.assign⟩⟩
      exact trivial
    intro ux w3 vs hlen hall hG hu hch
    obtain ⟨c, m, e0, e1, al, st, asg, g, rfl, hS⟩ := hG.out
    clear hG
    obtain ⟨q1, hq1⟩ := hall 0 (by decide)
    obtain ⟨q2, hq2⟩ := hall 1 (by decide)
    obtain ⟨q3, hq3⟩ := hall 2 (by decide)
    obtain ⟨q4, hq4⟩ := hall 3 (by decide)
    obtain ⟨q5, hq5⟩ := hall 4 (by decide)
    obtain ⟨q6, hq6⟩ := hall 5 (by decide)
    obtain ⟨q7, hq7⟩ := hall 6 (by decide)
    simp only [List.getElem?_cons_zero, List.getElem?_cons_succ, Option.some.injEq] at hq1 hq2 hq3 hq4 hq5 hq6 hq7
    subst hq1 hq2 hq3 hq4 hq5 hq6 hq7
    have l8 := hch 4 14 8 rfl (by kernel_rfl)
    have l9 := hch 6 16 9 rfl (by kernel_rfl)
    simp only [List.getElem?_cons_zero, List.getElem?_cons_succ, Option.some.injEq] at l8 l9
    have hbW := hS.below
    obtain ⟨h8, y, z, r5, hlo, hB8, r7, tx⟩ := hS.end_
    have e8 := l8.symm.trans r5
    have e9 := l9.symm.trans r7
    clear l8 l9 r5 r7 hS hch hu hall RC Hgp Hk1 Hs0 Hs1 Hg0 Hg1 hlen
    simp only [finM]
    rw [e8, e9]
    clear e8 e9
    generalize hX : ar[i].into p s = X at tx
    have HX := Lib.hid hX
    clear hX
    obtain ⟨_, xa, xc, hyz, _, _, _⟩ := id tx.form
    simp only [Value.agg.injEq, Array.mk.injEq, List.cons.injEq, and_true] at hyz
    obtain ⟨rfl, rfl⟩ := hyz
    have hw2 := bstep hw1 hbW
    have hA := hA.below hbW
    have hR := hR.below hbW
    have k0 := hA.cell 0
    have k1 := hA.cell 1
    simp only [List.getElem?_toArray, List.getElem?_cons_zero, List.getElem?_cons_succ] at k0 k1
    have CO := copy_own B (.mk f ar) w3 _ (by have := Hmax.out; omega) (InT.old hw2 hB Hv.out) (Nat.le_trans hB hw2.size)
    have Htx := Lib.hid tx
    have HB8 := Lib.hid hB8
    have Hlo := Lib.hid hlo
    have Hw1 := Lib.hid hw1
    have hltW1 := Lib.hid (show w.heap.size + 2 < W1.heap.size from hltR1.out)
    have Hhw2 := Lib.hid hw2
    have HhA := Lib.hid hA
    have HhR := Lib.hid hR
    clear hw2 hA hR
    have hsz3 := Lib.hid hbW.size
    clear tx hB8 hlo hw1 hw hb3 hbW hS2
    go_wp2_with fail
    refine CO.mono ?_
    rintro e w4 ⟨r, rfl, ⟨xs, hr1, hr2⟩, hb4⟩
    clear CO k0 k1
    obtain ⟨gr, cap, hrv, hgr, hgl⟩ := hr1.form (by simp; omega)
    subst hrv
    simp only [T.args_mk, T.f_mk] at *
    have Hr1x := Lib.hid hr1
    have Hr2x := Lib.hid hr2
    have Hb4 := Lib.hid hb4
    have Hgr := Lib.hid (And.intro hgr hgl)
    clear hr1 hr2 hb4 hgr hgl
    go_wp2_with (with_reducible refine stop_region ?_)
    have hb5 := balloc w4 (.cells #[.int .i64 f, .slice (some ⟨gr, 0, none⟩) ar.length cap] 27)
    have hX10 : Blk (w4.alloc (.cells #[.int .i64 f, .slice (some ⟨gr, 0, none⟩) ar.length cap] 27)) w4.heap.size 27 #[.int .i64 f, .slice (some ⟨gr, 0, none⟩) ar.length cap] := Blk.new' rfl
    generalize (w4.alloc (.cells #[.int .i64 f, .slice (some ⟨gr, 0, none⟩) ar.length cap] 27)) = W5 at hb5 hX10 ⊢
    have hb35 := bstep Hb4.out hb5
    have hw5 := bstep Hhw2.out hb35
    have hrow := oR_below Hr1x.out hb5
    have helem := Hr2x.out.keep (fun p x _ hx => bkeeps hb5 p x hx)
    have htx := Htx.out.below hb35
    have hR5 := HhR.out.below hb35
    have hB85 := HB8.out.below hb35
    have hlt8 := HB8.out.lt
    have hBw : B ≤ w.heap.size := HB.out
    have hsz13 : W1.heap.size ≤ w3.heap.size := hsz3.out
    have hltR := HhR.out.lt
    obtain ⟨cur, hcur, hcs⟩ : ∃ cur, Blk W5 gr 27 cur ∧ cur.size = cap * 2 ∧ ar.length ≤ cap := by
      rcases hrow.2 with ⟨_, h0⟩ | ⟨g', cap', cur, e, _, hB, hc, _, hs, _⟩
      · omega
      · simp only [Value.slice.injEq, Option.some.injEq, Addr.mk.injEq, and_true, true_and] at e
        obtain ⟨rfl, rfl⟩ := e
        exact ⟨cur, hB, hs, hc⟩
    have hgr1 := Hgr.out.1
    have hgr2 := Hgr.out.2
    have Hr1 := Lib.hid (show (⟨w4.heap.size, 1, none⟩ : Addr).block ≠ gr ∧ W5.drew.cell? ⟨w4.heap.size, 1, none⟩ = some (.slice (some ⟨gr, 0, none⟩) ar.length cap) from ⟨by simp; omega, hX10.cell 1⟩)
    have Hgp := Lib.hid (show (⟨bp, op, none⟩ : Addr).block ≠ gr ∧ W5.drew.cell? ⟨bp, op, none⟩ = some (.int .i64 i) from ⟨by have := Hhw2.out.size; simp; omega, bkeeps hw5 _ _ gp⟩)
    have Hy := Lib.hid (show (⟨h8, 0, none⟩ : Addr).block ≠ gr ∧ W5.drew.cell? ⟨h8, 0, none⟩ = some (.int .i64 X.f) from ⟨by simp; omega, hB85.cell 0⟩)
    have Hz := Lib.hid (show (⟨h8, 1, none⟩ : Addr).block ≠ gr ∧ W5.drew.cell? ⟨h8, 1, none⟩ = some (.slice xa X.args.length xc) from ⟨by simp; omega, hB85.cell 1⟩)
    have HrB := Lib.hid (show Blk W5.drew gr 27 cur from hcur)
    have Hcap := Lib.hid (show 0 + i * 2 + 1 < cur.size by omega)
    have hI := row_stored (w := W5.drew) (N := W1.heap.size) (B := B) (i := i) (g := gr) (cap := cap) (l := ar) (t := X) (y := .int .i64 X.f) (z := .slice xa X.args.length xc) hf (by have := Hle.out; omega) hlt (oR_mono hrow hsz13 : W5.ownsRow _ _ _ _ _ _) (Elems.keep (w := W5) (w' := W5.drew) (fun p x _ hx => hx) (Elems.mono (fun b hb _ => ⟨hb.1.imp id (fun h => by omega), hb.2⟩) helem)) (InT.keep (w := W5) (w' := W5.drew) (fun p x _ hx => hx) ((Htx.out.mono (S' := fun b => New B W1.heap.size b ∧ b < w3.heap.size) (fun b hb hlt => ⟨hb.1, hlt⟩)).below hb35 |>.mono (fun b hb _ => ⟨hb.1, by simp only [Value.ownBlock, ne_eq, Option.some.injEq]; omega⟩)))
    refine Stop.mk ?_
    refine wp_region_mem [7] (optP (rp9 w4 bp op pc i h8 gr cap p ar X xa xc)) (StoG W5.drew gr i (.int .i64 X.f) (.slice xa X.args.length xc)) [false, false, false, false, false, false, false, false, false, false, false, false, false, false, false, false, false, false, false, false, false, false, false, false, false, false, false, false, false, false, false, false, false, false, false, false, false, false, false, false, false, false, false, false, false, false, false, false, false, true, true, true, true, true, true, true, false] (by kernel_rfl) (by kernel_rfl) (by decide) (by kernel_rfl) (by kernel_rfl) (rfl) ?_ ?_
    · refine ⟨.inl ⟨by decide, true, .none rfl, fun h => optUndef h, fun hβ fx wx vs C => ?_⟩, ?_⟩
      · exact wp_fld_apiTerm_1 rfl ((rel_eval (by kernel_rfl)).trans (show fx 10 = .pointer (some ⟨w4.heap.size, 0, none⟩) from C.keep 10 (by kernel_rfl))) ⟨_, rfl, rfl, optDef hβ rfl⟩
      refine ⟨.inl ⟨by decide, true, .none rfl, fun h => optUndef h, fun hβ fx wx vs C => ?_⟩, ?_⟩
      · exact wp_ld_LapiTerm rfl ((rel_eval (by kernel_rfl)).trans (optPVal (x := .pointer (some ⟨w4.heap.size, 1, none⟩)) (β := true) (C.dep 0 49 (by kernel_rfl) (by decide)) rfl rfl)) (C.now.reads Hr1.out) ⟨_, rfl, rfl, optDef hβ rfl⟩
      refine ⟨.inl ⟨by decide, true, .none rfl, fun h => optUndef h, fun hβ fx wx vs C => ?_⟩, ?_⟩
      · exact wp_move rfl ((rel_eval (by kernel_rfl)).trans (show fx 1 = .slice (some ⟨bp, op, none⟩) (p.length + 1) pc from C.keep 1 (by kernel_rfl))) ⟨_, rfl, rfl, optDef hβ rfl⟩
      refine ⟨.inl ⟨by decide, true, .none rfl, fun h => optUndef h, fun hβ fx wx vs C => ?_⟩, ?_⟩
      · exact wp_ix0_apiPos rfl ((rel_eval (by kernel_rfl)).trans (optPVal (x := .slice (some ⟨bp, op, none⟩) (p.length + 1) pc) (β := true) (C.dep 2 51 (by kernel_rfl) (by decide)) rfl rfl)) rfl (Nat.succ_pos _) ⟨_, rfl, rfl, optDef hβ rfl⟩
      refine ⟨.inl ⟨by decide, true, .none rfl, fun h => optUndef h, fun hβ fx wx vs C => ?_⟩, ?_⟩
      · exact wp_ld_int rfl ((rel_eval (by kernel_rfl)).trans (optPVal (x := .pointer (some ⟨bp, op, none⟩)) (β := true) (C.dep 3 52 (by kernel_rfl) (by decide)) rfl rfl)) (C.now.reads Hgp.out) ⟨_, rfl, rfl, optDef hβ rfl⟩
      refine ⟨.inl ⟨by decide, true, .none rfl, fun h => optUndef h, fun hβ fx wx vs C => ?_⟩, ?_⟩
      · exact wp_ld_apiTerm rfl ((rel_eval (by kernel_rfl)).trans (show fx 8 = .pointer (some ⟨h8, 0, none⟩) from C.keep 8 (by kernel_rfl))) (C.now.reads Hy.out) (C.now.reads Hz.out) ⟨_, rfl, rfl, optDef hβ rfl⟩
      refine ⟨.inl ⟨by decide, true, .none rfl, fun h => optUndef h, fun hβ fx wx vs C => ?_⟩, ?_⟩
      · exact wp_ix_LapiTerm rfl ((rel_eval (by kernel_rfl)).trans (optPVal (x := .slice (some ⟨gr, 0, none⟩) ar.length cap) (β := true) (C.dep 1 50 (by kernel_rfl) (by decide)) rfl rfl)) ((rel_eval (by kernel_rfl)).trans (optPVal (x := .int .i64 i) (β := true) (C.dep 4 53 (by kernel_rfl) (by decide)) rfl rfl)) (hlt) ⟨_, rfl, rfl, optDef hβ rfl⟩
      refine ⟨.inr ⟨0, rfl, rfl, fun fx wx vs C hnone => ?_⟩, ?_⟩
      · obtain rfl : vs = [none] := C.now.none_of C.len hnone
        have l0 : wx = W5.drew := C.now
        subst l0
        exact wp_storeAt rfl ((rel_eval (by kernel_rfl)).trans (optPVal (x := .pointer (some ⟨gr, 0 + i * 2, none⟩)) (β := true) (C.dep 6 55 (by kernel_rfl) (by decide)) rfl rfl)) ((rel_eval (by kernel_rfl)).trans (optPVal (x := (.agg #[.int .i64 X.f, .slice xa X.args.length xc])) (β := true) (C.dep 5 54 (by kernel_rfl) (by decide)) rfl rfl)) HrB.out (by have := Hcap.out; omega) (fun q => ⟨q, rfl, rfl⟩)
      exact trivial
    intro ux w3 vs hlen hall hG hu hch
    obtain ⟨q, hq⟩ := hall 0 (by decide)
    obtain ⟨q0, rfl⟩ : ∃ q0, vs = [q0] := by
      match vs, hlen with
      | [q0], _ => exact ⟨q0, rfl⟩
    simp only [List.getElem?_cons_zero, Option.some.injEq] at hq
    subst hq
    have hG2 : w3 = (W5.drew.setCell ⟨gr, 0 + i * 2, none⟩ (.int .i64 X.f)).setCell ⟨gr, 0 + i * 2 + 1, none⟩ (.slice xa X.args.length xc) := hG
    rw [← hG2] at hI
    have hX6 : Blk w3 w4.heap.size 27 #[.int .i64 f, .slice (some ⟨gr, 0, none⟩) ar.length cap] := by
      rw [hG2]
      exact ((show Blk W5.drew w4.heap.size _ _ from hX10).far (p := ⟨gr, 0 + i * 2, none⟩) (by simp; omega) _).far (p := ⟨gr, 0 + i * 2 + 1, none⟩) (by simp; omega) _
    have hR6 : Blk w3 (w.heap.size + 2) 27 #[.int .i64 0, .slice none 0 0] := by
      rw [hG2]
      exact ((show Blk W5.drew (w.heap.size + 2) _ _ from hR5).far (p := ⟨gr, 0 + i * 2, none⟩) (by simp; omega) _).far (p := ⟨gr, 0 + i * 2 + 1, none⟩) (by simp; omega) _
    have hw6 : Below w.heap.size w w3 := by
      have := Hhw2.out.size
      rw [hG2]
      exact (hw5.drew.setCell (p := ⟨gr, 0 + i * 2, none⟩) (by simp; omega) _).setCell (p := ⟨gr, 0 + i * 2 + 1, none⟩) (by simp; omega) _
    have hn2 : ¬ New B W1.heap.size (w.heap.size + 2) := by
      have := HhR.out.lt
      have := hltW1.out
      unfold New; omega
    have hle1 := Hle.out
    have hsz1 : w.heap.size ≤ W1.heap.size := Hw1.out.size
    have hinto : T.into (.mk f ar) (i :: p) s = .mk f (ar.set i X) := by
      rw [T.into, ← HX.out]
      congr 2
      simp [hlt]
    have o0 := hX6.cell 0
    have o1 := hX6.cell 1
    have r0 := hR6.cell 0
    have r1 := hR6.cell 1
    have y0 := hR6.frozen 0
    have y1 := hR6.frozen 1
    simp only [List.getElem?_toArray, List.getElem?_cons_zero, List.getElem?_cons_succ] at o0 o1 r0 r1
    have HhI := Lib.hid hI
    have HhX6 := Lib.hid hX6
    have HhR6 := Lib.hid hR6
    have Hhw6 := Lib.hid hw6
    have Hhn2 := Lib.hid hn2
    have Hhinto := Lib.hid hinto
    have Hhle1 := Lib.hid hle1
    have Hhsz1 := Lib.hid hsz1
    clear hI hX6 hR6 hw6 hn2 hinto hle1 hsz1
    clear hG hG2 hu hch hcur hrow helem htx hR5 hB85 hw5 hb35 hb5 hX10 hall Hr1 Hgp Hy Hz HrB Hcap hlen
    simp only [finM]
    go_wp2_with fail
    refine bodyPost_ret (v := .tuple #[.agg #[.int .i64 f, .slice (some ⟨gr, 0, none⟩) ar.length cap], .bool true]) (by simp [results, Try.results21, go_sem, r0, r1]) rfl ?_
    rw [Hhinto.out]
    refine ⟨_, rfl, (InT.far2 Hhn2.out HhI.out).mono (fun b hb _ => hb.imp id (fun h => by have := Hhsz1.out; omega)), ?_⟩
    exact (Hhw6.out.setCell (p := ⟨w.heap.size + 2, 0, none⟩) (by simp) _).setCell (p := ⟨w.heap.size + 2, 1, none⟩) (by simp) _

end Go.Proofs.Ytjkpecjlpgcalaa
