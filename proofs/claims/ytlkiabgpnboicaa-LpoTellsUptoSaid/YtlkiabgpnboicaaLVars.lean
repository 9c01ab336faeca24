/- The variables of a term, gathered by a function that is handed down: the walks. -/
import Derived.Test.YtlkiabgpnboicaaTRows
import Derived.Test.YtlkiabgpnboicaaKOps
import Derived.Test.YtlkiabgpnboicaaLpoPlain
import Derived.Test.YtlkiabgpnboicaaGrowR
namespace Go.Proofs.Ytlkiabgpnboicaa
open Go.RowKit Go

def intV (n : Int) : Value := .int .i64 n
def newsF (f : Int) : List Int := if f < 0 then [-1 - f] else []
mutual
def varsT : T → List Int
  | .mk f l => newsF f ++ varsTL l
def varsTL : List T → List Int
  | [] => []
  | a :: r => varsT a ++ varsTL r
end
theorem varsTL_take {l : List T} {k : Nat} (h : k < l.length) : varsTL (l.take (k + 1)) = varsTL (l.take k) ++ varsT (tget l k) := by
  induction l generalizing k with
  | nil => simp at h
  | cons a r ih =>
    cases k with
    | zero => simp [varsTL, tget]
    | succ k =>
      have := ih (k := k) (by simpa using h)
      simp only [List.take_succ_cons, varsTL, List.append_assoc]
      rw [this]; rfl
mutual
theorem varsT_le : ∀ t : T, (varsT t).length ≤ t.size
  | .mk f l => by
    have := varsTL_le l
    rw [varsT, T.size, List.length_append]
    have : (newsF f).length ≤ 1 := by unfold newsF; split <;> simp
    omega
theorem varsTL_le : ∀ l : List T, (varsTL l).length ≤ T.sizeL l
  | [] => by simp [varsTL]
  | a :: r => by
    have := varsT_le a; have := varsTL_le r
    rw [varsTL, T.sizeL, List.length_append]; omega
end
mutual
theorem varsT_has (v : Int) (hv : v < 0) : ∀ t : T, (-1 - v) ∈ varsT t ↔ T.has v t = true
  | .mk f l => by
    rw [varsT, T.has, List.mem_append, varsTL_has v hv l, Bool.or_eq_true, decide_eq_true_eq]
    unfold newsF
    split
    · simp; constructor
      · rintro (h | h); exact .inl (by omega); exact .inr h
      · rintro (h | h); exact .inl (by omega); exact .inr h
    · simp; intro h; omega
theorem varsTL_has (v : Int) (hv : v < 0) : ∀ l : List T, (-1 - v) ∈ varsTL l ↔ T.hasL v l = true
  | [] => by simp [varsTL, T.hasL]
  | a :: r => by rw [varsTL, T.hasL, List.mem_append, varsT_has v hv a, varsTL_has v hv r, Bool.or_eq_true]
end
theorem ownI_len {w : World} {S : Nat → Prop} {ra : Option Addr} {rc n : Nat} {L : List Int} (h : Own w S 3 1 ra rc n (L.map intV)) : n = L.length := by
  have := h.1.1; simpa using this.symm
theorem size_tget {l : List T} {k : Nat} (h : k < l.length) : T.sizeL (l.take k) + (tget l k).size ≤ T.sizeL l := by
  have h1 := T.sizeL_take_succ l k h
  have h2 := T.sizeL_take_le l (k + 1)
  rw [tget_lt h]; omega
theorem each_len2 {L : List Int} {f : Int} {l : List T} {k : Nat} : (L ++ newsF f ++ varsTL (l.take k)).length ≤ L.length + 1 + T.sizeL l := by
  have h1 := varsTL_le (l.take k)
  have h2 := T.sizeL_take_le l k
  have h3 : (newsF f).length ≤ 1 := by unfold newsF; split <;> simp
  simp only [List.length_append]; omega
theorem each_len {L : List Int} {f : Int} {l : List T} {k N : Nat} (hz : L.length + (1 + T.sizeL l) ≤ N) (h : k < l.length) : (L ++ newsF f ++ varsTL (l.take k)).length + (tget l k).size ≤ N := by
  have h1 := varsTL_le (l.take k)
  have h2 := size_tget h
  have h3 : (newsF f).length ≤ 1 := by unfold newsF; split <;> simp
  simp only [List.length_append]; omega
/-- What gathering leaves. -/
def Gath (w : World) (base g : Nat) (L : List Int) (w' : World) : Prop :=
  ∃ ra rc n, Blk w' g 22 #[.slice ra n rc] ∧ Own w' (fun k => base ≤ k ∧ k ≠ g) 3 1 ra rc n (L.map intV) ∧ Chg (fun k => base ≤ k ∨ k = g) w w'
set_option maxRecDepth 100000 in
theorem vars1_any (f : Int) (hf : I64 f) (w0 w : World) (b o g base : Nat) (L : List Int) (ra : Option Addr) (rc n : Nat) (hb0 : Below w0.heap.size w0 w) (h0 : w0.cell? ⟨b, o, none⟩ = some (.int .i64 f)) (hB : Blk w g 22 #[.slice ra n rc]) (hO : Own w (fun k => base ≤ k ∧ k ≠ g) 3 1 ra rc n (L.map intV))
    (hbase : base ≤ w.heap.size) (hg : w0.heap.size ≤ g) (hbs : w0.heap.size ≤ base) (hz : L.length ≤ 4294967296) :
    Calls Try.prog 62 #[.pointer (some ⟨b, o, none⟩), .pointer (some ⟨g, 0, none⟩)] w (Ret fun v' w' => v' = .bool true ∧ Gath w base g (L ++ newsF f) w') := by
  obtain rfl := ownI_len hO
  have hf1 := hf.1
  have hf2 := hf.2
  have hgl := hB.lt
  have hbl : b < w0.heap.size := World.block_lt_of_cell? _ _ h0
  refine Calls.walk (l := [.pointer (some ⟨b, o, none⟩), .pointer (some ⟨g, 0, none⟩)]) Try.func62 rfl (by kernel_rfl) ?_
  refine WC.sub (K' := [(0, .pointer (some ⟨b, o, none⟩)), (1, .pointer (some ⟨g, 0, none⟩))]) ⟨rfl, rfl, trivial⟩ ?_
  refine WC.seq ?_
  refine WC.region ?_
  refine WL.val (.bool false) rfl rfl rfl (fun za zC zh zk => wp_assign rfl (zh.ev rfl) zk) ?_
  refine WL.nil (WE.sub (K' := [(0, .pointer (some ⟨b, o, none⟩)), (1, .pointer (some ⟨g, 0, none⟩)), (3, .bool false)]) ⟨rfl, rfl, rfl, trivial⟩ ?_)
  refine WE.next ?_
  refine WC.seq ?_
  refine WC.seq ?_
  refine WC.region ?_
  refine WL.val (.pointer (some ⟨b, o, none⟩)) rfl rfl rfl (fun za zC zh zk => wp_move rfl (zh.ev rfl) zk) ?_
  refine WL.val (.pointer (some ⟨b, o, none⟩)) rfl rfl rfl (fun za zC zh zk => nilCheck_ rfl (zh.ev rfl) zk) ?_
  refine WL.val (.pointer (some ⟨b, o, none⟩)) rfl rfl rfl (fun za zC zh zk => fld_27_0 rfl (zh.ev rfl) zk) ?_
  have hc1 := bkeeps hb0 _ _ h0
  refine WL.val (.int .i64 f) rfl rfl rfl (fun za zC zh zk => ld_3 rfl (zh.ev rfl) hc1 zk) ?_
  refine WL.val (.bool ((decide ((f : Int) < (0 : Int))))) rfl rfl rfl (fun za zC zh zk => lss_3 rfl (zh.ev rfl) (zh.ev rfl) zk) ?_
  refine WL.nil (WE.sub (K' := [(0, .pointer (some ⟨b, o, none⟩)), (1, .pointer (some ⟨g, 0, none⟩)), (3, .bool false), (8, .bool ((decide ((f : Int) < (0 : Int)))))]) ⟨rfl, rfl, rfl, rfl, trivial⟩ ?_)
  refine WE.next ?_
  refine WC.cond rfl (fun h2 => ?_) (fun h2 => ?_)
  · have h2 : (f : Int) < (0 : Int) := by simpa using h2
    refine WC.grow (S := (fun b => base ≤ b ∧ b ≠ g)) (e := 3) (size := 1) (ln := L.length) (xs := (L.map intV)) (g := g) (ty := 22) (cs := #[.slice ra L.length rc]) [(true, .slice ra L.length rc), (true, .pointer (some ⟨b, o, none⟩)), (true, .pointer (some ⟨b, o, none⟩)), (true, .pointer (some ⟨b, o, none⟩)), (true, .int .i64 f), (true, .int .i64 (((-1) - f))), (true, undef), (true, undef), (true, undef)] [(0, .pointer (some ⟨b, o, none⟩)), (1, .pointer (some ⟨g, 0, none⟩)), (3, .bool false), (8, .bool ((decide ((f : Int) < (0 : Int)))))] 0 1 [.int .i64 (((-1) - f))] 6 7 8 (by decide) (by kernel_rfl) (by (try dsimp only at *); omega) hO hB ⟨rfl, rfl, rfl, rfl, trivial⟩ (by kernel_rfl) (by kernel_rfl) (by kernel_rfl) ?_ ?_
    · refine ⟨.inl ⟨true, by decide, by kernel_rfl, .none rfl, (fun gg b h => by cases h), (fun h => by cases h), fun zβ za zw zc => ?_⟩, ?_⟩
      · exact ld_22 rfl (zc.kn.ev rfl) (chg_cell zc.chg (by (try dsimp only at *); omega) ((hB.cell 0).trans rfl)) ⟨_, rfl, rfl, optDef rfl rfl⟩
      refine ⟨.inl ⟨true, by decide, by kernel_rfl, .none rfl, (fun gg b h => by cases h), (fun h => by cases h), fun zβ za zw zc => ?_⟩, ?_⟩
      · exact wp_move rfl (zc.kn.ev rfl) ⟨_, rfl, rfl, optDef rfl rfl⟩
      refine ⟨.inl ⟨true, by decide, by kernel_rfl, .none rfl, (fun gg b h => by cases h), (fun h => by cases h), fun zβ za zw zc => ?_⟩, ?_⟩
      · exact nilCheck_ rfl ((show za.eval (.tmp 10) = za.tmps.getD 10 undef from rfl).trans (valVal (zc.dep 1 10 (by kernel_rfl) (by decide)) rfl rfl)) ⟨_, rfl, rfl, optDef rfl rfl⟩
      refine ⟨.inl ⟨true, by decide, by kernel_rfl, .none rfl, (fun gg b h => by cases h), (fun h => by cases h), fun zβ za zw zc => ?_⟩, ?_⟩
      · exact fld_27_0 rfl ((show za.eval (.tmp 11) = za.tmps.getD 11 undef from rfl).trans (valVal (zc.dep 2 11 (by kernel_rfl) (by decide)) rfl rfl)) ⟨_, rfl, rfl, optDef rfl rfl⟩
      refine ⟨.inl ⟨true, by decide, by kernel_rfl, .none rfl, (fun gg b h => by cases h), (fun h => by cases h), fun zβ za zw zc => ?_⟩, ?_⟩
      · exact ld_3 rfl ((show za.eval (.tmp 12) = za.tmps.getD 12 undef from rfl).trans (valVal (zc.dep 3 12 (by kernel_rfl) (by decide)) rfl rfl)) (chg_cell zc.chg (by (try dsimp only at *); omega) hc1) ⟨_, rfl, rfl, optDef rfl rfl⟩
      refine ⟨.inl ⟨true, by decide, by kernel_rfl, .none rfl, (fun gg b h => by cases h), (fun h => by cases h), fun zβ za zw zc => ?_⟩, ?_⟩
      · exact subb_3 rfl (zc.kn.ev rfl) ((show za.eval (.tmp 13) = za.tmps.getD 13 undef from rfl).trans (valVal (zc.dep 4 13 (by kernel_rfl) (by decide)) rfl rfl)) (wrap_eq (by omega) (by omega) (by omega)) ⟨_, rfl, rfl, optDef rfl rfl⟩
      refine ⟨.inr (.inl ⟨rfl, rfl, by kernel_rfl, by kernel_rfl, fun za zw zc => ?_⟩), ?_⟩
      · exact row_22_1 rfl ((show za.eval (.tmp 14) = za.tmps.getD 14 undef from rfl).trans (valVal (zc.dep 5 14 (by kernel_rfl) (by decide)) rfl rfl)) ⟨rfl, rfl⟩
      refine ⟨.inr (.inr (.inl ⟨rfl, rfl, by kernel_rfl, 15, by kernel_rfl, fun za zw g1 zc zo z1 zB => ?_⟩)), ?_⟩
      · exact app_22 (S := (fun b => base ≤ b ∧ b ≠ g)) rfl ((show za.eval (.tmp 9) = za.tmps.getD 9 undef from rfl).trans (valVal (zc.dep 0 9 (by kernel_rfl) (by decide)) rfl rfl)) ((show za.eval (.tmp 15) = za.tmps.getD 15 undef from rfl).trans z1) zo (SrcIs.ofBlk zB) (by simp) (by simp [Value.oneCell']) (by omega) (by omega) (by have z2 := hbase; have z3 := zc.chg.size; have y0 := hB.lt; (try dsimp only at *); omega) (fun ra rc w' h1 h2 => ⟨ra, rc, rfl, h1, h2⟩)
      refine ⟨.inr (.inr (.inr ⟨rfl, rfl, 16, by kernel_rfl, by kernel_rfl, fun za zw ra rc zc z1 => ?_⟩)), ?_⟩
      · exact st_22 rfl (zc.kn.ev rfl) ((show za.eval (.tmp 16) = za.tmps.getD 16 undef from rfl).trans z1) zc.blk (by first | decide | simp) (fun v => ⟨v, rfl, Upd.at_ _ _ _ _, zc.blk.set_ 0 _⟩)
      exact trivial
    · intro za w3 ra4 rc5 zh hc6 hr7 hB8 zu
      have hb9 := chg_below hb0 hc6 (fun b hb => (by (try dsimp only at *); omega))
      clear zu
      refine (show WE _ [(0, .pointer (some ⟨b, o, none⟩)), (1, .pointer (some ⟨g, 0, none⟩)), (3, .bool false), (8, .bool ((decide ((f : Int) < (0 : Int)))))] w3 _ .normal from ?_) za (zh.sub ⟨rfl, rfl, rfl, rfl, trivial⟩)
      refine WE.next ?_
      refine WC.seq ?_
      refine WC.region ?_
      refine WL.val (.bool true) rfl rfl rfl (fun za zC zh zk => wp_assign rfl (zh.ev rfl) zk) ?_
      refine WL.nil (WE.sub (K' := [(0, .pointer (some ⟨b, o, none⟩)), (1, .pointer (some ⟨g, 0, none⟩)), (3, .bool true), (8, .bool ((decide ((f : Int) < (0 : Int)))))]) ⟨rfl, rfl, rfl, rfl, trivial⟩ ?_)
      refine WE.next ?_
      refine WC.ret ?_
      refine WE.ret1 rfl rfl ?_
      have hs10 : Chg ((fun k => base ≤ k ∨ k = g)) w w3 := (Chg.trans2 (Chg.refl ((fun k => base ≤ k ∨ k = g)) _) hc6 (fun i h1 h2 => by (try dsimp only at *); omega))
      exact ⟨_, rfl, rfl, _, _, _, hB8, (by rw [show newsF f = [-1 - f] from if_pos (by omega), List.map_append]; exact hr7), hs10⟩
  · have h2 : ¬ ((f : Int) < (0 : Int)) := by simpa using h2
    refine WC.skip ?_
    refine WE.next ?_
    refine WC.seq ?_
    refine WC.region ?_
    refine WL.val (.bool true) rfl rfl rfl (fun za zC zh zk => wp_assign rfl (zh.ev rfl) zk) ?_
    refine WL.nil (WE.sub (K' := [(0, .pointer (some ⟨b, o, none⟩)), (1, .pointer (some ⟨g, 0, none⟩)), (3, .bool true), (8, .bool ((decide ((f : Int) < (0 : Int)))))]) ⟨rfl, rfl, rfl, rfl, trivial⟩ ?_)
    refine WE.next ?_
    refine WC.ret ?_
    refine WE.ret1 rfl rfl ?_
    have hs11 : Chg ((fun k => base ≤ k ∨ k = g)) w w := (Chg.refl ((fun k => base ≤ k ∨ k = g)) _)
    exact ⟨_, rfl, rfl, ra, rc, _, hB, (by rw [show newsF f = [] from if_neg (by omega), List.append_nil]; exact hO), hs11⟩

theorem each_step {F : FuncId} {vs : Array Value} {w : World} {base g : Nat} {X : List Int} {l : List T} {k : Nat} (h : k < l.length) (H : Calls Try.prog F vs w (Ret fun v' w' => v' = .bool true ∧ Gath w base g (X ++ varsTL (l.take k) ++ varsT (tget l k)) w')) :
    Calls Try.prog F vs w (Ret fun v' w' => v' = .bool true ∧ Gath w base g (X ++ varsTL (l.take (k + 1))) w') := by
  rw [varsTL_take h, ← List.append_assoc]; exact H
set_option maxRecDepth 100000 in
theorem each_any (t : T) : ∀ (w0 w : World) (b o g base : Nat) (A : Option Addr) (C : Nat) (L : List Int) (ra : Option Addr) (rc n : Nat) (_ : Below w0.heap.size w0 w) (_ : w0.cell? ⟨b, o, none⟩ = some (.int .i64 t.f)) (_ : w0.cell? ⟨b, o + 1, none⟩ = some (.slice A t.args.length C)) (_ : IsT w0 t (.agg #[.int .i64 t.f, .slice A t.args.length C]))
    (_ : Blk w g 22 #[.slice ra n rc]) (_ : Own w (fun k => base ≤ k ∧ k ≠ g) 3 1 ra rc n (L.map intV)) (_ : base ≤ w.heap.size) (_ : w0.heap.size ≤ g) (_ : w0.heap.size ≤ base) (_ : L.length + t.size ≤ 4294967296),
    Calls Try.prog 61 #[.pointer (some ⟨b, o, none⟩), .func (.func 62) #[] #[.pointer (some ⟨g, 0, none⟩)]] w (Ret fun v' w' => v' = .bool true ∧ Gath w base g (L ++ varsT t) w') := by
  induction t using T.ind with
  | h f l ih =>
  intro w0 w b o g base A C L ra rc n hb0 h0 h1 hT hB hO hbase hg hbs hz
  obtain rfl := ownI_len hO
  simp only [T.f_mk, T.args_mk] at h0 h1 hT
  rw [T.size] at hz
  have hf := hT.form.1
  obtain ⟨_, hc, hm, hl⟩ := isT_row hT
  simp only [T.args_mk] at hc hl
  unfold maxLen at hm
  have hgl := hB.lt
  have hnl : (newsF f).length ≤ 1 := by unfold newsF; split <;> simp
  refine Calls.walk (l := [.pointer (some ⟨b, o, none⟩), .func (.func 62) #[] #[.pointer (some ⟨g, 0, none⟩)]]) Try.func61 rfl (by kernel_rfl) ?_
  refine WC.sub (K' := [(0, .pointer (some ⟨b, o, none⟩)), (1, .func (.func 62) #[] #[.pointer (some ⟨g, 0, none⟩)])]) ⟨rfl, rfl, trivial⟩ ?_
  refine WC.seq ?_
  refine WC.region ?_
  refine WL.val (.bool false) rfl rfl rfl (fun za zC zh zk => wp_assign rfl (zh.ev rfl) zk) ?_
  refine WL.nil (WE.sub (K' := [(0, .pointer (some ⟨b, o, none⟩)), (1, .func (.func 62) #[] #[.pointer (some ⟨g, 0, none⟩)]), (4, .bool false)]) ⟨rfl, rfl, rfl, trivial⟩ ?_)
  refine WE.next ?_
  refine WC.seq ?_
  refine WC.seq ?_
  refine WC.region ?_
  refine WL.val (.func (.func 62) #[] #[.pointer (some ⟨g, 0, none⟩)]) rfl rfl rfl (fun za zC zh zk => wp_move rfl (zh.ev rfl) zk) ?_
  refine WL.val (.pointer (some ⟨b, o, none⟩)) rfl rfl rfl (fun za zC zh zk => wp_move rfl (zh.ev rfl) zk) ?_
  refine WL.call rfl rfl rfl (fun za zh zC => wp_callv (by kernel_rfl) rfl (zh.ev rfl) (hv1 (zh.ev rfl))) (vars1_any f hf w0 _ b o g base L _ _ _ hb0 h0 hB hO hbase hg hbs (by omega)) ?_
  rintro _ w8 ⟨rfl, ⟨ra21, rc22, n23, hB24, hO25, hC6⟩⟩
  have hb9 := chg_below hb0 hC6 (fun b hb => (by (try dsimp only at *); omega))
  obtain rfl := ownI_len hO25
  have hbs27 : base ≤ w8.heap.size := Nat.le_trans hbase hC6.size
  refine WL.val (.bool false) rfl rfl rfl (fun za zC zh zk => wp_not rfl (zh.ev rfl) zk) ?_
  refine WL.nil (WE.sub (K' := [(0, .pointer (some ⟨b, o, none⟩)), (1, .func (.func 62) #[] #[.pointer (some ⟨g, 0, none⟩)]), (4, .bool false), (9, .bool false)]) ⟨rfl, rfl, rfl, rfl, trivial⟩ ?_)
  refine WE.next ?_
  refine WC.condF rfl rfl ?_
  refine WC.skip ?_
  refine WE.next ?_
  refine WC.seq ?_
  refine WC.seq ?_
  refine WC.region ?_
  refine WL.val (.pointer (some ⟨b, o, none⟩)) rfl rfl rfl (fun za zC zh zk => wp_move rfl (zh.ev rfl) zk) ?_
  refine WL.val (.pointer (some ⟨b, o, none⟩)) rfl rfl rfl (fun za zC zh zk => nilCheck_ rfl (zh.ev rfl) zk) ?_
  refine WL.val (.pointer (some ⟨b, o + 1, none⟩)) rfl rfl rfl (fun za zC zh zk => fld_27_1 rfl (zh.ev rfl) zk) ?_
  have hc10 := bkeeps hb9 _ _ h1
  refine WL.val (.slice A l.length C) rfl rfl rfl (fun za zC zh zk => ld_25 rfl (zh.ev rfl) hc10 zk) ?_
  refine WL.val (.int .i64 (((l.length : Nat) : Int))) rfl rfl rfl (fun za zC zh zk => len_25 rfl (zh.ev rfl) zk) ?_
  refine WL.val (.int .i64 0) rfl rfl rfl (fun za zC zh zk => wp_move rfl (zh.ev rfl) zk) ?_
  refine WL.nil (WE.sub (K' := [(0, .pointer (some ⟨b, o, none⟩)), (1, .func (.func 62) #[] #[.pointer (some ⟨g, 0, none⟩)]), (4, .bool false), (9, .bool false), (14, .int .i64 (((l.length : Nat) : Int))), (15, .int .i64 0)]) ⟨rfl, rfl, rfl, rfl, rfl, rfl, trivial⟩ ?_)
  refine WE.next ?_
  refine WC.block ?_
  refine WC.loop (X := Option Addr × Nat × Nat) (fun x => l.length - x.2.2) (fun x => [(0, .pointer (some ⟨b, o, none⟩)), (1, .func (.func 62) #[] #[.pointer (some ⟨g, 0, none⟩)]), (9, .bool false), (14, .int .i64 (((l.length : Nat) : Int))), (15, .int .i64 (((x.2.2 : Nat) : Int)))]) (fun x w11 => x.2.2 ≤ l.length ∧ base ≤ (w11).heap.size ∧ Below w0.heap.size w0 w11 ∧ Blk w11 g 22 #[.slice x.1 ((L ++ newsF f ++ varsTL (l.take x.2.2)).length) x.2.1] ∧ base ≤ (w11).heap.size ∧ Own w11 (fun b => base ≤ b ∧ b ≠ g) 3 1 x.1 x.2.1 ((L ++ newsF f ++ varsTL (l.take x.2.2)).length) (((L ++ newsF f ++ varsTL (l.take x.2.2)).map intV)) ∧ Chg ((fun k => base ≤ k ∨ k = g)) w w11) ((ra21, rc22, 0)) ⟨rfl, rfl, rfl, rfl, rfl, trivial⟩ ?_ ?_
  · have hs12 : Chg ((fun k => base ≤ k ∨ k = g)) w w8 := (Chg.trans2 (Chg.refl ((fun k => base ≤ k ∨ k = g)) _) hC6 (fun i h1 h2 => by (try dsimp only at *); omega))
    exact ⟨Nat.zero_le _, hbs27, hb9, (by simpa [varsTL] using hB24), (by have z2 := hbs27; omega), (by simpa [varsTL] using hO25), hs12⟩
  · rintro x w11 ⟨hk, hbw, hb13, hB14, hf16, hr15, hc17⟩
    have hlv := each_len2 (L := L) (f := f) (l := l) (k := x.2.2)
    refine WC.seq ?_
    refine WC.region ?_
    refine WL.val (.bool ((decide ((((x.2.2 : Nat) : Int) : Int) < (((l.length : Nat) : Int) : Int))))) rfl rfl rfl (fun za zC zh zk => lss_3 rfl (zh.ev rfl) (zh.ev rfl) zk) ?_
    refine WL.nil (WE.sub (K' := [(0, .pointer (some ⟨b, o, none⟩)), (1, .func (.func 62) #[] #[.pointer (some ⟨g, 0, none⟩)]), (9, .bool false), (14, .int .i64 (((l.length : Nat) : Int))), (15, .int .i64 (((x.2.2 : Nat) : Int))), (16, .bool ((decide ((((x.2.2 : Nat) : Int) : Int) < (((l.length : Nat) : Int) : Int)))))]) ⟨rfl, rfl, rfl, rfl, rfl, rfl, trivial⟩ ?_)
    refine WE.next ?_
    refine WC.seq ?_
    refine WC.cond rfl (fun h18 => ?_) (fun h18 => ?_)
    · have h18 : (((x.2.2 : Nat) : Int) : Int) < (((l.length : Nat) : Int) : Int) := by simpa using h18
      refine WC.skip ?_
      refine WE.next ?_
      refine WC.seq ?_
      refine WC.block ?_
      refine WC.seq ?_
      refine WC.region ?_
      refine WL.val (.int .i64 (((x.2.2 : Nat) : Int))) rfl rfl rfl (fun za zC zh zk => wp_move rfl (zh.ev rfl) zk) ?_
      refine WL.val (.int .i64 (((x.2.2 : Nat) : Int))) rfl rfl rfl (fun za zC zh zk => wp_assign rfl (zh.ev rfl) zk) ?_
      refine WL.nil (WE.sub (K' := [(0, .pointer (some ⟨b, o, none⟩)), (1, .func (.func 62) #[] #[.pointer (some ⟨g, 0, none⟩)]), (5, .int .i64 (((x.2.2 : Nat) : Int))), (9, .bool false), (14, .int .i64 (((l.length : Nat) : Int))), (15, .int .i64 (((x.2.2 : Nat) : Int))), (16, .bool ((decide ((((x.2.2 : Nat) : Int) : Int) < (((l.length : Nat) : Int) : Int)))))]) ⟨rfl, rfl, rfl, rfl, rfl, rfl, rfl, trivial⟩ ?_)
      refine WE.next ?_
      refine WC.seq ?_
      refine WC.region ?_
      refine WL.val (.pointer (some ⟨b, o, none⟩)) rfl rfl rfl (fun za zC zh zk => wp_move rfl (zh.ev rfl) zk) ?_
      refine WL.val (.pointer (some ⟨b, o, none⟩)) rfl rfl rfl (fun za zC zh zk => nilCheck_ rfl (zh.ev rfl) zk) ?_
      refine WL.val (.pointer (some ⟨b, o + 1, none⟩)) rfl rfl rfl (fun za zC zh zk => fld_27_1 rfl (zh.ev rfl) zk) ?_
      have hc19 := bkeeps hb13 _ _ h1
      refine WL.val (.slice A l.length C) rfl rfl rfl (fun za zC zh zk => ld_25 rfl (zh.ev rfl) hc19 zk) ?_
      refine WL.val (.int .i64 (((x.2.2 : Nat) : Int))) rfl rfl rfl (fun za zC zh zk => wp_move rfl (zh.ev rfl) zk) ?_
      obtain ⟨b20, o21, A22, C23, ha24, hc25⟩ := IsTs.open hl
      refine WL.val (.pointer (some ⟨b20, o21 + x.2.2 * 2, none⟩)) rfl rfl rfl (fun za zC zh zk => ix_25 (k := x.2.2) rfl (zh.ev rfl) (ha24 x.2.2 (by first | omega | (simp; omega))) (zh.ev rfl) (by first | omega | (simp; omega)) zk) ?_
      refine WL.val (.func (.func 62) #[] #[.pointer (some ⟨g, 0, none⟩)]) rfl rfl rfl (fun za zC zh zk => wp_move rfl (zh.ev rfl) zk) ?_
      refine WL.call rfl rfl rfl (fun za zh zC => wp_call (by kernel_rfl) rfl (hv2 (zh.ev rfl) (zh.ev rfl))) (each_step (by omega) (ih (tget l x.2.2) (tget_mem (by omega)) w0 _ _ _ g base _ _ _ _ _ _ hb13 (hc25 x.2.2 (by omega)).1 (hc25 x.2.2 (by omega)).2.1 (hc25 x.2.2 (by omega)).2.2 hB14 hr15 hbw hg hbs (each_len hz (by omega)))) ?_
      rintro _ w33 ⟨rfl, ⟨ra226, rc227, n228, hB229, hO230, hC31⟩⟩
      have hb34 := chg_below hb13 hC31 (fun b hb => (by (try dsimp only at *); omega))
      obtain rfl := ownI_len hO230
      have hbs232 : base ≤ w33.heap.size := Nat.le_trans hbw hC31.size
      refine WL.val (.bool false) rfl rfl rfl (fun za zC zh zk => wp_not rfl (zh.ev rfl) zk) ?_
      refine WL.nil (WE.sub (K' := [(0, .pointer (some ⟨b, o, none⟩)), (1, .func (.func 62) #[] #[.pointer (some ⟨g, 0, none⟩)]), (5, .int .i64 (((x.2.2 : Nat) : Int))), (9, .bool false), (14, .int .i64 (((l.length : Nat) : Int))), (15, .int .i64 (((x.2.2 : Nat) : Int))), (16, .bool ((decide ((((x.2.2 : Nat) : Int) : Int) < (((l.length : Nat) : Int) : Int))))), (26, .bool false)]) ⟨rfl, rfl, rfl, rfl, rfl, rfl, rfl, rfl, trivial⟩ ?_)
      refine WE.next ?_
      refine WC.condF rfl rfl ?_
      refine WC.skip ?_
      refine WE.blockNormal ?_
      refine WE.next ?_
      refine WC.region ?_
      refine WL.val (.int .i64 ((((x.2.2 + 1) : Nat) : Int))) rfl rfl rfl (fun za zC zh zk => addb_3 rfl (zh.ev rfl) (zh.ev rfl) (wrap_eq (by omega) (by omega) (by omega)) zk) ?_
      refine WL.val (.int .i64 ((((x.2.2 + 1) : Nat) : Int))) rfl rfl rfl (fun za zC zh zk => wp_move rfl (zh.ev rfl) zk) ?_
      refine WL.nil (WE.sub (K' := [(0, .pointer (some ⟨b, o, none⟩)), (1, .func (.func 62) #[] #[.pointer (some ⟨g, 0, none⟩)]), (5, .int .i64 (((x.2.2 : Nat) : Int))), (9, .bool false), (14, .int .i64 (((l.length : Nat) : Int))), (15, .int .i64 ((((x.2.2 + 1) : Nat) : Int))), (16, .bool ((decide ((((x.2.2 : Nat) : Int) : Int) < (((l.length : Nat) : Int) : Int))))), (26, .bool false)]) ⟨rfl, rfl, rfl, rfl, rfl, rfl, rfl, rfl, trivial⟩ ?_)
      refine WE.round ((ra226, rc227, x.2.2 + 1)) ⟨rfl, rfl, rfl, rfl, rfl, trivial⟩ ?_ ?_
      · have hs35 : Chg ((fun k => base ≤ k ∨ k = g)) w w33 := (Chg.trans2 (Chg.trans2 (Chg.refl ((fun k => base ≤ k ∨ k = g)) _) hc17 (fun i h1 h2 => by (try dsimp only at *); omega)) hC31 (fun i h1 h2 => by (try dsimp only at *); omega))
        exact ⟨by dsimp only; omega, hbs232, hb34, (by dsimp only; exact hB229), (by have z2 := hbs232; omega), (by dsimp only; exact hO230), hs35⟩
      · dsimp only; omega
    · have h18 : ¬ ((((x.2.2 : Nat) : Int) : Int) < (((l.length : Nat) : Int) : Int)) := by simpa using h18
      refine WC.exit ?_
      refine WE.thenExit ?_
      refine WE.thenExit ?_
      refine WE.blockIs rfl ?_
      refine WE.next ?_
      refine WC.seq ?_
      refine WC.region ?_
      refine WL.val (.bool true) rfl rfl rfl (fun za zC zh zk => wp_assign rfl (zh.ev rfl) zk) ?_
      refine WL.nil (WE.sub (K' := [(0, .pointer (some ⟨b, o, none⟩)), (1, .func (.func 62) #[] #[.pointer (some ⟨g, 0, none⟩)]), (4, .bool true), (9, .bool false), (14, .int .i64 (((l.length : Nat) : Int))), (15, .int .i64 (((x.2.2 : Nat) : Int))), (16, .bool ((decide ((((x.2.2 : Nat) : Int) : Int) < (((l.length : Nat) : Int) : Int)))))]) ⟨rfl, rfl, rfl, rfl, rfl, rfl, rfl, trivial⟩ ?_)
      refine WE.next ?_
      refine WC.ret ?_
      refine WE.ret1 rfl rfl ?_
      have hs36 : Chg ((fun k => base ≤ k ∨ k = g)) w w11 := (Chg.trans2 (Chg.refl ((fun k => base ≤ k ∨ k = g)) _) hc17 (fun i h1 h2 => by (try dsimp only at *); omega))
      have e : varsT (.mk f l) = newsF f ++ varsTL (l.take x.2.2) := by rw [varsT, List.take_of_length_le (by omega)]
      rw [e, ← List.append_assoc]
      exact ⟨_, rfl, rfl, _, _, _, hB14, hr15, hs36⟩

end Go.Proofs.Ytlkiabgpnboicaa
