/- Regions in whatever order in which a row grows by append and is then given to a variable ('l = append(l, f(..))'). -/
import Derived.Test.YtnmopmdpnpcdhaaTEa
import Derived.Test.YtnmopmdpnpcdhaaTEb
import Derived.Scope

/- Loops over functions, and functions that hand out one thing after the other. -/
namespace Go.Proofs.Ytnmopmdpnpcdhaa
open Go.RowKit Go
set_option linter.unusedVariables false
set_option linter.unusedSimpArgs false
section
variable {P : Program}
theorem wpIn_n {r : Option Nat} {n m : Nat} {c : Code} {Q : Exit → Act → World → Prop} {a : Act} {w : World} (h : c.wpIn (fen r) n P Q a w) : c.wpIn (fen r) m P Q a w := fun b k cs hro hb _ => h b k cs hro hb (fen_room _ _)
theorem callB_enters {F : FuncId} (hF : callB P F = true) (args : Array Value) (w : World) : (callFunc F args).run P w = .ok (.enter F args) w := by
  unfold callB at hF
  split at hF
  · rename_i fn hfn
    simp only [Bool.and_eq_true, Bool.not_eq_true'] at hF
    have hp : (Sem.run P program w) = .ok P w := rfl
    simp only [callFunc, Sem.run_bind, Sem.run_pure, Result.andThen_ok, hp, hfn, hF.1, hF.2, Bool.false_eq_true, if_false]
  · simp at hF
end
/-! ### Operations behind guards, one after the other -/
section
variable {P : Program} {n : Fr} {K K' : Known} {w : World} {ops : Array Oper} {o : Oper} {rest : List Oper} {Q : Exit → Act → World → Prop}
theorem bool_split {X : Prop} (b : Bool) (ht : b = true → X) (hf : b = false → X) : X := by
  cases b
  · exact hf rfl
  · exact ht rfl
theorem wp_pickT {a : Act} {C : Act → World → Prop} {x y z : Operand} {v : Value} (ho : o.op = .pick x y z) (hx : a.eval x = .bool true) (hy : a.eval y = v) (hK : C (a.put o.dst v) w) : o.wp P a w C Q := by
  unfold Oper.wp execOp
  simp only [ho, hx, hy]
  exact hK
theorem wp_pickF {a : Act} {C : Act → World → Prop} {x y z : Operand} {v : Value} (ho : o.op = .pick x y z) (hx : a.eval x = .bool false) (hz : a.eval z = v) (hK : C (a.put o.dst v) w) : o.wp P a w C Q := by
  unfold Oper.wp execOp
  simp only [ho, hx, hz]
  exact hK
theorem WL.sub (hs : subK K' K) (h : WL P ops n K' w rest Q) : WL P ops n K w rest Q := fun a ha => h a (ha.sub hs)
theorem yielded_known {a : Act} {g d : Nat} {c : Bool} (ha : Kn n K a) (hd : (ops[g]?).bind (·.dst) = some d) (hk : look K d = some (.bool c)) : yielded ops a.tmps g = some c := by
  have := ha.knows d _ hk
  unfold yielded
  rw [hd]
  rcases Nat.lt_or_ge d a.tmps.size with h | h
  · simp only [Array.getD_eq_getD_getElem?, Array.getElem?_eq_getElem h, Option.getD_some] at this
    simp [h, this]
  · simp [Array.getD, Nat.not_lt.2 h, undef] at this
theorem WL.want {g d : Nat} {b : Bool} (hg : o.guard = some (g, b)) (hd : (ops[g]?).bind (·.dst) = some d) (hk : look K d = some (.bool b)) (h : WL P ops n K w ({ o with guard := none } :: rest) Q) : WL P ops n K w (o :: rest) Q := fun a ha => by
  have := h a ha
  unfold wpListIn at this ⊢
  have e1 : Region.wanted o (yielded ops a.tmps) = true := by unfold Region.wanted; rw [hg]; simp only [yielded_known ha hd hk]; cases b <;> rfl
  rw [if_pos e1]
  have e2 : Region.wanted { o with guard := none } (yielded ops a.tmps) = true := rfl
  rw [if_pos e2] at this
  exact this
theorem WL.skip {g d : Nat} {b c : Bool} (hg : o.guard = some (g, b)) (hd : (ops[g]?).bind (·.dst) = some d) (hk : look K d = some (.bool c)) (hne : (c == b) = false) (hlt : dstB n.n o.dst = true) (h : WL P ops n (putK K o.dst undef) w rest Q) : WL P ops n K w (o :: rest) Q := fun a ha => by
  unfold wpListIn
  have e1 : Region.wanted o (yielded ops a.tmps) = false := by unfold Region.wanted; rw [hg]; simp only [yielded_known ha hd hk]; simpa using hne
  rw [if_neg (by rw [e1]; decide)]
  exact ⟨fun f _ => fen_fn _ f, h _ (ha.puts hlt undef)⟩
end
section
variable {P : Program} {n : Fr} {K : Known} {w : World} {ops : Array Oper} {o : Oper} {rest : List Oper} {Q : Exit → Act → World → Prop}
end
/-- What is no cells may have been turned, from the block 'B' on. -/
structure Turn (B : Nat) (w w' : World) : Prop where
  os : w'.os = w.os
  tape : w'.tape = w.tape
  output : w'.output = w.output
  size : w.heap.size ≤ w'.heap.size
  block : ∀ (k : Nat) (o : Obj), w.heap[k]? = some o → (o.isCells = true ∨ k < B) → w'.heap[k]? = some o
theorem Turn.of {B : Nat} {w w' : World} {row : Option Nat} (h : w.grownBy w' row) (hr : ∀ r, row = some r → B ≤ r ∧ ∃ o : Obj, w.heap[r]? = some o ∧ o.isCells = false) : Turn B w w' :=
  ⟨h.os, h.tape, h.output, h.size, fun k o hk ho => (h.block k (Array.getElem?_eq_some_iff.1 hk).1 (fun e => by
    obtain ⟨h1, o', h2, h3⟩ := hr k e.symm
    rw [hk] at h2; obtain rfl := Option.some.inj h2
    rcases ho with ho | ho
    · rw [h3] at ho; cases ho
    · omega)).trans hk⟩
/-- A walk through what a loop's round does keeps what is no cells. -/
theorem keepsFrom_below {B : Nat} {w w' : World} (h : Below w.heap.size w w') : KeepsFrom B w w' :=
  ⟨h.size, fun k o _ hk _ => (h.block k (Array.getElem?_eq_some_iff.1 hk).1).trans hk⟩
abbrev markOf (D : Nat) : Deferred := { target := .collected D, args := #[] }
/-! ### Leaving behind such loops -/
/-- The mark of such a loop. -/
def Mk (w : World) (D : Nat) : Prop := w.heap[D]? = some (.deferred (some []))
theorem Mk.lt {w : World} {D : Nat} (h : Mk w D) : D < w.heap.size := (Array.getElem?_eq_some_iff.1 h).1
theorem Mk.below {w w' : World} {D : Nat} (h : Mk w D) (hb : Below w.heap.size w w') : Mk w' D := (hb.block D h.lt).trans h
theorem Mk.upd {w w' : World} {D g : Nat} (h : Mk w D) (hu : Upd g w w') (hg : D ≠ g) : Mk w' D := (hu.block D hg).trans h
theorem Mk.chg {w w' : World} {D : Nat} {S : Nat → Prop} (h : Mk w D) (hc : Chg S w w') (hg : ¬ S D) : Mk w' D := (hc.block D h.lt hg).trans h
section
variable {P : Program} {N : Nat} {r : Option Nat} {ds : List Deferred} {K : Known} {w w' : World} {fn : Func} {R : Ending → World → Prop}
end
section
variable {P : Program} {N : Nat} {ds : List Deferred}
theorem Kn.sets {K : Known} {a : Act} (h : Kn ⟨N, ds, none⟩ K a) : ∀ {ps : List Nat} {vs : List Value}, (ps.all fun p => Nat.blt p N) = true → Kn ⟨N, ds, none⟩ ((ps.zip vs).foldl (fun K p => (p.1, p.2) :: K) K) ⟨(ps.zip vs).foldl (fun t p => t.setIfInBounds p.1 p.2) a.tmps, a.defers⟩ := by
  intro ps
  induction ps generalizing K a with
  | nil => intro vs _; exact h
  | cons p r ih =>
    intro vs hp
    cases vs with
    | nil => exact h
    | cons v vs =>
      simp only [List.all_cons, Bool.and_eq_true] at hp
      exact ih (a := a.put (some p) v) (h.put hp.1 v) hp.2
/-- The law of a loop over a function: of 'x' it hands out 'encs x' into the slots 'ps'; a round changes blocks of 'S' alone. -/
theorem WC.range {α γ : Type} {g : Operand} {ps : List Nat} {assign body : Code} {Q : Exit → Act → World → Prop} {K : Known} {w : World} (S : Nat → Prop) {gf : Nat} {lb : Array Value} (hg : ev K g = some (.func (.func gf) #[] lb)) (hF : callB P gf = true) (hp : (ps.all fun p => Nat.blt p N) = true)
    {encs : α → List Value} {Sx Sp : List α → Prop} {M : Nat} {w0 : World} (hseq : SeqStopsK Fence.wide 0 P gf lb (fun x => (encs x).toArray) (Chg S) Sx Sp M w0)
    (hS : ∀ l, w.heap.size ≤ l → S l) (hb0 : Below w0.heap.size w0 w) (hps : ∀ x, (encs x).length = ps.length)
    (KB : α → γ → Known) (AW : α → γ → World → Prop) (I : List α → World → Prop) (Ix : Code → List α → World → Prop) (hI : ∀ s W W', Turn w.heap.size W W' → I s W → I s W') (hIx : ∀ c s W W', Turn w.heap.size W W' → Ix c s W → Ix c s W')
    (hAW : ∀ x y W W', Turn w.heap.size W W' → AW x y W → AW x y W') (h0 : I [] w)
    (hassign : ∀ (l : Nat) (pre : List α) (x : α) (W : World), I pre W → WC P ⟨N, [], some l⟩ ((ps.zip (encs x)).foldl (fun K p => (p.1, p.2) :: K) K) W assign (Exit.then (fun a' W' => Below W.heap.size W W' ∧ ∃ y, Kn ⟨N, [], some l⟩ (KB x y) a' ∧ AW x y W') (fun _ _ _ => False)))
    (hbody : ∀ (l : Nat) (pre : List α) (x : α) (y : γ) (W : World), I pre W → AW x y W → pre.length < M → WC P ⟨N, [], some l⟩ (KB x y) W body (ownPostG w.heap.size (Chg S) I Ix (pre ++ [x]) W))
    (hdone : ∀ (D : Nat) (xs : List α) (W : World), w.heap.size ≤ D → Sx xs → I xs W → Mk W D → WE ⟨N, markOf D :: ds, none⟩ K W Q .normal)
    (hstop : ∀ (D : Nat) (c : Code) (pre : List α) (W : World), w.heap.size ≤ D → Sp pre → Ix c pre W → Mk W D → WC P ⟨N, markOf D :: ds, none⟩ K W c Q) :
    WC P ⟨N, ds, none⟩ K w (.rangeFunc g ps.toArray assign body) Q := by
  intro a ha
  have turn : ∀ {W W' : World} {row : Option Nat}, W.grownBy W' row → (∀ r, row = some r → w.heap.size ≤ r ∧ ∃ o : Obj, W.heap[r]? = some o ∧ o.isCells = false) → Turn w.heap.size W W' := fun h hr => Turn.of h hr
  refine wpIn_n (r := none) (n := 1) (wpIn_rangeFunc_ownH (F := Fence.wide) (n := 1) rfl (Nat.le_refl _) (ha.ev hg) trivial (callB_enters hF) (encs := fun x => (encs x).toArray) hseq (fun h k => h.trans k) (fun W l o o' hl h _ _ => ?_) hb0 (fun x => by simpa using hps x)
    I Ix (fun s W W' row h hg hr => hI s W W' (turn hg hr) h) (fun c s W W' row h hg hr => hIx c s W W' (turn hg hr) h) h0 (fun x a' W => ∃ y, Kn ⟨N, [], none⟩ (KB x y) a' ∧ AW x y W) (fun x a' s W W' row h hg hr => by
      obtain ⟨y, h1, h2⟩ := h
      exact ⟨y, h1, hAW x y W W' (turn hg hr) h2⟩) ?_ ?_ ?_ ?_)
  · have hg := grownBy_putObj' W l o'
    exact ⟨hg.os, hg.tape, hg.output, hg.size, fun k hk hn => hg.block k hk (fun e => hn (by rw [Option.some.inj e]; exact hS l hl))⟩
  · intro l pre x W C hi hC
    have ha' : Kn ⟨N, [], some l⟩ ((ps.zip (encs x)).foldl (fun K p => (p.1, p.2) :: K) K) ⟨(ps.zip (encs x)).foldl (fun t p => t.setIfInBounds p.1 p.2) a.tmps, []⟩ := by
      have h1 : Kn ⟨N, [], none⟩ K ⟨a.tmps, []⟩ := ⟨ha.size, rfl, ha.knows⟩
      have h2 := h1.sets (vs := encs x) hp
      exact ⟨h2.size, rfl, h2.knows⟩
    have e : ((ps.toArray.zip (encs x).toArray).foldl (fun t (p, v) => t.setIfInBounds p v) a.tmps) = (ps.zip (encs x)).foldl (fun t p => t.setIfInBounds p.1 p.2) a.tmps := by simp
    rw [e]
    refine wpIn_mono (hassign l pre x W hi _ ha') ?_
    intro e a1 W1 h
    cases e with
    | normal =>
      obtain ⟨hb, y, hk, hA⟩ := h
      exact hC a1 W1 (keepsFrom_below hb) (.ofBelow hb) (hI _ _ _ ⟨hb.os, hb.tape, hb.output, hb.size, fun k o hk _ => (hb.block k (Array.getElem?_eq_some_iff.1 hk).1).trans hk⟩ hi) ⟨y, ⟨hk.size, hk.defers, hk.knows⟩, hA⟩
    | _ => exact h
  · rintro l pre x a' W _ _ hi ⟨y, hk, hA⟩ hlen
    exact hbody l pre x y W hi hA hlen a' ⟨hk.size, hk.defers, hk.knows⟩
  · intro D xs W hD hs hi hw
    exact hdone D xs W hD hs hi hw _ ⟨ha.size, by rw [ha.defers], ha.knows⟩
  · intro D c pre W hD hs hi hw
    exact wpIn_n (r := none) (hstop D c pre W hD hs hi hw _ ⟨ha.size, by rw [ha.defers], ha.knows⟩)
end
/-! ### The other side: a function that hands out -/
/-- What has been handed out, as the loop knows it. -/
structure Had {β : Type} (B : Nat) (J : List β → World → Prop) (pre : List β) (w : World) : Prop where
  abide : AbidesFrom B J
  now : J pre w
theorem grown_of_below {w w' : World} (h : Below w.heap.size w w') : w.grownBy w' none := ⟨h.os, h.tape, h.output, h.size, fun k hk _ => h.block k hk⟩
theorem Had.below {β : Type} {B : Nat} {J : List β → World → Prop} {pre : List β} {w w' : World} (h : Had B J pre w) (hb : Below w.heap.size w w') : Had B J pre w' :=
  ⟨h.abide, h.abide pre w w' none h.now (grown_of_below hb) (fun r e => by cases e)⟩
section
variable {P : Program} {w : World} {a : Act} {Q : Exit → Act → World → Prop} {o : Oper}
end
end Go.Proofs.Ytnmopmdpnpcdhaa

/- The matcher: made, marked, taken back. -/
namespace Go.Proofs.Ytnmopmdpnpcdhaa
open Go.RowKit Go
set_option linter.unusedVariables false
set_option linter.unusedSimpArgs false
set_option maxRecDepth 100000 in
theorem new_any (w : World) : Calls Try.prog 36 #[] w (Ret fun v' w' => (∃ g C, v' = .pointer (some ⟨g, 0, none⟩) ∧ MatAt w' g [] C ∧ ∀ b, C b → w.heap.size ≤ b) ∧ Below w.heap.size w w') := by
 refine Calls.walk (l := []) Try.func36 rfl (by kernel_rfl) ?_
 refine WC.sub (K' := []) trivial ?_
 refine WC.seq (WC.region (WL.asg rfl rfl rfl rfl rfl (WL.nil (WE.next (WC.seq (WC.region ?_))))))
 refine WL.step (post := NewMap w) rfl rfl rfl (fun za zC zh zk => wp_makeMap_im rfl zk) ?_
 rintro _ w1 ⟨g2, rfl, hg3, hM4, hb5, hz6⟩
 have hl7 : w.heap.size ≤ g2 := by omega
 refine WL.val (.agg #[.map ((some g2)), .slice none 0 0]) rfl rfl rfl (fun za zC zh zk => build_89_0 rfl (zh.ev rfl) zk) ?_
 refine WL.step (post := NewBlk w1 89 #[.map ((some g2)), .slice none 0 0]) rfl rfl rfl (fun za zC zh zk => box_89 rfl (zh.ev rfl) (zk _ _ (newBlk _ _ _))) ?_
 rintro _ w8 ⟨g9, rfl, hg10, hB11, hb12, hz13⟩
 have hl14 : g2 < g9 := by have z1 := hM4.lt; omega
 have hl15 : w.heap.size ≤ g9 := by have z2 := (hb5).size; omega
 refine WL.asg rfl rfl rfl rfl rfl (WL.nil (WE.next (WC.ret (WE.ret1 rfl rfl ?_))))
 have hb16 : Below w.heap.size w w8 := (bstep hb5 hb12)
 have ho17 := hM4.below hb12
 have hgz := (hb16).size
 exact ⟨_, rfl, ⟨g9, fun b => b = g9 ∨ b = g2, rfl, ⟨g2, #[], 0, none, 0, [], hB11, ho17, ImE.nil, List.Pairwise.nil, RowE.nil, rfl, fun i hi => absurd hi (Nat.not_lt_zero i), fun x hx => (nomatch hx), fun x hx => (nomatch hx), .inl rfl, .inr rfl, fun b q => (nomatch q), fun b q => by rcases q with rfl | rfl; exact hB11.lt; exact (ho17).lt⟩, fun b q => by rcases q with rfl | rfl <;> omega⟩, hb16⟩
set_option maxRecDepth 100000 in
theorem mark_any {g : Nat} {st : List Bd} {C : Nat → Prop} (w : World) (h : MatAt w g st C) : Calls Try.prog 44 #[.pointer (some ⟨g, 0, none⟩)] w (Ret fun v' w' => v' = .int .i64 (st.length : Nat) ∧ Below w.heap.size w w') := by
 obtain ⟨mb, es, cl, a, c, ps, hM⟩ := h
 refine Calls.walk (l := [.pointer (some ⟨g, 0, none⟩)]) Try.func44 rfl (by kernel_rfl) ?_
 refine WC.sub (K' := [(0, .pointer (some ⟨g, 0, none⟩))]) ⟨rfl, trivial⟩ ?_
 refine WC.seq (WC.region (WL.asg rfl rfl rfl rfl rfl (WL.nil (WE.next (WC.seq (WC.seq (WC.region (WL.mv rfl rfl rfl rfl rfl ?_))))))))
 refine WL.val (.bool false) rfl rfl rfl (fun za zC zh zk => eqlp_78 rfl (zh.ev rfl) (zh.ev rfl) zk) ?_
 refine WL.nil (WE.next ?_)
 refine WC.condF rfl rfl ?_
 refine WC.skip (WE.next (WC.seq (WC.region (WL.mv rfl rfl rfl rfl rfl ?_))))
 refine WL.val _ rfl rfl rfl (fun za zC zh zk => nilCheck_ rfl (zh.ev rfl) zk) ?_
 refine WL.val _ rfl rfl rfl (fun za zC zh zk => fld_89_1 rfl (zh.ev rfl) zk) ?_
 refine WL.val _ rfl rfl rfl (fun za zC zh zk => ld_36 rfl (zh.ev rfl) ((hM.blk.cell 1).trans rfl) zk) ?_
 refine WL.val (.int .i64 (((st.length : Nat) : Int))) rfl rfl rfl (fun za zC zh zk => len_36 rfl (zh.ev rfl) zk) ?_
 refine WL.asg rfl rfl rfl rfl rfl (WL.nil (WE.next (WC.ret (WE.ret1 rfl rfl ?_))))
 exact ⟨_, rfl, rfl, (Below.refl _ _)⟩
def backTo (st : List Bd) (m : Int) : List Bd := if 0 ≤ m ∧ m ≤ st.length then st.take m.toNat else st
theorem backTo_nat {st : List Bd} {m : Nat} (h : m ≤ st.length) : backTo st (m : Int) = st.take m := by unfold backTo; rw [if_pos ⟨by omega, by omega⟩]; simp
set_option maxRecDepth 100000 in
theorem back_any {g : Nat} {st : List Bd} {C : Nat → Prop} (m : Int) (w : World) (h : MatAt w g st C) : Calls Try.prog 45 #[.pointer (some ⟨g, 0, none⟩), .int .i64 m] w (Ret fun v' w' => MatAt w' g (backTo st m) C ∧ Chg C w w') := by
 have h0 := h
 obtain ⟨mb, es, cl, a, c, ps, hM⟩ := h
 have hgm := hM.gmb
 have hgl := hM.blk.lt
 have hml := hM.map.lt
 obtain ⟨hcap1, hcap2⟩ := hM.cap
 have hkey : ((st.map (·.var)).zip ps).map (·.1) = st.map (·.var) := List.map_fst_zip (by rw [hM.len]; simp)
 have hZn : (((st.map (·.var)).zip ps).map (·.1)).Nodup := by rw [hkey]; exact hM.nd
 unfold maxLen at hcap2
 have hZl : ((st.map (·.var)).zip ps).length = st.length := by simp [hM.len]
 refine Calls.walk (l := [.pointer (some ⟨g, 0, none⟩), .int .i64 m]) Try.func45 rfl (by kernel_rfl) ?_
 refine WC.sub (K' := [(0, .pointer (some ⟨g, 0, none⟩)), (1, .int .i64 m)]) ⟨rfl, rfl, trivial⟩ ?_
 refine WC.seq (WC.seq ?_)
 refine WC.opt [(true, .val (.pointer (some ⟨g, 0, none⟩))), (true, .val (.bool false)), (true, .val (.bool false)), ((true && !false), .val (.int .i64 m)), ((true && !false), .val (.bool ((decide ((m : Int) < (0 : Int)))))), (true, .val (.bool ((decide ((m : Int) < (0 : Int)))))), (true, .val (.bool ((decide ((m : Int) < (0 : Int)))))), ((true && !(decide ((m : Int) < (0 : Int)))), .val (.int .i64 m)), ((true && !(decide ((m : Int) < (0 : Int)))), .val (.pointer (some ⟨g, 0, none⟩))), ((true && !(decide ((m : Int) < (0 : Int)))), .val (.pointer (some ⟨g, 0, none⟩))), ((true && !(decide ((m : Int) < (0 : Int)))), .val (.pointer (some ⟨g, 1, none⟩))), ((true && !(decide ((m : Int) < (0 : Int)))), .val (.slice a st.length c)), ((true && !(decide ((m : Int) < (0 : Int)))), .val (.int .i64 (((st.length : Nat) : Int)))), ((true && !(decide ((m : Int) < (0 : Int)))), .val (.bool ((decide ((((st.length : Nat) : Int) : Int) < (m : Int)))))), (true, .val (.bool (((decide ((m : Int) < (0 : Int))) || (decide ((((st.length : Nat) : Int) : Int) < (m : Int)))))))] [(0, .pointer (some ⟨g, 0, none⟩)), (1, .int .i64 m)] ⟨rfl, rfl, trivial⟩ (by kernel_rfl) (by kernel_rfl) (by kernel_rfl) ?_ ?_
 ·refine ⟨⟨true, .none rfl, fun h w => optUndef h, fun zβ za zw zc => ?_⟩, ?_⟩
  ·exact wp_move rfl (zc.kn.ev rfl) ⟨_, rfl, Below.refl _ _, optDef zβ rfl⟩
  refine ⟨⟨true, .none rfl, fun h w => optUndef h, fun zβ za zw zc => ?_⟩, ?_⟩
  ·exact eqlp_78 rfl ((evt za 6).trans (optVal (zc.dep 0 6 (by kernel_rfl)) rfl rfl)) (zc.kn.ev rfl) ⟨_, rfl, Below.refl _ _, optDef zβ rfl⟩
  refine ⟨⟨true, .none rfl, fun h w => optUndef h, fun zβ za zw zc => ?_⟩, ?_⟩
  ·exact wp_move rfl ((evt za 7).trans (optVal (zc.dep 1 7 (by kernel_rfl)) rfl rfl)) ⟨_, rfl, Below.refl _ _, optDef zβ rfl⟩
  refine ⟨⟨_, .no (c := false) (d := true) rfl (fun v w h => h), fun h w => optUndef h, fun zβ za zw zc => ?_⟩, ?_⟩
  ·exact wp_move rfl (zc.kn.ev rfl) ⟨_, rfl, Below.refl _ _, optDef zβ rfl⟩
  refine ⟨⟨_, .no (c := false) (d := true) rfl (fun v w h => h), fun h w => optUndef h, fun zβ za zw zc => ?_⟩, ?_⟩
  ·exact lss_3 rfl ((evt za 9).trans (optVal (zc.dep 3 9 (by kernel_rfl)) rfl rfl)) (zc.kn.ev rfl) ⟨_, rfl, Below.refl _ _, optDef zβ rfl⟩
  refine ⟨⟨true, .none rfl, fun h w => optUndef h, fun zβ za zw zc => ?_⟩, ?_⟩
  ·exact wp_pickF rfl ((evt za 8).trans (optVal (zc.dep 2 8 (by kernel_rfl)) rfl rfl)) ((evt za 10).trans (optVal (zc.dep 4 10 (by kernel_rfl)) rfl rfl)) ⟨_, rfl, Below.refl _ _, optDef zβ rfl⟩
  refine ⟨⟨true, .none rfl, fun h w => optUndef h, fun zβ za zw zc => ?_⟩, ?_⟩
  ·exact wp_move rfl ((evt za 11).trans (optVal (zc.dep 5 11 (by kernel_rfl)) rfl rfl)) ⟨_, rfl, Below.refl _ _, optDef zβ rfl⟩
  refine ⟨⟨_, .no (c := (decide ((m : Int) < (0 : Int)))) (d := true) rfl (fun v w h => h), fun h w => optUndef h, fun zβ za zw zc => ?_⟩, ?_⟩
  ·exact wp_move rfl (zc.kn.ev rfl) ⟨_, rfl, Below.refl _ _, optDef zβ rfl⟩
  refine ⟨⟨_, .no (c := (decide ((m : Int) < (0 : Int)))) (d := true) rfl (fun v w h => h), fun h w => optUndef h, fun zβ za zw zc => ?_⟩, ?_⟩
  ·exact wp_move rfl (zc.kn.ev rfl) ⟨_, rfl, Below.refl _ _, optDef zβ rfl⟩
  refine ⟨⟨_, .no (c := (decide ((m : Int) < (0 : Int)))) (d := true) rfl (fun v w h => h), fun h w => optUndef h, fun zβ za zw zc => ?_⟩, ?_⟩
  ·exact nilCheck_ rfl ((evt za 14).trans (optVal (zc.dep 8 14 (by kernel_rfl)) rfl zβ)) ⟨_, rfl, Below.refl _ _, optDef zβ rfl⟩
  refine ⟨⟨_, .no (c := (decide ((m : Int) < (0 : Int)))) (d := true) rfl (fun v w h => h), fun h w => optUndef h, fun zβ za zw zc => ?_⟩, ?_⟩
  ·exact fld_89_1 rfl ((evt za 15).trans (optVal (zc.dep 9 15 (by kernel_rfl)) rfl zβ)) ⟨_, rfl, Below.refl _ _, optDef zβ rfl⟩
  refine ⟨⟨_, .no (c := (decide ((m : Int) < (0 : Int)))) (d := true) rfl (fun v w h => h), fun h w => optUndef h, fun zβ za zw zc => ?_⟩, ?_⟩
  ·exact ld_36 rfl ((evt za 16).trans (optVal (zc.dep 10 16 (by kernel_rfl)) rfl zβ)) (bkeeps zc.below _ _ ((hM.blk.cell 1).trans rfl)) ⟨_, rfl, Below.refl _ _, optDef zβ rfl⟩
  refine ⟨⟨_, .no (c := (decide ((m : Int) < (0 : Int)))) (d := true) rfl (fun v w h => h), fun h w => optUndef h, fun zβ za zw zc => ?_⟩, ?_⟩
  ·exact len_36 rfl ((evt za 17).trans (optVal (zc.dep 11 17 (by kernel_rfl)) rfl zβ)) ⟨_, rfl, Below.refl _ _, optDef zβ rfl⟩
  refine ⟨⟨_, .no (c := (decide ((m : Int) < (0 : Int)))) (d := true) rfl (fun v w h => h), fun h w => optUndef h, fun zβ za zw zc => ?_⟩, ?_⟩
  ·exact gtr_3 rfl ((evt za 13).trans (optVal (zc.dep 7 13 (by kernel_rfl)) rfl zβ)) ((evt za 18).trans (optVal (zc.dep 12 18 (by kernel_rfl)) rfl zβ)) ⟨_, rfl, Below.refl _ _, optDef zβ rfl⟩
  refine ⟨⟨true, .none rfl, fun h w => optUndef h, fun zβ za zw zc => ?_⟩, ?_⟩
  ·exact wp_or rfl ((evt za 12).trans (optVal (zc.dep 6 12 (by kernel_rfl)) rfl rfl)) (fun hp => ((evt za 19).trans (optVal (zc.dep 13 19 (by kernel_rfl)) rfl (bMkN zβ hp)))) ⟨_, rfl, Below.refl _ _, optDef zβ rfl⟩
  exact trivial
 ·intro za w1 zh hb2 zu
  have zh := zh.cons (d := 20) (v := .bool (((decide ((m : Int) < (0 : Int))) || (decide ((((st.length : Nat) : Int) : Int) < (m : Int)))))) (optVal (zu 14 20 (by kernel_rfl)) rfl rfl)
  clear zu
  refine WE.go zh ?_
  refine WE.next ?_
  refine WC.cond rfl (fun h3 => ?_) (fun h3 => ?_)
  ·have h3 : ((m : Int) < (0 : Int)) ∨ ((((st.length : Nat) : Int) : Int) < (m : Int)) := by simpa using h3
   (try simp at h3)
   refine WC.ret (WE.thenRet (WE.ret0 rfl ?_))
   exact ⟨_, rfl, by unfold backTo; rw [if_neg (by omega)]; exact h0.below hb2, .ofBelow hb2⟩
  ·have h3 : ¬ (((m : Int) < (0 : Int)) ∨ ((((st.length : Nat) : Int) : Int) < (m : Int))) := by simpa using h3
   (try simp at h3)
   obtain ⟨mk, rfl⟩ : ∃ k : Nat, m = k := ⟨m.toNat, by omega⟩
   have hmk : mk ≤ st.length := by omega
   refine WC.skip (WE.next (WC.seq (WC.seq (WC.region (WL.mv rfl rfl rfl rfl rfl ?_)))))
   refine WL.val _ rfl rfl rfl (fun za zC zh zk => nilCheck_ rfl (zh.ev rfl) zk) ?_
   refine WL.val _ rfl rfl rfl (fun za zC zh zk => fld_89_1 rfl (zh.ev rfl) zk) ?_
   have hB4 := hM.blk.below hb2
   refine WL.val _ rfl rfl rfl (fun za zC zh zk => ld_36 rfl (zh.ev rfl) ((hB4.cell 1).trans rfl) zk) ?_
   refine WL.mv rfl rfl rfl rfl rfl ?_
   refine WL.val (.slice ((slA a mk 1 c)) ((st.length - mk)) ((c - mk))) rfl rfl rfl (fun za zC zh zk => slo_36 (k := mk) rfl (zh.ev rfl) (zh.ev rfl) (by omega) (by omega) zk) ?_
   refine WL.val (.int .i64 ((((st.length - mk) : Nat) : Int))) rfl rfl rfl (fun za zC zh zk => len_36 rfl (zh.ev rfl) zk) ?_
   refine WL.mv rfl rfl rfl rfl rfl (WL.nil (WE.next (WC.block ?_)))
   refine WC.loop (X := Nat × Array MapEntry × Nat) (fun x => (st.length - mk) - x.1) (fun x => [(0, .pointer (some ⟨g, 0, none⟩)), (1, .int .i64 (((mk : Nat) : Int))), (20, .bool (((decide (((mk : Int) : Int) < (0 : Int))) || (decide ((((st.length : Nat) : Int) : Int) < ((mk : Int) : Int)))))), (26, .slice ((slA a mk 1 c)) ((st.length - mk)) ((c - mk))), (27, .int .i64 ((((st.length - mk) : Nat) : Int))), (28, .int .i64 (((x.1 : Nat) : Int)))]) (fun x w5 => x.1 ≤ st.length - mk ∧ ImE x.2.1 x.2.2 (((st.map (·.var)).zip ps).take mk ++ ((st.map (·.var)).zip ps).drop (mk + x.1)) ∧ Blk w5 g 89 #[.map ((some mb)), .slice a st.length c] ∧ ObjAt (w5) mb (.map x.2.1 x.2.2) ∧ Chg (fun b => b = g ∨ b = mb) w w5) ((0, es, cl)) ⟨rfl, rfl, rfl, rfl, rfl, rfl, trivial⟩ ?_ ?_
   ·have ho6 := hM.map.below hb2
    have hs7 : Chg (fun b => b = g ∨ b = mb) w w1 := (Chg.trans2 (Chg.refl (fun b => b = g ∨ b = mb) _) (Chg.ofBelow (S := fun k => k < 0) hb2) (fun i h1 h2 => by first | exact h2 | exact .inl ⟨h2, h1⟩ | exact .inl h2 | exact .inr h2 | exact .inr (.inl h2) | exact .inr (.inr h2) | ((try dsimp only at *); omega)))
    exact ⟨Nat.zero_le _, (by dsimp only; rw [Nat.add_zero, List.take_append_drop]; exact hM.ent), hB4, ho6, hs7⟩
   ·rintro x w5 ⟨hk, hE, hB8, ho9, hc10⟩
    refine WC.seq (WC.region ?_)
    refine WL.val (.bool ((decide ((((x.1 : Nat) : Int) : Int) < ((((st.length - mk) : Nat) : Int) : Int))))) rfl rfl rfl (fun za zC zh zk => lss_3 rfl (zh.ev rfl) (zh.ev rfl) zk) ?_
    refine WL.nil (WE.next (WC.seq ?_))
    refine WC.cond rfl (fun h11 => ?_) (fun h11 => ?_)
    ·have h11 : (((x.1 : Nat) : Int) : Int) < ((((st.length - mk) : Nat) : Int) : Int) := by simpa using h11
     refine WC.skip (WE.next (WC.seq (WC.block (WC.seq (WC.region ?_)))))
     have hs16 : Chg ((fun b => b = g ∨ b = mb)) w w5 := (Chg.trans2 (Chg.refl ((fun b => b = g ∨ b = mb)) _) hc10 (fun i h1 h2 => by first | exact h2 | exact .inl ⟨h2, h1⟩ | exact .inl h2 | exact .inr h2 | exact .inr (.inl h2) | exact .inr (.inr h2) | ((try dsimp only at *); omega)))
     obtain ⟨b12, o13, ha14, hc15⟩ := InRow.openI (InRow.dropI ((hM.row.chgOwn (fun S w w' x cs q => eltI_any S S w w' x cs q) hs16 (fun b q => by rintro (rfl | rfl); exact hM.rowg q; exact hM.rowmb q)).inRow.1) (by simp; omega) (by simp; omega))
     refine WL.val _ rfl rfl rfl (fun za zC zh zk => ix_36 (k := x.1) rfl (zh.ev rfl) (ha14 x.1 (by simp; omega)) (zh.ev rfl) (by first | omega | (simp; omega)) zk) ?_
     refine WL.val _ rfl rfl rfl (fun za zC zh zk => ld_3 rfl (zh.ev rfl) (hc15 x.1 (by simp; omega)) zk) ?_
     refine WL.asg rfl rfl rfl rfl rfl (WL.nil (WE.next (WC.region (WL.mv rfl rfl rfl rfl rfl ?_))))
     refine WL.val _ rfl rfl rfl (fun za zC zh zk => nilCheck_ rfl (zh.ev rfl) zk) ?_
     refine WL.val _ rfl rfl rfl (fun za zC zh zk => fld_89_0 rfl (zh.ev rfl) zk) ?_
     refine WL.val _ rfl rfl rfl (fun za zC zh zk => ld_87 rfl (zh.ev rfl) ((hB8.cell 0).trans rfl) zk) ?_
     refine WL.mv rfl rfl rfl rfl rfl ?_
     refine WL.step (post := fun _ w' => ∃ es' cl', ObjAt w' mb (.map es' cl') ∧ ImE es' cl' (imDel (((st.map (·.var)).zip ps).take mk ++ ((st.map (·.var)).zip ps).drop (mk + x.1)) ((List.getD (((st.map (·.var)).drop mk)) x.1 0))) ∧ Upd mb w5 w') rfl rfl rfl (fun za zC zh zk => wp_del_im Try.underlying87 Try.underlying3 ho9 hE rfl (zh.ev rfl) (zh.ev rfl) (fun w' es' cl' h1 h2 h3 => zk _ _ ⟨es', cl', h1, h2, h3⟩)) ?_
     rintro _ w17 ⟨es18, cl19, hM20, hE21, hu22⟩
     have hB23 := upd_blk hB8 hu22 (by omega)
     have hE24 : ImE es18 cl19 (((st.map (·.var)).zip ps).take mk ++ ((st.map (·.var)).zip ps).drop (mk + (x.1 + 1))) := by
      rw [imDel_mid hZn (by omega) (by simp [List.getD_eq_getElem?_getD, List.getElem?_drop]; rw [List.getElem?_eq_getElem (by omega)]; simp)] at hE21
      exact hE21
     refine WL.nil (WE.blockNormal (WE.next (WC.region ?_)))
     refine WL.val (.int .i64 ((((x.1 + 1) : Nat) : Int))) rfl rfl rfl (fun za zC zh zk => addb_3 rfl (zh.ev rfl) (zh.ev rfl) (wrap_eq (by omega) (by omega) (by omega)) zk) ?_
     refine WL.mv rfl rfl rfl rfl rfl (WL.nil ?_)
     refine WE.round ((x.1 + 1, es18, cl19)) ⟨rfl, rfl, rfl, rfl, rfl, rfl, trivial⟩ ?_ ?_
     ·have hs25 : Chg (fun b => b = g ∨ b = mb) w w17 := (Chg.trans2 (Chg.trans2 (Chg.refl (fun b => b = g ∨ b = mb) _) hc10 (fun i h1 h2 => by first | exact h2 | exact .inl ⟨h2, h1⟩ | exact .inl h2 | exact .inr h2 | exact .inr (.inl h2) | exact .inr (.inr h2) | ((try dsimp only at *); omega))) (Chg.ofUpd (S := fun k => k = mb) hu22 rfl) (fun i h1 h2 => by first | exact h2 | exact .inl ⟨h2, h1⟩ | exact .inl h2 | exact .inr h2 | exact .inr (.inl h2) | exact .inr (.inr h2) | ((try dsimp only at *); omega)))
      exact ⟨by (try dsimp only at *); omega, hE24, hB23, hM20, hs25⟩
     ·dsimp only; omega
    ·have h11 : ¬ ((((x.1 : Nat) : Int) : Int) < ((((st.length - mk) : Nat) : Int) : Int)) := by simpa using h11
     refine WC.exit (WE.thenExit (WE.thenExit (WE.blockIs rfl (WE.next (WC.region (WL.mv rfl rfl rfl rfl rfl (WL.mv rfl rfl rfl rfl rfl ?_)))))))
     refine WL.val _ rfl rfl rfl (fun za zC zh zk => nilCheck_ rfl (zh.ev rfl) zk) ?_
     refine WL.val _ rfl rfl rfl (fun za zC zh zk => fld_89_1 rfl (zh.ev rfl) zk) ?_
     refine WL.val _ rfl rfl rfl (fun za zC zh zk => ld_36 rfl (zh.ev rfl) ((hB8.cell 1).trans rfl) zk) ?_
     refine WL.mv rfl rfl rfl rfl rfl ?_
     refine WL.val (.slice a mk c) rfl rfl rfl (fun za zC zh zk => shi_36 (k := mk) rfl (zh.ev rfl) (zh.ev rfl) (by omega) zk) ?_
     refine WL.val _ rfl rfl rfl (fun za zC zh zk => nilCheck_ rfl (zh.ev rfl) zk) ?_
     refine WL.val _ rfl rfl rfl (fun za zC zh zk => fld_89_1 rfl (zh.ev rfl) zk) ?_
     refine WL.step (post := fun _ w' => Upd g w5 w' ∧ Blk w' g 89 #[.map ((some mb)), .slice a mk c]) rfl rfl rfl (fun za zC zh zk => st_36 rfl (zh.ev rfl) (zh.ev rfl) hB8 (by first | decide | simp) (fun v => zk v _ ⟨Upd.at_ _ _ _ _, hB8.set_ 1 _⟩)) ?_
     rintro v29 w26 ⟨hu27, hB28⟩
     have ho30 := ho9.upd hu27 (by omega)
     refine WL.nil (WE.end0 rfl ?_)
     have hs31 : Chg ((fun b => b = g ∨ b = mb)) w w26 := (Chg.trans2 (Chg.trans2 (Chg.refl ((fun b => b = g ∨ b = mb)) _) hc10 (fun i h1 h2 => by first | exact h2 | exact .inl ⟨h2, h1⟩ | exact .inl h2 | exact .inr h2 | exact .inr (.inl h2) | exact .inr (.inr h2) | ((try dsimp only at *); omega))) (Chg.ofUpd (S := fun k => k = g) hu27 rfl) (fun i h1 h2 => by first | exact h2 | exact .inl ⟨h2, h1⟩ | exact .inl h2 | exact .inr h2 | exact .inr (.inl h2) | exact .inr (.inr h2) | ((try dsimp only at *); omega)))
     have hE9 : ImE x.2.1 x.2.2 (((st.map (·.var)).zip ps).take mk) := by
      have z := hE
      rw [show mk + x.1 = st.length by omega, List.drop_of_length_le (by omega), List.append_nil] at z
      exact z
     exact ⟨_, rfl, by rw [backTo_nat hmk]; exact ⟨_, _, _, _, _, _, hM.back hmk hB28 ho30 hE9 hs31⟩, hs31.mono (fun b q => by rcases q with rfl | rfl; exact hM.cg; exact hM.cmb)⟩
end Go.Proofs.Ytnmopmdpnpcdhaa

/- Terms compared, as a plain function. -/
namespace Go.Proofs.Ytnmopmdpnpcdhaa
namespace T
mutual
def same : T → T → Bool
  | .mk f l, .mk g k => (f == g) && sameL l k
def sameL : List T → List T → Bool
  | [], [] => true
  | a :: r, b :: q => same a b && sameL r q
  | [], _ :: _ => false
  | _ :: _, [] => false
end
end T
end Go.Proofs.Ytnmopmdpnpcdhaa

/- Terms that are the same: the program's way. -/
namespace Go.Proofs.Ytnmopmdpnpcdhaa
open Go.RowKit Go.Sort Go
theorem T.sameL_len : ∀ (l q : List T), l.length ≠ q.length → T.sameL l q = false
  | [], [], h => absurd rfl h
  | _ :: r, _ :: q, h => by rw [T.sameL, T.sameL_len r q (by simpa using h), Bool.and_false]
  | [], _ :: _, _ => rfl
  | _ :: _, [], _ => rfl
theorem T.sameL_drop (l q : List T) (k : Nat) (h : k < l.length) (h' : k < q.length) : T.sameL (l.drop k) (q.drop k) = (T.same l[k] q[k] && T.sameL (l.drop (k + 1)) (q.drop (k + 1))) := by
  rw [List.drop_eq_getElem_cons h, List.drop_eq_getElem_cons h', T.sameL]
theorem T.sameL_end (l q : List T) (h : l.length = q.length) : T.sameL (l.drop l.length) (q.drop l.length) = true := by
  rw [List.drop_eq_nil_of_le (Nat.le_refl _), List.drop_eq_nil_of_le (by omega), T.sameL]
theorem equalFunc_any (l q : List T) (ih : ∀ a ∈ l, ∀ (t : T) (w : World) (v u : Value), IsT w a v → IsT w t u →
      Calls Try.prog 21 #[v, u] w fun e w' => e = .returned (.bool (T.same a t)) ∧ Below w.heap.size w w')
    (w : World) (a a' : Option Addr) (c c' : Nat) (hc : l.length ≤ c) (_hc' : q.length ≤ c') (hm : c ≤ maxLen) (_hm' : c' ≤ maxLen) (hl : IsTs w l a 0) (hq : IsTs w q a' 0) :
    Calls Try.prog 31 #[.slice a l.length c, .slice a' q.length c', .func (.func 21) #[] #[]] w fun e w' => e = .returned (.bool (T.sameL l q)) ∧ Below w.heap.size w w' := by
  unfold maxLen at hm
  by_cases hlen : l.length = q.length
  · have hne : ((l.length : Int) != (q.length : Int)) = false := by simp [hlen]
    have HL := Lib.hid hlen
    go_enter Try.func31, Try.ntmps31
    clear hlen
    go_wp2_with fail
    go_loopw [17] (fun i wr => ∃ (k : Nat), k ≤ l.length ∧ i = .int .i64 k ∧ Hid (T.sameL l q = T.sameL (l.drop k) (q.drop k)) ∧ Below w.heap.size w wr) (fun i _ => l.length - (intOf i).toNat)
    case atStart => exact ⟨0, Nat.zero_le _, rfl, rfl, Below.refl _ _⟩
    case round =>
      obtain ⟨k, hk, rfl, hx, hw⟩ := hrel
      by_cases hlt : k < l.length
      · have hlq : k < q.length := by have := HL.out; omega
        obtain ⟨b1, o1, a1, c1, rfl, g1, g2, h3⟩ := hl.at_ hw k hlt
        obtain ⟨b2, o2, a2, c2, rfl, g3, g4, h4⟩ := hq.at_ hw k hlq
        have IH := fun w v u => ih l[k] (List.getElem_mem hlt) q[k] w v u
        have q5 := T.sameL_drop l q k hlt hlq
        have g3 := calloc g3
        have g4 := calloc g4
        cases hz : T.same l[k] q[k] with
        | true =>
          rw [hz] at IH
          have Hh3 := Lib.hid h3
          have Hh4 := Lib.hid h4
          have Hhw := Lib.hid hw
          have Hq5 := Lib.hid q5
          have Hhx := Lib.hid hx
          have Hhz := Lib.hid hz
          clear h3 h4 hw q5 hx hz
          clear ih hl hq
          go_wp2_with (go_at_call 21; refine (IH _ _ _ (Hh3.out.below (balloc2 _ _ _)) (Hh4.out.below (balloc2 _ _ _))).mono ?_; rintro e w' ⟨rfl, hb'⟩)
          go_roundw
          case rel => exact ⟨k + 1, by omega, by go_num, by unfold Hid; rw [Hhx.out, Hq5.out, Hhz.out, Bool.true_and], bstep (bstep Hhw.out (balloc2 _ _ _)) hb'⟩
          case measure => simp [intOf]; omega
        | false =>
          rw [hz] at IH
          have Hh3 := Lib.hid h3
          have Hh4 := Lib.hid h4
          have Hhw := Lib.hid hw
          have Hq5 := Lib.hid q5
          have Hhx := Lib.hid hx
          have Hhz := Lib.hid hz
          clear h3 h4 hw q5 hx hz
          clear ih hl hq
          go_wp2_with (go_at_call 21; refine (IH _ _ _ (Hh3.out.below (balloc2 _ _ _)) (Hh4.out.below (balloc2 _ _ _))).mono ?_; rintro e w' ⟨rfl, hb'⟩)
          go_ret
          exact ⟨rbool (by rw [Hhx.out, Hq5.out, Hhz.out, Bool.false_and]), bstep (bstep Hhw.out (balloc2 _ _ _)) hb'⟩
      · obtain rfl : k = l.length := by omega
        have Q := Lib.hid (T.sameL_end l q HL.out)
        have Hhw := Lib.hid hw
        have Hhx := Lib.hid hx
        clear hw hx
        clear ih hl hq
        go_wp2_with fail
        go_ret
        exact ⟨rbool (by rw [Hhx.out, Q.out]), Hhw.out⟩
  · have hne : ((l.length : Int) != (q.length : Int)) = true := by simpa using fun h => hlen (by omega)
    have E := Lib.hid (T.sameL_len l q hlen)
    clear ih hl hq hlen
    go_enter Try.func31, Try.ntmps31
    go_wp2_with fail
    go_ret
    exact ⟨rbool E.out, Below.refl _ _⟩
theorem same_any (s : T) : ∀ (t : T) (w : World) (v u : Value), IsT w s v → IsT w t u →
    Calls Try.prog 21 #[v, u] w fun e w' => e = .returned (.bool (T.same s t)) ∧ Below w.heap.size w w' := by
  induction s using T.ind with
  | h f l ih =>
  intro t w v u hv hu
  obtain ⟨g, q⟩ := t
  obtain ⟨_, a, c, rfl, hc, hm, hl⟩ := hv
  obtain ⟨_, a', c', rfl, hc', hm', hq⟩ := hu
  have EF := fun (w' : World) hb => equalFunc_any l q ih w' a a' c c' hc hc' hm hm' (IsTs.below (w := w) (w' := w') hb hl) (hq.below hb)
  clear ih hl hq
  by_cases hfg : f = g
  · have hne : (f == g) = true := by simpa using hfg
    have E := Lib.hid (show T.same (.mk f l) (.mk g q) = T.sameL l q by rw [T.same, hne, Bool.true_and])
    subst hfg
    go_enter Try.func21, Try.ntmps21
    go_wp2_with (go_at_call 31; refine (EF _ (balloc2 _ _ _)).mono ?_; rintro e w' ⟨rfl, hb'⟩)
    go_ret
    exact ⟨rbool E.out, bstep (balloc2 _ _ _) hb'⟩
  · have hne : (f == g) = false := by simpa using hfg
    have E := Lib.hid (show T.same (.mk f l) (.mk g q) = false by rw [T.same, hne, Bool.false_and])
    clear hfg
    go_enter Try.func21, Try.ntmps21
    go_wp2_with fail
    go_ret
    exact ⟨rbool E.out, balloc2 _ _ _⟩
end Go.Proofs.Ytnmopmdpnpcdhaa

/- Matching: what a pattern makes of what is bound, in plain Lean; the walk's state. -/
namespace Go.Proofs.Ytnmopmdpnpcdhaa
open Go.RowKit Go
set_option linter.unusedVariables false
set_option linter.unusedSimpArgs false
mutual
def T.mt : T → List Bd → T → Option (List Bd)
  | .mk f l, st, t =>
    if f < 0 then (match subFind st (-1 - f) with | none => some (st ++ [⟨-1 - f, t⟩]) | some o => if T.same o t = true then some st else none)
    else if f = t.f ∧ l.length = t.args.length then T.mtL l st t.args else none
def T.mtL : List T → List Bd → List T → Option (List Bd)
  | [], st, _ => some st
  | _ :: _, st, [] => some st
  | p :: ps, st, t :: ts => match T.mt p st t with | none => none | some s => T.mtL ps s ts
end
def mts : List Bd → List (T × T) → Option (List Bd)
  | st, [] => some st
  | st, q :: r => match q.1.mt st q.2 with | none => none | some s => mts s r
theorem mts_append : ∀ (a b : List (T × T)) (st : List Bd), mts st (a ++ b) = match mts st a with | none => none | some s => mts s b
  | [], b, st => rfl
  | q :: a, b, st => by
    rw [List.cons_append, mts, mts]
    cases q.1.mt st q.2 with
    | none => rfl
    | some s => exact mts_append a b s
theorem mtL_mts : ∀ (ps ts : List T) (st : List Bd), ps.length = ts.length → T.mtL ps st ts = mts st (ps.zip ts)
  | [], _, st, _ => by rw [T.mtL]; rfl
  | p :: ps, [], st, h => by cases h
  | p :: ps, t :: ts, st, h => by
    rw [T.mtL, List.zip_cons_cons, mts]
    cases T.mt p st t with
    | none => rfl
    | some s => exact mtL_mts ps ts s (by simpa using h)
theorem mt_new {f : Int} {l : List T} {st : List Bd} {t : T} (hf : f < 0) (h : subFind st (-1 - f) = none) : (T.mk f l).mt st t = some (st ++ [⟨-1 - f, t⟩]) := by
  rw [T.mt, if_pos hf, h]
theorem mt_old {f : Int} {l : List T} {st : List Bd} {t o : T} (hf : f < 0) (h : subFind st (-1 - f) = some o) : (T.mk f l).mt st t = if T.same o t = true then some st else none := by
  rw [T.mt, if_pos hf, h]
theorem mt_sym {f : Int} {l : List T} {st : List Bd} {t : T} (hf : ¬ f < 0) (h1 : f = t.f) (h2 : l.length = t.args.length) : (T.mk f l).mt st t = mts st (l.zip t.args) := by
  rw [T.mt, if_neg hf, if_pos ⟨h1, h2⟩, mtL_mts _ _ _ h2]
theorem mt_off {f : Int} {l : List T} {st : List Bd} {t : T} (hf : ¬ f < 0) (h : ¬ (f = t.f ∧ l.length = t.args.length)) : (T.mk f l).mt st t = none := by
  rw [T.mt, if_neg hf, if_neg h]
theorem mts_one (p t : T) (st : List Bd) : mts st [(p, t)] = p.mt st t := by
  rw [mts]; cases p.mt st t <;> rfl
def ssz : List (T × T) → Nat
  | [] => 0
  | q :: r => q.1.size + ssz r
theorem ssz_append : ∀ (a b : List (T × T)), ssz (a ++ b) = ssz a + ssz b
  | [], b => by simp [ssz]
  | q :: a, b => by rw [List.cons_append, ssz, ssz, ssz_append a b]; omega
theorem ssz_zip : ∀ (ps ts : List T), ssz (ps.zip ts) ≤ T.sizeL ps
  | [], _ => by simp [ssz]
  | _ :: _, [] => by simp [ssz]
  | p :: ps, t :: ts => by rw [List.zip_cons_cons, ssz, T.sizeL]; have := ssz_zip ps ts; dsimp only; omega
/-- The walk's state: the steps that are to be done, the row of variables, what is bound, where it lies, the map. -/
structure MX where
  ta : Option Addr
  tc : Nat
  R : List (Addr × Addr)
  L : List (T × T)
  ra : Option Addr
  rc : Nat
  st : List Bd
  ps : List Value
  es : Array MapEntry
  cl : Nat
def zget (l : List (T × T)) (i : Nat) : T × T := l.getD i (.mk 0 [], .mk 0 [])
def aget (l : List (Addr × Addr)) (i : Nat) : Addr × Addr := l.getD i (⟨0, 0, none⟩, ⟨0, 0, none⟩)
structure TS (w0 : World) (g mb wt : Nat) (C Ps Ts : Nat → Prop) (st0 : List Bd) (w : World) (x : MX) : Prop where
  trow : RowE eltV2 w 0 121 x.ta x.tc x.L.length x.R
  tnew : ∀ b, (Value.slice x.ta x.L.length x.tc).ownBlock = some b → wt ≤ b
  mrow : RowE eltI w 0 3 x.ra x.rc x.st.length (x.st.map (·.var))
  mown : ∀ b, (Value.slice x.ra x.st.length x.rc).ownBlock = some b → (C b ∨ wt ≤ b) ∧ ¬ Ts b
  stk : ∀ i, i < x.L.length → InTp Ps w (zget x.L i).1 (.pointer (some (aget x.R i).1)) ∧ InTp Ts w (zget x.L i).2 (.pointer (some (aget x.R i).2))
  ptr : ∀ i, i < x.st.length → InTp Ts w (dget x.st i).t (x.ps.getD i undef)
  ent : ImE x.es x.cl ((x.st.map (·.var)).zip x.ps)
  nd : (x.st.map (·.var)).Nodup
  len : x.ps.length = x.st.length
  i64 : ∀ y ∈ x.st, I64 y.var
  sz : ∀ y ∈ x.st, y.t.size ≤ 4294967296
  psz : ∀ q ∈ x.L, q.1.size ≤ 4294967296 ∧ q.2.size ≤ 4294967296
  pre : x.st.take st0.length = st0
  chg : Chg C w0 w
  old : w0.heap.size ≤ wt
  now : wt ≤ w.heap.size
  hP : ∀ b, Ps b → b < wt ∧ ¬ C b
  hT : ∀ b, Ts b → b < wt ∧ b ≠ g ∧ b ≠ mb
  cg : C g ∧ C mb
  hC : ∀ b, C b → b < w0.heap.size
section
variable {w0 w w' : World} {g mb wt : Nat} {C Ps Ts S : Nat → Prop} {st0 : List Bd} {x : MX}
theorem TS.keep (h : TS w0 g mb wt C Ps Ts st0 w x) (hc : Chg S w w') (h0 : ∀ b, b < w0.heap.size → S b → C b) (h1 : ∀ b, Ps b → ¬ S b) (h2 : ∀ b, Ts b → ¬ S b) (h3 : ∀ b, (Value.slice x.ta x.L.length x.tc).ownBlock = some b → ¬ S b) (h4 : ∀ b, (Value.slice x.ra x.st.length x.rc).ownBlock = some b → ¬ S b) : TS w0 g mb wt C Ps Ts st0 w' x :=
  { h with
    trow := h.trow.chgOwn (fun _ _ _ _ _ q => q) hc h3
    mrow := h.mrow.chgOwn (fun _ _ _ _ _ q => q) hc h4
    stk := fun i hi => ⟨(h.stk i hi).1.chg hc h1, (h.stk i hi).2.chg hc h2⟩
    ptr := fun i hi => (h.ptr i hi).chg hc h2
    chg := h.chg.trans2 hc h0
    now := Nat.le_trans h.now hc.size }
theorem TS.below (h : TS w0 g mb wt C Ps Ts st0 w x) (hb : Below w.heap.size w w') : TS w0 g mb wt C Ps Ts st0 w' x := h.keep (S := fun _ => False) (.ofBelow hb) (fun _ _ q => q.elim) (fun _ _ => id) (fun _ _ => id) (fun _ _ => id) (fun _ _ => id)
/-- One step more. -/
theorem TS.push {ra : Option Addr} {rc : Nat} {r : Addr × Addr} {q : T × T} (h : TS w0 g mb wt C Ps Ts st0 w x) (hR : RowE eltV2 w' 0 121 ra rc (x.L.length + 1) (x.R ++ [r])) (hc : Chg (fun b => (Value.slice x.ta x.L.length x.tc).ownBlock = some b) w w')
    (ho : ∀ b, (Value.slice ra (x.L.length + 1) rc).ownBlock = some b → (Value.slice x.ta x.L.length x.tc).ownBlock = some b ∨ wt ≤ b) (h1 : InTp Ps w q.1 (.pointer (some r.1))) (h2 : InTp Ts w q.2 (.pointer (some r.2))) (hz : q.1.size ≤ 4294967296 ∧ q.2.size ≤ 4294967296) :
    TS w0 g mb wt C Ps Ts st0 w' { x with ta := ra, tc := rc, R := x.R ++ [r], L := x.L ++ [q] } := by
  have hS0 : ∀ b, (Value.slice x.ta x.L.length x.tc).ownBlock = some b → wt ≤ b := h.tnew
  have hlen : x.L.length = x.R.length := h.trow.len
  have hPs : ∀ b, Ps b → ¬ (Value.slice x.ta x.L.length x.tc).ownBlock = some b := fun b q e => by have := (h.hP b q).1; have := hS0 b e; omega
  have hTs : ∀ b, Ts b → ¬ (Value.slice x.ta x.L.length x.tc).ownBlock = some b := fun b q e => by have := (h.hT b q).1; have := hS0 b e; omega
  have hne := h.mrow.ne h.trow (by decide)
  refine { h with
    trow := by simpa using hR
    tnew := fun b e => (ho b (by simpa using e)).elim (hS0 b) id
    mrow := h.mrow.chgOwn (fun _ _ _ _ _ q => q) hc hne
    stk := fun i hi => ?_
    ptr := fun i hi => (h.ptr i hi).chg hc hTs
    psz := fun y hy => ?_
    chg := h.chg.trans2 hc (fun b hb e => by have := hS0 b e; have := h.old; omega)
    now := Nat.le_trans h.now hc.size }
  · simp only [List.length_append, List.length_singleton] at hi
    rcases Nat.lt_or_ge i x.L.length with hi2 | hi2
    · have e1 : zget (x.L ++ [q]) i = zget x.L i := by simp [zget, List.getD_eq_getElem?_getD, List.getElem?_append_left hi2]
      have e2 : aget (x.R ++ [r]) i = aget x.R i := by simp [aget, List.getD_eq_getElem?_getD, List.getElem?_append_left (show i < x.R.length by omega)]
      dsimp only
      rw [e1, e2]
      exact ⟨(h.stk i hi2).1.chg hc hPs, (h.stk i hi2).2.chg hc hTs⟩
    · obtain rfl : i = x.L.length := by omega
      have e1 : zget (x.L ++ [q]) x.L.length = q := by simp [zget, List.getD_eq_getElem?_getD]
      have e2 : aget (x.R ++ [r]) x.L.length = r := by rw [hlen]; simp [aget, List.getD_eq_getElem?_getD]
      dsimp only
      rw [e1, e2]
      exact ⟨h1.chg hc hPs, h2.chg hc hTs⟩
  · rcases List.mem_append.1 hy with hy | hy
    · exact h.psz y hy
    · simp only [List.mem_singleton] at hy; subst hy; exact hz
theorem own_len {a : Option Addr} {n m c d : Nat} : (Value.slice a n c).ownBlock = (Value.slice a m d).ownBlock := by cases a <;> rfl
theorem InRow.openV {S : Nat → Prop} {w : World} {l : List (Addr × Addr)} {a : Option Addr} {k : Nat} (h : InRow eltV2 S w l a) (hk : k < l.length) : ∃ b o : Nat, a = some ⟨b, o, none⟩ ∧ w.cell? ⟨b, o + k * 2, none⟩ = some (.pointer (some (aget l k).1)) ∧ w.cell? ⟨b, o + k * 2 + 1, none⟩ = some (.pointer (some (aget l k).2)) := by
  obtain ⟨b, o, cs, ha, _, h1, h2⟩ := h k hk
  have h1' : cs = [.pointer (some l[k].1), .pointer (some l[k].2)] := h1
  subst h1'
  have e : aget l k = l[k] := by simp [aget, hk]
  rw [e]
  exact ⟨b, o, ha, h2 0 (by decide), h2 1 (by decide)⟩
/-- The step that is to be done next. -/
theorem TS.top (h : TS w0 g mb wt C Ps Ts st0 w x) (hn : 0 < x.L.length) : ∃ (f : Int) (l : List T) (t : T) (L : List (T × T)) (R : List (Addr × Addr)) (tb to pb po qb qo : Nat) (pa qa : Option Addr) (pc qc : Nat),
    x.L = L ++ [(.mk f l, t)] ∧ x.L.length = L.length + 1 ∧ x.ta = some ⟨tb, to, none⟩ ∧ w.cell? ⟨tb, to + L.length * 2, none⟩ = some (.pointer (some ⟨pb, po, none⟩)) ∧ w.cell? ⟨tb, to + L.length * 2 + 1, none⟩ = some (.pointer (some ⟨qb, qo, none⟩)) ∧
    w.cell? ⟨pb, po, none⟩ = some (.int .i64 f) ∧ w.cell? ⟨pb, po + 1, none⟩ = some (.slice pa l.length pc) ∧ InT Ps w (.mk f l) (.agg #[.int .i64 f, .slice pa l.length pc]) ∧
    w.cell? ⟨qb, qo, none⟩ = some (.int .i64 t.f) ∧ w.cell? ⟨qb, qo + 1, none⟩ = some (.slice qa t.args.length qc) ∧ InT Ts w t (.agg #[.int .i64 t.f, .slice qa t.args.length qc]) ∧ InTp Ts w t (.pointer (some ⟨qb, qo, none⟩)) ∧ InTp Ps w (.mk f l) (.pointer (some ⟨pb, po, none⟩)) ∧
    x.L.length ≤ x.tc ∧ x.tc ≤ maxLen ∧ (T.mk f l).size ≤ 4294967296 ∧ t.size ≤ 4294967296 ∧ TS w0 g mb wt C Ps Ts st0 w { x with L := L, R := R } := by
  have hlen : x.L.length = x.R.length := h.trow.len
  obtain ⟨k, hk⟩ : ∃ k, x.L.length = k + 1 := ⟨x.L.length - 1, by omega⟩
  have hkl : k < x.L.length := by omega
  obtain ⟨hr1, hr2, hr3, hr4⟩ := h.trow.inRow
  obtain ⟨tb, to, e1, c1, c2⟩ := InRow.openV (k := k) hr1 (by omega)
  obtain ⟨s1, s2⟩ := h.stk k hkl
  have s2' := s2
  have s1' := s1
  obtain ⟨pb, po, pa, pc, f1, _, p1, p2, p3⟩ := s1
  obtain ⟨qb, qo, qa, qc, f2, _, q1, q2, q3⟩ := s2
  rw [f1] at c1 s1'
  rw [f2] at c2 s2'
  have hz : zget x.L k = x.L[k] := by simp [zget, hkl]
  have hmem : x.L[k] ∈ x.L := List.getElem_mem hkl
  have hL : x.L = x.L.take k ++ [x.L[k]] := by rw [← List.take_succ_eq_append_getElem hkl, List.take_of_length_le (by omega)]
  have hsz := h.psz _ hmem
  rw [hz] at p1 p2 p3 q1 q2 q3 s2' s1'
  generalize hq : x.L[k] = q at *
  obtain ⟨⟨f, l⟩, t⟩ := q
  have hll : (x.L.take k).length = k := by rw [List.length_take]; omega
  refine ⟨f, l, t, x.L.take k, x.R.take k, tb, to, pb, po, qb, qo, pa, qa, pc, qc, hL, by rw [hll]; omega, e1, by rw [hll]; exact c1, by rw [hll]; exact c2, p1, p2, p3, q1, q2, q3, s2', s1', hr3, hr4, hsz.1, hsz.2, ?_⟩
  exact { h with
    trow := by
      dsimp only
      rw [hll]; exact h.trow.take k (by omega) (fun _ _ _ _ q _ => q)
    tnew := fun b e => h.tnew b (own_len.trans e)
    stk := fun i hi => by
      dsimp only at hi ⊢
      rw [hll] at hi
      have e1 : zget (x.L.take k) i = zget x.L i := by simp [zget, List.getD_eq_getElem?_getD, List.getElem?_take, hi]
      have e2 : aget (x.R.take k) i = aget x.R i := by simp [aget, List.getD_eq_getElem?_getD, List.getElem?_take, hi]
      rw [e1, e2]; exact h.stk i (by omega)
    psz := fun y hy => h.psz y (List.mem_of_mem_take hy) }
theorem subFind_zip {v : Int} : ∀ {st : List Bd} {ps : List Value}, ps.length = st.length → ∀ j, (subFind st v = none ∧ imFind ((st.map (·.var)).zip ps) v j = none) ∨ ∃ i, i < st.length ∧ subFind st v = some (dget st i).t ∧ (dget st i).var = v ∧ imFind ((st.map (·.var)).zip ps) v j = some (j + i, ps.getD i undef)
  | [], [], _, j => .inl ⟨rfl, rfl⟩
  | b :: st, p :: ps, h, j => by
    by_cases hb : b.var = v
    · right
      refine ⟨0, by simp, by simp [subFind, hb, dget], by simp [dget, hb], ?_⟩
      simp [imFind, hb]
    · have e : subFind (b :: st) v = subFind st v := by simp [subFind, hb]
      have e2 : imFind (((b :: st).map (·.var)).zip (p :: ps)) v j = imFind ((st.map (·.var)).zip ps) v (j + 1) := by
        rw [List.map_cons, List.zip_cons_cons, imFind, if_neg (fun q => hb q.symm)]
      rw [e, e2]
      rcases subFind_zip (v := v) (st := st) (ps := ps) (by simpa using h) (j + 1) with q | ⟨i, h1, h2, h3, h4⟩
      · exact .inl q
      · exact .inr ⟨i + 1, by simpa using h1, by simpa [dget] using h2, by simpa [dget] using h3, by rw [h4]; simp; omega⟩
/-- What a variable is bound to. -/
theorem TS.look (h : TS w0 g mb wt C Ps Ts st0 w x) (v : Int) : (subFind x.st v = none ∧ imLook ((x.st.map (·.var)).zip x.ps) v = none) ∨
    ∃ (o : T) (b k : Nat) (a : Option Addr) (c : Nat), subFind x.st v = some o ∧ imLook ((x.st.map (·.var)).zip x.ps) v = some (.pointer (some ⟨b, k, none⟩)) ∧ w.cell? ⟨b, k, none⟩ = some (.int .i64 o.f) ∧ w.cell? ⟨b, k + 1, none⟩ = some (.slice a o.args.length c) ∧ IsT w o (.agg #[.int .i64 o.f, .slice a o.args.length c]) := by
  rcases subFind_zip (v := v) h.len 0 with ⟨h1, h2⟩ | ⟨i, h1, h2, h3, h4⟩
  · exact .inl ⟨h1, by unfold imLook; rw [h2]; rfl⟩
  · obtain ⟨b, k, a, c, e, _, q1, q2, q3⟩ := h.ptr i h1
    exact .inr ⟨_, b, k, a, c, h2, by unfold imLook; rw [h4, e]; rfl, q1, q2, q3.isT⟩
theorem subFind_none' {st : List Bd} {v : Int} (h : subFind st v = none) : ∀ b ∈ st, b.var ≠ v := by
  intro b hb e
  unfold subFind at h
  rw [Option.map_eq_none_iff, List.find?_eq_none] at h
  exact h b hb (by simpa using e)
/-- A variable is bound. -/
theorem TS.bind {ra : Option Addr} {rc : Nat} {v : Int} {t : T} {p : Value} {es : Array MapEntry} {cl : Nat} (h : TS w0 g mb wt C Ps Ts st0 w x) (hR : RowE eltI w' 0 3 ra rc (x.st.length + 1) (x.st.map (·.var) ++ [v]))
    (hc : Chg (fun b => b = g ∨ b = mb ∨ (Value.slice x.ra x.st.length x.rc).ownBlock = some b) w w') (hB : ∃ cs, Blk w g 89 cs) (hM : ∃ es cl, ObjAt w mb (.map es cl)) (ho : ∀ b, (Value.slice ra (x.st.length + 1) rc).ownBlock = some b → (Value.slice x.ra x.st.length x.rc).ownBlock = some b ∨ w.heap.size ≤ b)
    (hE : ImE es cl ((x.st.map (·.var)).zip x.ps ++ [(v, p)])) (hf : subFind x.st v = none) (ht : InTp Ts w t p) (hv : I64 v) (hz : t.size ≤ 4294967296) :
    TS w0 g mb wt C Ps Ts st0 w' { x with ra := ra, rc := rc, st := x.st ++ [⟨v, t⟩], ps := x.ps ++ [p], es := es, cl := cl } := by
  obtain ⟨cs, hB⟩ := hB
  obtain ⟨es0, cl0, hM⟩ := hM
  have k1 : ∀ b, b < w0.heap.size → (b = g ∨ b = mb ∨ (Value.slice x.ra x.st.length x.rc).ownBlock = some b) → C b := by
    rintro b hb (rfl | rfl | e)
    · exact h.cg.1
    · exact h.cg.2
    · rcases (h.mown b e).1 with q | q
      · exact q
      · have := h.old; omega
  have k2 : ∀ b, Ps b → ¬ (b = g ∨ b = mb ∨ (Value.slice x.ra x.st.length x.rc).ownBlock = some b) := by
    rintro b hb (rfl | rfl | e)
    · exact (h.hP _ hb).2 h.cg.1
    · exact (h.hP _ hb).2 h.cg.2
    · rcases (h.mown b e).1 with q | q
      · exact (h.hP _ hb).2 q
      · have := (h.hP _ hb).1; omega
  have k3 : ∀ b, Ts b → ¬ (b = g ∨ b = mb ∨ (Value.slice x.ra x.st.length x.rc).ownBlock = some b) := by
    rintro b hb (rfl | rfl | e)
    · exact (h.hT _ hb).2.1 rfl
    · exact (h.hT _ hb).2.2 rfl
    · exact (h.mown b e).2 hb
  have k4 : ∀ b, (Value.slice x.ta x.L.length x.tc).ownBlock = some b → ¬ (b = g ∨ b = mb ∨ (Value.slice x.ra x.st.length x.rc).ownBlock = some b) := by
    rintro b hb (rfl | rfl | e)
    · exact h.trow.neBlk hB (by decide) hb
    · exact h.trow.neMap hM hb
    · exact h.mrow.ne h.trow (by decide) b e hb
  have hl := h.len
  have hpre : st0.length ≤ x.st.length := by have := congrArg List.length h.pre; simp at this; omega
  refine { h with
    trow := h.trow.chgOwn (fun _ _ _ _ _ q => q) hc k4
    mrow := by simpa using hR
    mown := fun b e => ?_
    stk := fun i hi => ⟨(h.stk i hi).1.chg hc k2, (h.stk i hi).2.chg hc k3⟩
    ptr := fun i hi => ?_
    ent := by
      dsimp only
      rw [List.map_append, List.zip_append (by simp [hl])]; exact hE
    nd := by
      dsimp only
      rw [List.map_append, List.nodup_append]
      refine ⟨h.nd, by simp, fun a ha b hb e => ?_⟩
      obtain ⟨y, hy, rfl⟩ := List.mem_map.1 ha
      simp at hb
      exact subFind_none' hf y hy (by rw [e, hb])
    len := by simp [hl]
    i64 := fun y hy => ?_
    sz := fun y hy => ?_
    pre := by dsimp only; rw [List.take_append_of_le_length hpre]; exact h.pre
    chg := h.chg.trans2 hc k1
    now := Nat.le_trans h.now hc.size }
  · rcases ho b (by simpa using e) with q | q
    · exact h.mown b q
    · have := h.now
      exact ⟨.inr (by omega), fun hT => by have := (h.hT b hT).1; omega⟩
  · simp only [List.length_append, List.length_singleton] at hi
    rcases Nat.lt_or_ge i x.st.length with hi2 | hi2
    · have e1 : dget (x.st ++ [⟨v, t⟩]) i = dget x.st i := by simp [dget, List.getD_eq_getElem?_getD, List.getElem?_append_left hi2]
      have e2 : (x.ps ++ [p]).getD i undef = x.ps.getD i undef := by simp [List.getD_eq_getElem?_getD, List.getElem?_append_left (show i < x.ps.length by omega)]
      dsimp only
      rw [e1, e2]
      exact (h.ptr i hi2).chg hc k3
    · obtain rfl : i = x.st.length := by omega
      have e1 : dget (x.st ++ [⟨v, t⟩]) x.st.length = ⟨v, t⟩ := by simp [dget, List.getD_eq_getElem?_getD]
      have e2 : (x.ps ++ [p]).getD x.st.length undef = p := by rw [← hl]; simp [List.getD_eq_getElem?_getD]
      dsimp only
      rw [e1, e2]
      exact ht.chg hc k3
  · rcases List.mem_append.1 hy with hy | hy
    · exact h.i64 y hy
    · simp only [List.mem_singleton] at hy; subst hy; exact hv
  · rcases List.mem_append.1 hy with hy | hy
    · exact h.sz y hy
    · simp only [List.mem_singleton] at hy; subst hy; exact hz
/-- The matcher, as it is now. -/
theorem TS.mat (h : TS w0 g mb wt C Ps Ts st0 w x) (hB : Blk w g 89 #[.map (some mb), .slice x.ra x.st.length x.rc]) (hM : ObjAt w mb (.map x.es x.cl)) (hT0 : ∀ b, Ts b → C b ∨ w0.heap.size ≤ b) : MatAt w g x.st (fun b => C b ∨ (w0.heap.size ≤ b ∧ b < w.heap.size)) := by
  have hold := h.old
  have hnow := h.now
  refine ⟨mb, x.es, x.cl, x.ra, x.rc, x.ps, ⟨hB, hM, h.ent, h.nd, h.mrow, h.len, fun i hi => (h.ptr i hi).mono (fun b q hlt => ⟨?_, (h.hT b q).2.1, (h.hT b q).2.2, fun e => (h.mown b e).2 q⟩), h.i64, h.sz, .inl h.cg.1, .inl h.cg.2, fun b e => ?_, fun b q => ?_⟩⟩
  · rcases hT0 b q with q | q
    · exact .inl q
    · exact .inr ⟨q, hlt⟩
  · rcases (h.mown b e).1 with q | q
    · exact .inl q
    · refine .inr ⟨by omega, ?_⟩
      obtain ⟨⟨xs, r1, _⟩, _⟩ := h.mrow
      rcases r1.2 with ⟨e1, _⟩ | ⟨g', cap, cur, e1, _, r3, _⟩
      · rw [e1] at e; cases e
      · rw [e1] at e
        obtain rfl : g' = b := by simpa [Value.ownBlock] using e
        exact (Array.getElem?_eq_some_iff.1 r3).1
  · rcases q with q | q
    · have := h.hC b q; omega
    · exact q.2
end
/-- A row of one, as its block is. -/
theorem rowE_one {α : Type} {E : Elt α} {w : World} {g e : Nat} {y : α} {cs : List Value} (hB : Blk w g e cs.toArray) (hin : E.In (fun b => 0 ≤ b ∧ (Value.slice (some ⟨g, 0, none⟩) 1 1).ownBlock ≠ some b) w y cs) : RowE E w 0 e (some ⟨g, 0, none⟩) 1 1 [y] := by
  refine ⟨⟨cs, ⟨by rw [E.len hin]; omega, .inr ⟨g, 1, cs.toArray, rfl, Nat.zero_le _, hB, Nat.le_refl _, by unfold maxLen; omega, by rw [List.size_toArray, E.len hin]; omega, by rw [List.toList_toArray, List.take_of_length_le (by rw [E.len hin]; omega)]⟩⟩, ⟨cs, [], by simp, hin, rfl⟩⟩, rfl⟩
theorem InTp.at {S : Nat → Prop} {w : World} {t : T} {b o : Nat} (h : InTp S w t (.pointer (some ⟨b, o, none⟩))) : ∃ (a : Option Addr) (c : Nat), w.cell? ⟨b, o, none⟩ = some (.int .i64 t.f) ∧ w.cell? ⟨b, o + 1, none⟩ = some (.slice a t.args.length c) ∧ InT S w t (.agg #[.int .i64 t.f, .slice a t.args.length c]) := by
  obtain ⟨b', o', a, c, e, _, h1, h2, h3⟩ := h
  simp only [Value.pointer.injEq, Option.some.injEq, Addr.mk.injEq, and_true] at e
  obtain ⟨rfl, rfl⟩ := e
  exact ⟨a, c, h1, h2, h3⟩
/-- The walk's state at its start. -/
theorem TS.start {w wc wj wk : World} {g mb g4 g8 g9 : Nat} {st : List Bd} {C A : Nat → Prop} {es : Array MapEntry} {cl : Nat} {a : Option Addr} {c : Nat} {ps : List Value} {p t : T} {pa a8 : Option Addr} {pc c8 : Nat}
    (hM : MatIn w g st C mb es cl a c ps) (hp : InT A w p (.agg #[.int .i64 p.f, .slice pa p.args.length pc])) (hA : ∀ b, A b → ¬ C b) (hb : Below w.heap.size w wk) (hB4 : Blk wk g4 58 #[.int .i64 p.f, .slice pa p.args.length pc]) (h4 : w.heap.size ≤ g4) (h49 : g4 < g9)
    (hcj : w.heap.size ≤ wc.heap.size) (h8 : wc.heap.size ≤ g8) (h89 : g8 < g9) (hB8 : Blk wk g8 58 #[.int .i64 t.f, .slice a8 t.args.length c8]) (hN : NewT wc wj t (.agg #[.int .i64 t.f, .slice a8 t.args.length c8])) (hj : wj.heap.size ≤ g9) (hjk : Below wj.heap.size wj wk)
    (hB9 : Blk wk g9 121 #[.pointer (some ⟨g4, 0, none⟩), .pointer (some ⟨g8, 0, none⟩)]) (hz1 : p.size ≤ 4294967296) (hz2 : t.size ≤ 4294967296) :
    ∃ Ps Ts : Nat → Prop, (∀ b, Ts b → C b ∨ w.heap.size ≤ b) ∧ TS w g mb g9 C Ps Ts st wk ⟨some ⟨g9, 0, none⟩, 1, [(⟨g4, 0, none⟩, ⟨g8, 0, none⟩)], [(p, t)], a, c, st, ps, es, cl⟩ := by
  have hgl := hM.blk.lt
  have hml := hM.map.lt
  have hkl := hB9.lt
  refine ⟨fun b => (A b ∧ b < w.heap.size) ∨ b = g4, fun b => (C b ∧ b ≠ g ∧ b ≠ mb ∧ (Value.slice a st.length c).ownBlock ≠ some b) ∨ (wc.heap.size ≤ b ∧ b < g9), ?_, ?_⟩
  · rintro b (q | q)
    · exact .inl q.1
    · exact .inr (by omega)
  have hown : ∀ b, (Value.slice a st.length c).ownBlock = some b → b < w.heap.size := fun b e => hM.clt b (hM.crow b e)
  exact {
    trow := rowE_one (cs := [.pointer (some ⟨g4, 0, none⟩), .pointer (some ⟨g8, 0, none⟩)]) hB9 rfl
    tnew := fun b e => by have : g9 = b := by simpa [Value.ownBlock] using e
                          omega
    mrow := hM.row.chgOwn (S := fun _ => False) (fun _ _ _ _ _ q => q) (.ofBelow hb) (fun _ _ => id)
    mown := fun b e => ⟨.inl (hM.crow b e), by
      rintro (q | q)
      · exact q.2.2.2 e
      · have := hown b e; omega⟩
    stk := fun i hi => by
      obtain rfl : i = 0 := by simp at hi; exact hi
      exact ⟨InTp.box hB4 (.inr rfl) ((hp.mono (fun b q hlt => .inl ⟨q, hlt⟩)).below hb), InTp.box hB8 (.inr ⟨h8, h89⟩) ((hN.mono (fun b q hlt => .inr ⟨q, by omega⟩)).below hjk)⟩
    ptr := fun i hi => ((hM.ptr i hi).mono (fun b q _ => .inl q)).below hb
    ent := hM.ent
    nd := hM.nd
    len := hM.len
    i64 := hM.i64
    sz := hM.sz
    psz := fun q hq => by simp only [List.mem_singleton] at hq; subst hq; exact ⟨hz1, hz2⟩
    pre := List.take_of_length_le (Nat.le_refl _)
    chg := .ofBelow hb
    old := by omega
    now := by omega
    hP := by
      rintro b (q | rfl)
      · exact ⟨by omega, hA b q.1⟩
      · exact ⟨h49, fun e => by have := hM.clt _ e; omega⟩
    hT := by
      rintro b (q | q)
      · exact ⟨by have := hM.clt b q.1; omega, q.2.1, q.2.2.1⟩
      · exact ⟨q.2, by omega, by omega⟩
    cg := ⟨hM.cg, hM.cmb⟩
    hC := hM.clt }
theorem zip_drop {l ts : List T} {k : Nat} (h : k < l.length) (h2 : l.length = ts.length) : (l.zip ts).drop k = (tget l k, tget ts k) :: (l.zip ts).drop (k + 1) := by
  rw [List.drop_eq_getElem_cons (by simp; omega), List.getElem_zip, tget_lt h, tget_lt (by omega)]
theorem ssz_reverse : ∀ l : List (T × T), ssz l.reverse = ssz l
  | [] => rfl
  | q :: l => by rw [List.reverse_cons, ssz_append, ssz_reverse l, ssz, ssz, ssz]; omega
theorem len_le_ssz : ∀ l : List (T × T), l.length ≤ ssz l
  | [] => Nat.le_refl _
  | q :: l => by
    have := len_le_ssz l
    have h1 : 1 ≤ q.1.size := by rw [T.size_eq]; omega
    rw [List.length_cons, ssz]; omega
/-- Whether it matches; what is bound then. -/
def mOk (p t : T) (st : List Bd) : Bool := p.plain && t.plain && (p.mt st t).isSome
def mTo (p t : T) (st : List Bd) : List Bd := if (p.plain && t.plain) = true then (p.mt st t).getD st else st
theorem fin_ok {p t : T} {st s : List Bd} (h1 : p.plain = true) (h2 : t.plain = true) (h : p.mt st t = some s) : mOk p t st = true ∧ mTo p t st = s := by
  unfold mOk mTo; rw [h1, h2, h]; exact ⟨rfl, rfl⟩
theorem fin_no {p t : T} {st : List Bd} (h1 : p.plain = true) (h2 : t.plain = true) (h : p.mt st t = none) : mOk p t st = false ∧ mTo p t st = st := by
  unfold mOk mTo; rw [h1, h2, h]; exact ⟨rfl, rfl⟩
theorem fin_np {p t : T} {st : List Bd} (h : ¬ (p.plain = true ∧ t.plain = true)) : mOk p t st = false ∧ mTo p t st = st := by
  unfold mOk mTo
  have : (p.plain && t.plain) = false := by rw [Bool.eq_false_iff]; intro e; rw [Bool.and_eq_true] at e; exact h e
  rw [this]; exact ⟨rfl, rfl⟩
theorem ans_new {st0 : Option (List Bd)} {st : List Bd} {X L : List (T × T)} {f : Int} {l : List T} {t : T} (h : st0 = mts st X.reverse) (hX : X = L ++ [(.mk f l, t)]) (hf : f < 0) (hs : subFind st (-1 - f) = none) : st0 = mts (st ++ [⟨-1 - f, t⟩]) L.reverse := by
  rw [h, hX, List.reverse_append, List.reverse_singleton, List.singleton_append, mts]
  dsimp only
  rw [mt_new hf hs]
theorem ans_old {st0 : Option (List Bd)} {st : List Bd} {X L : List (T × T)} {f : Int} {l : List T} {t o : T} (h : st0 = mts st X.reverse) (hX : X = L ++ [(.mk f l, t)]) (hf : f < 0) (hs : subFind st (-1 - f) = some o) (he : T.same o t = true) : st0 = mts st L.reverse := by
  rw [h, hX, List.reverse_append, List.reverse_singleton, List.singleton_append, mts]
  dsimp only
  rw [mt_old hf hs, if_pos he]
theorem ans_bad {st0 : Option (List Bd)} {st : List Bd} {X L : List (T × T)} {f : Int} {l : List T} {t o : T} (h : st0 = mts st X.reverse) (hX : X = L ++ [(.mk f l, t)]) (hf : f < 0) (hs : subFind st (-1 - f) = some o) (he : ¬ T.same o t = true) : st0 = none := by
  rw [h, hX, List.reverse_append, List.reverse_singleton, List.singleton_append, mts]
  dsimp only
  rw [mt_old hf hs, if_neg he]
theorem ans_off {st0 : Option (List Bd)} {st : List Bd} {X L : List (T × T)} {f : Int} {l : List T} {t : T} (h : st0 = mts st X.reverse) (hX : X = L ++ [(.mk f l, t)]) (hf : ¬ f < 0) (he : ¬ (f = t.f ∧ l.length = t.args.length)) : st0 = none := by
  rw [h, hX, List.reverse_append, List.reverse_singleton, List.singleton_append, mts]
  dsimp only
  rw [mt_off hf he]
theorem ans_sym {st0 : Option (List Bd)} {st : List Bd} {X L Y : List (T × T)} {f : Int} {l : List T} {t : T} (h : st0 = mts st X.reverse) (hX : X = L ++ [(.mk f l, t)]) (hf : ¬ f < 0) (he : f = t.f ∧ l.length = t.args.length) (hY : Y.reverse = (l.zip t.args).drop 0 ++ L.reverse) : st0 = mts st Y.reverse := by
  rw [h, hX, List.reverse_append, List.reverse_singleton, List.singleton_append, mts]
  dsimp only
  rw [mt_sym hf he.1 he.2, hY, List.drop_zero, mts_append]
theorem ssz_top {X L : List (T × T)} {f : Int} {l : List T} {t : T} (hX : X = L ++ [(.mk f l, t)]) : ssz X = ssz L + 1 + T.sizeL l := by
  rw [hX, ssz_append, ssz, ssz, T.size]; (try dsimp only); omega
theorem ssz_sym {L Y : List (T × T)} {l ts : List T} (hY : Y.reverse = (l.zip ts).drop 0 ++ L.reverse) : ssz Y ≤ ssz L + T.sizeL l := by
  rw [← ssz_reverse Y, hY, ssz_append, ssz_reverse, List.drop_zero]
  have := ssz_zip l ts; omega
end Go.Proofs.Ytnmopmdpnpcdhaa

/- Scopes (functions with labels) through which the run goes without a goto. -/
namespace Go.Proofs.Ytnmopmdpnpcdhaa
open Go.RowKit Go
set_option linter.unusedVariables false
set_option linter.unusedSimpArgs false
section
variable {P : Program} {n : Fr} {K : Known} {w : World} {Q : Exit → Act → World → Prop} {c : Code}
theorem WC.scope (hr : n.r = none) (h : WC P n K w c (Exit.noGoto Q)) : WC P n K w (.scope c) Q := fun a ha => by
  have z := h a ha
  rw [hr] at z ⊢
  exact wpIn_wide.2 (wp_scope_straight (wpIn_wide.1 z))
theorem WE.scopeRet (h : WE n K w Q .ret) : WE n K w (Exit.noGoto Q) .ret := h
end
end Go.Proofs.Ytnmopmdpnpcdhaa

namespace Go.Proofs.Ytnmopmdpnpcdhaa
open Go.RowKit Go
set_option linter.unusedVariables false
set_option linter.unusedSimpArgs false
section
variable {P : Program} {ops : Array Oper}
structure CtxH (ops : Array Oper) (chain : List Nat) (R : Nat → Value → World → Prop) (G : List (Option Value) → World → Prop) (n : Fr) (K Ke : Known) (i : Nat) (o : Oper) (a : Act) (w : World) (vs : List (Option Value)) : Prop where
 now : G vs w
 kn : Kn n K a
 dep : ∀ j d, depB ops o j d = true → chain.contains j = false → R j (a.tmps.getD d undef) w
 len : vs.length = chain.length
 link : ∀ (p c d : Nat), chain[p]? = some c → depB ops o c d = true → vs[p]? = some (some (a.tmps.getD d undef))
 done : ∀ (p c : Nat), chain[p]? = some c → o.after.any (fun e => e.on == c && Region.binds .any e) = true → ∃ v, vs[p]? = some (some v)
 most : ∀ (p c : Nat), chain[p]? = some c → afterB ops c i = true → vs[p]? = some none
 mostT : ∀ (p c : Nat), chain[p]? = some c → (ancL ops c).contains i = true → vs[p]? = some none
 old : ∀ d v, look Ke d = some v → (∀ c, (ops[c]?).bind (·.dst) = some d → (ancL ops c).contains i = true) → a.tmps.getD d undef = v
def SoundH (P : Program) (ops : Array Oper) (Q : Exit → Act → World → Prop) (chain : List Nat) (R : Nat → Value → World → Prop) (Le : World → World → Prop) (G : List (Option Value) → World → Prop) (n : Fr) (K Ke : Known) (i : Nat) (o : Oper) : Prop :=
 (chain.contains i = false ∧ ∃ β, GuardIs R o β ∧ (∀ g b, o.guard = some (g, b) → chain.contains g = false) ∧ (β = false → ∀ w, R i undef w) ∧
  (β = true → ∀ (a : Act) (w : World) (vs : List (Option Value)), CtxH ops chain R G n K Ke i o a w vs →
   o.wpIn (fen n.r) 0 P a w (fun a' w' => ∃ v, a' = Act.put a o.dst v ∧ Le w w' ∧ G vs w' ∧ R i v w') Q)) ∨
 (∃ p, chain[p]? = some i ∧ o.guard = none ∧ ∀ (a : Act) (w : World) (vs : List (Option Value)), CtxH ops chain R G n K Ke i o a w vs → vs[p]? = some none →
   o.wpIn (fen n.r) 0 P a w (fun a' w' => ∃ v, a' = Act.put a o.dst v ∧ Le w w' ∧ G (vs.set p (some v)) w') Q)
def SoundFromH (P : Program) (ops : Array Oper) (Q : Exit → Act → World → Prop) (chain : List Nat) (R : Nat → Value → World → Prop) (Le : World → World → Prop) (G : List (Option Value) → World → Prop) (n : Fr) (K Ke : Known) : Nat → List Oper → Prop
 | _, [] => True
 | k, o :: r => SoundH P ops Q chain R Le G n K Ke k o ∧ SoundFromH P ops Q chain R Le G n K Ke (k + 1) r
theorem SoundFromH.at_ {Q : Exit → Act → World → Prop} {chain : List Nat} {R : Nat → Value → World → Prop} {Le : World → World → Prop} {G : List (Option Value) → World → Prop} {n : Fr} {K Ke : Known} : ∀ {l : List Oper} {k : Nat}, SoundFromH P ops Q chain R Le G n K Ke k l → ∀ i o, l[i]? = some o → SoundH P ops Q chain R Le G n K Ke (k + i) o
 | [], _, _, i, o, h => by simp at h
 | x :: r, k, h, 0, o, ho => by simp at ho; subst ho; exact h.1
 | x :: r, k, h, i + 1, o, ho => by
  have := h.2.at_ i o (by simpa using ho)
  rwa [show k + 1 + i = k + (i + 1) by omega] at this
structure AtH (ops : Array Oper) (chain : List Nat) (R : Nat → Value → World → Prop) (G : List (Option Value) → World → Prop) (n : Fr) (K Ke : Known) (listed : Array Bool) (a : Act) (vs : List (Option Value)) (w : World) : Prop where
 size : listed.size = ops.size
 kn : Kn n K a
 plain : ∀ i d, chain.contains i = false → listed.getD i false = true → (ops[i]?).bind (·.dst) = some d → R i (a.tmps.getD d undef) w
 link : ∀ p c : Nat, chain[p]? = some c → (listed.getD c false = true ↔ ∃ v, vs[p]? = some (some v))
 vals : ∀ (p c d : Nat), chain[p]? = some c → listed.getD c false = true → (ops[c]?).bind (·.dst) = some d → vs[p]? = some (some (a.tmps.getD d undef))
 len : vs.length = chain.length
 closed : ∀ i o, ops[i]? = some o → listed.getD i false = true → ∀ e ∈ o.after, Region.binds .any e = true → listed.getD e.on false = true
 now : G vs w
 old : ∀ d v, look Ke d = some v → (∀ c, (ops[c]?).bind (·.dst) = some d → listed.getD c false = false) → a.tmps.getD d undef = v
theorem wp_any_genH {Q : Exit → Act → World → Prop} {n : Fr} {K Ke : Known} (chain : List Nat) (R : Nat → Value → World → Prop) (Le : World → World → Prop) (G : List (Option Value) → World → Prop)
  (hB : opsB ops n.n = true) (hnd : chain.Nodup) (hin : (chain.all fun c => Nat.blt c ops.size) = true) (hclear : clearB ops K = true)
  (hR : ∀ i v w w', R i v w → Le w w' → R i v w')
  (h : SoundFromH P ops Q chain R Le G n K Ke 0 ops.toList)
  (hQ : ∀ (a : Act) (w : World) (vs : List (Option Value)), Kn n K a → vs.length = chain.length → (∀ p, p < chain.length → ∃ v, vs[p]? = some (some v)) → G vs w → (∀ i d, (ops[i]?).bind (·.dst) = some d → chain.contains i = false → R i (a.tmps.getD d undef) w) → (∀ (p c d : Nat), chain[p]? = some c → (ops[c]?).bind (·.dst) = some d → vs[p]? = some (some (a.tmps.getD d undef))) → Q .normal a w) :
  ∀ (a0 : Act) (w0 : World), Kn n K a0 → Kn n Ke a0 → G (List.replicate chain.length none) w0 → wpAnyIn (fen n.r) 0 P .any ops Q ops.size (Array.replicate ops.size false) a0 w0 := by
 have main : ∀ (fuel : Nat) (listed : Array Bool) (a : Act) (vs : List (Option Value)) (w : World), listed.toList.count false ≤ fuel → AtH ops chain R G n K Ke listed a vs w →
   wpAnyIn (fen n.r) 0 P .any ops Q fuel listed a w := by
  intro fuel
  have done : ∀ (listed : Array Bool) (a : Act) (vs : List (Option Value)) (w : World), Region.ready .any ops listed = [] → AtH ops chain R G n K Ke listed a vs w → Q .normal a w := by
   intro listed a vs w hr H
   have all : ∀ i, i < ops.size → listed.getD i false = true := fun i hi => by
    have := ready_nil hB H.size hr i hi
    have hs := H.size
    simpa [Array.getD, show i < listed.size by omega] using this
   have hin' : ∀ p c, chain[p]? = some c → c < ops.size := fun p c hc => by
    have := List.all_eq_true.1 hin _ (List.mem_of_getElem? hc)
    simpa [Nat.blt_eq] using this
   have lt_of : ∀ i d, (ops[i]?).bind (·.dst) = some d → i < ops.size := fun i d hd => by
    rcases Nat.lt_or_ge i ops.size with h | h
    ·exact h
    ·simp [Array.getElem?_eq_none h] at hd
   exact hQ a w vs H.kn H.len (fun p hp => (H.link p chain[p] (by simp [hp])).1 (all _ (hin' p _ (by simp [hp])))) H.now (fun i d hd hc => H.plain i d hc (all i (lt_of i d hd)) hd) (fun p c d hc hd => H.vals p c d hc (all c (hin' p c hc)) hd)
  induction fuel with
  | zero =>
   intro listed a vs w hc H
   have hr : Region.ready .any ops listed = [] := by
    cases hr : Region.ready .any ops listed with
    | nil => rfl
    | cons i r =>
     have := (mem_ready (md := .any) (ops := ops) (j := i) (listed := listed)).1 (by rw [hr]; simp)
     rw [count_zero hc i] at this
     simp at this
   exact ⟨hr, done listed a vs w hr H⟩
  | succ fuel ih =>
   intro listed a vs w hc H
   refine ⟨fun hr => done listed a vs w hr H, fun i hi => ?_⟩
   obtain ⟨hun, o, ho, haf⟩ := mem_ready.1 hi
   have hilt : i < ops.size := by
    rcases Nat.lt_or_ge i ops.size with h | h
    ·exact h
    ·simp [Array.getElem?_eq_none h] at ho
   have hils : i < listed.size := by have := H.size; omega
   have hun' := getD_false_of hun
   have ok := opsB_spec hB ho
   have hs2 := h.at_ i o (by simpa using ho)
   rw [Nat.zero_add] at hs2
   have after_of : ∀ j d, depB ops o j d = true → listed.getD j false = true ∧ (ops[j]?).bind (·.dst) = some d := by
    intro j d hj
    simp only [depB, Bool.and_eq_true, Array.any_eq_true, beq_iff_eq] at hj
    obtain ⟨⟨k, hk, h1, h2⟩, h3⟩ := hj
    exact ⟨h1 ▸ haf _ (Array.getElem_mem hk) h2, h3⟩
   have ctx : CtxH ops chain R G n K Ke i o a w vs := by
    have opt : ∀ p c, chain[p]? = some c → listed.getD c false = false → vs[p]? = some none := fun p c hc hl => by
     have hp : p < vs.length := by rw [H.len]; exact (List.getElem?_eq_some_iff.1 hc).1
     rw [List.getElem?_eq_getElem hp]
     cases hx : vs[p] with
     | none => rfl
     | some v =>
      have := (H.link p c hc).2 ⟨v, by rw [List.getElem?_eq_getElem hp, hx]⟩
      rw [hl] at this; cases this
    refine ⟨H.now, H.kn, fun j d hj hc => H.plain j d hc (after_of j d hj).1 (after_of j d hj).2, H.len, fun p c d hc hj => H.vals p c d hc (after_of c d hj).1 (after_of c d hj).2, fun p c hc ha => ?_, fun p c hc ha => opt p c hc ?_, fun p c hc ha => opt p c hc ?_, fun d v hd hc => H.old d v hd fun c hcd => ?_⟩
    ·simp only [Array.any_eq_true, Bool.and_eq_true, beq_iff_eq] at ha
     obtain ⟨k, hk, h1, h2⟩ := ha
     exact (H.link p c hc).1 (h1 ▸ haf _ (Array.getElem_mem hk) h2)
    ·cases hl : listed.getD c false with
     | false => rfl
     | true =>
      exfalso
      unfold afterB at ha
      split at ha
      ·rename_i oc hoc
       simp only [Array.any_eq_true, Bool.and_eq_true, beq_iff_eq] at ha
       obtain ⟨k, hk, h1, h2⟩ := ha
       have := H.closed c oc hoc hl _ (Array.getElem_mem hk) h2
       rw [h1, hun'] at this
       cases this
      ·cases ha
    ·cases hl : listed.getD c false with
     | false => rfl
     | true =>
      exfalso
      have := anc_listed H.closed hl i (by simpa using ha)
      rw [hun'] at this
      cases this
    ·cases hl : listed.getD c false with
     | false => rfl
     | true =>
      exfalso
      have := anc_listed H.closed hl i (by simpa using hc c hcd)
      rw [hun'] at this
      cases this
   unfold wpOpIn
   simp only [ho]
   -- what is behind a step
   have step : ∀ (v : Value) (vs' : List (Option Value)) (w' : World), (∀ j u, R j u w → R j u w') → G vs' w' → (∀ d, o.dst = some d → chain.contains i = false → R i v w') →
     ((chain.contains i = false ∧ vs' = vs) ∨ (∃ p, chain[p]? = some i ∧ vs' = vs.set p (some v))) →
     wpAnyIn (fen n.r) 0 P .any ops Q fuel (listed.setIfInBounds i true) (Act.put a o.dst v) w' := by
    intro v vs' w' hle hG hRi hvs
    have hc' := count_set (l := listed) hils hun hc
    have hset : ∀ j, (listed.setIfInBounds i true).getD j false = true ↔ j = i ∨ listed.getD j false = true := by
     intro j
     by_cases hj : j = i
     ·subst hj; simp [getD_set_eq hils]
     ·rw [getD_set_ne false (Ne.symm hj)]; simp [hj]
    have hother : ∀ j k, j ≠ i → (ops[j]?).bind (·.dst) = some k → (Act.put a o.dst v).tmps.getD k undef = a.tmps.getD k undef := by
     intro j k hji hjk
     refine act_put_other (fun hd => ?_)
     have hjlt : j < ops.size := by
      rcases Nat.lt_or_ge j ops.size with h | h
      ·exact h
      ·simp [Array.getElem?_eq_none h] at hjk
     exact hji (ok.own k j hd hjlt hjk).symm
    have hself : ∀ d, (ops[i]?).bind (·.dst) = some d → (Act.put a o.dst v).tmps.getD d undef = v := by
     intro d hd
     rw [ho] at hd
     simp only [Option.bind_some] at hd
     rw [hd]
     exact act_put_self (by rw [H.kn.size]; exact ok.lt d hd)
    refine ih _ _ vs' w' hc' ⟨by simpa using H.size, H.kn.put_clear (fun k hk => clearB_look hclear (mem_dsts ho hk)) v, fun j d hjc hj hjd => ?_, fun p c hpc => ?_, fun p c d hpc hp hcd => ?_, ?_, fun j oj hoj hj e he hb => ?_, hG, fun d u hd hc => ?_⟩
    ·by_cases hji : j = i
     ·subst hji
      rw [hself d hjd]
      rw [ho] at hjd
      exact hRi d hjd hjc
     ·rw [hother j d hji hjd]
      exact hle _ _ (H.plain j d hjc (((hset j).1 hj).resolve_left hji) hjd)
    ·rw [hset]
     rcases hvs with ⟨hci, rfl⟩ | ⟨q, hq, rfl⟩
     ·have : c ≠ i := by
       rintro rfl
       have := List.mem_of_getElem? hpc
       simp [this] at hci
      exact ⟨fun h => (H.link p c hpc).1 (h.resolve_left this), fun h => .inr ((H.link p c hpc).2 h)⟩
     ·have hpl : q < vs.length := by rw [H.len]; exact (List.getElem?_eq_some_iff.1 hq).1
      by_cases hpq : p = q
      ·subst hpq
       rw [hq] at hpc
       simp only [Option.some.injEq] at hpc
       subst hpc
       exact ⟨fun _ => ⟨v, by rw [List.getElem?_set_self hpl]⟩, fun _ => .inl rfl⟩
      ·have hci : c ≠ i := by
        rintro rfl
        exact hpq ((List.getElem?_inj (List.getElem?_eq_some_iff.1 hpc).1 hnd).1 (hpc.trans hq.symm))
       rw [List.getElem?_set_ne (Ne.symm hpq)]
       exact ⟨fun h => (H.link p c hpc).1 (h.resolve_left hci), fun h => .inr ((H.link p c hpc).2 h)⟩
    ·rcases hvs with ⟨hci, rfl⟩ | ⟨q, hq, rfl⟩
     ·have hne : c ≠ i := by
       rintro rfl
       have := List.mem_of_getElem? hpc
       simp [this] at hci
      rw [hother c d hne hcd]
      exact H.vals p c d hpc (((hset c).1 hp).resolve_left hne) hcd
     ·have hpl : q < vs.length := by rw [H.len]; exact (List.getElem?_eq_some_iff.1 hq).1
      by_cases hpq : p = q
      ·subst hpq
       rw [hq] at hpc
       simp only [Option.some.injEq] at hpc
       subst hpc
       rw [hself d hcd, List.getElem?_set_self hpl]
      ·have hne : c ≠ i := by
        rintro rfl
        exact hpq ((List.getElem?_inj (List.getElem?_eq_some_iff.1 hpc).1 hnd).1 (hpc.trans hq.symm))
       rw [hother c d hne hcd, List.getElem?_set_ne (Ne.symm hpq)]
       exact H.vals p c d hpc (((hset c).1 hp).resolve_left hne) hcd
    ·rcases hvs with ⟨hci, rfl⟩ | ⟨q, hq, rfl⟩
     ·exact H.len
     ·rw [List.length_set]; exact H.len
    ·rw [hset]
     by_cases hji : j = i
     ·subst hji
      rw [ho] at hoj
      simp only [Option.some.injEq] at hoj
      subst hoj
      exact .inr (haf e he hb)
     ·exact .inr (H.closed j oj hoj (((hset j).1 hj).resolve_left hji) e he hb)
    ·have hne : o.dst ≠ some d := fun e => by
      have := hc i (by rw [ho]; exact e)
      rw [(hset i).2 (.inl rfl)] at this
      cases this
     rw [act_put_other hne]
     refine H.old d u hd fun c hcd => ?_
     cases hl : listed.getD c false with
     | false => rfl
     | true => have := hc c hcd; rw [(hset c).2 (.inr hl)] at this; cases this
   rcases hs2 with ⟨hci, β, hg, hgc, hs1, hs2⟩ | ⟨p, hp, hgn, hs2⟩
   ·have hwant : Region.wanted o (yielded ops a.tmps) = β := by
     have known : ∀ g c d b, o.guard = some (g, b) → (∀ v w, R g v w → (d = true → v = .bool c) ∧ (d = false → v = undef)) → yielded ops a.tmps g = if d then some c else none := by
      intro g c dd b hgb hv
      obtain ⟨⟨e, he, h1, h2⟩, d, hd⟩ := ok.guard g b hgb
      have hv := hv (a.tmps.getD d undef) w (H.plain g d (hgc g b hgb) (h1 ▸ haf e he h2) hd)
      have hdlt : d < a.tmps.size := by
       obtain ⟨og, hog, hgd⟩ := Option.bind_eq_some_iff.1 hd
       rw [H.kn.size]
       exact (opsB_spec hB hog).lt d hgd
      unfold yielded
      rw [hd]
      simp only [Array.getD_eq_getD_getElem?, Array.getElem?_eq_getElem hdlt, Option.getD_some] at hv
      cases dd with
      | true => simp [hdlt, hv.1 rfl]
      | false => simp [hdlt, hv.2 rfl, undef]
     cases hg with
     | none h => unfold Region.wanted; rw [h]
     | @yes g c d h hv => have := known _ _ _ _ h hv; unfold Region.wanted; rw [h]; simp only [this]; cases d <;> simp
     | @no g c d h hv => have := known _ _ _ _ h hv; unfold Region.wanted; rw [h]; simp only [this]; cases d <;> cases c <;> simp
    cases hβ : β with
    | false =>
     rw [hβ] at hwant
     simp only [hwant, Bool.false_eq_true, if_false]
     refine ⟨fun f _ => fen_fn _ f, ?_⟩
     exact step undef vs w (fun _ _ h => h) H.now (fun _ _ _ => hs1 hβ w) (.inl ⟨hci, rfl⟩)
    | true =>
     rw [hβ] at hwant
     simp only [hwant, if_true]
     refine Oper.wpIn_mono ?_ (hs2 hβ a w vs ctx)
     rintro a' w' ⟨v, rfl, hle, hG, hRi⟩
     exact step v vs w' (fun j u hj => hR j u _ _ hj hle) hG (fun _ _ _ => hRi) (.inl ⟨hci, rfl⟩)
   ·have hwant : Region.wanted o (yielded ops a.tmps) = true := by unfold Region.wanted; rw [hgn]
    have hnone : vs[p]? = some none := by
     have hp' : p < vs.length := by rw [H.len]; exact (List.getElem?_eq_some_iff.1 hp).1
     rw [List.getElem?_eq_getElem hp']
     cases hx : vs[p] with
     | none => rfl
     | some v =>
      have := (H.link p i hp).2 ⟨v, by rw [List.getElem?_eq_getElem hp', hx]⟩
      rw [hun'] at this; cases this
    simp only [hwant, if_true]
    refine Oper.wpIn_mono ?_ (hs2 a w vs ctx hnone)
    rintro a' w' ⟨v, rfl, hle, hG⟩
    have hcc : chain.contains i = true := by
     have := List.mem_of_getElem? hp
     simpa using this
    exact step v (vs.set p (some v)) w' (fun j u hj => hR j u _ _ hj hle) hG (fun _ _ h => by rw [hcc] at h; cases h) (.inr ⟨p, hp, rfl⟩)
 intro a0 w0 hk0 hke h0
 have nothing' : ∀ i, (Array.replicate ops.size false).getD i false = false := fun i => by
  by_cases h : i < ops.size <;> simp [Array.getD, h]
 refine main _ _ _ (List.replicate chain.length none) _ (by simp) ⟨by simp, hk0, fun i d _ hi => ?_, fun p c hpc => ?_, fun p c d _ hp => ?_, by simp, fun i o _ hi => ?_, h0, fun d v hd _ => hke.knows d v hd⟩
 ·rw [nothing'] at hi; cases hi
 ·rw [nothing']
  refine ⟨fun h => (by cases h), fun ⟨v, hv⟩ => ?_⟩
  have hp := (List.getElem?_eq_some_iff.1 hpc).1
  simp [hp] at hv
 ·rw [nothing'] at hp; cases hp
 ·rw [nothing'] at hi; cases hi
/-- The law: of what is known of the frame 'K0' is what the region does not write. -/
theorem WC.genH {id : Nat} {dr : Bool} {Q : Exit → Act → World → Prop} {n : Fr} {K : Known} {w : World} (chain : List Nat) (R : Nat → Value → World → Prop) (Le : World → World → Prop) (G : List (Option Value) → World → Prop) (K0 : Known)
  (hs : subK K0 K) (hclear : clearB ops K0 = true) (hm : P.follows .mixedOrders = true) (hB : opsB ops n.n = true) (hnd : chain.Nodup) (hin : (chain.all fun c => Nat.blt c ops.size) = true)
  (hR : ∀ i v w w', R i v w → Le w w' → R i v w') (h0 : G (List.replicate chain.length none) (bif dr then w.drew else w))
  (h : SoundFromH P ops Q chain R Le G n K0 K 0 ops.toList)
  (hQ : ∀ (a : Act) (w : World) (vs : List (Option Value)), Kn n K0 a → vs.length = chain.length → (∀ p, p < chain.length → ∃ v, vs[p]? = some (some v)) → G vs w → (∀ i d, (ops[i]?).bind (·.dst) = some d → chain.contains i = false → R i (a.tmps.getD d undef) w) → (∀ (p c d : Nat), chain[p]? = some c → (ops[c]?).bind (·.dst) = some d → vs[p]? = some (some (a.tmps.getD d undef))) → Q .normal a w) :
  WC P n K w (.region id ops dr) Q := by
 intro a ha
 have main := wp_any_genH (Ke := K) chain R Le G hB hnd hin hclear hR h hQ a
 cases dr with
 | true => exact wpIn_region_any hm (main _ (ha.sub hs) ha h0)
 | false => exact any_start hB (main _ (ha.sub hs) ha h0)
end
section
variable {P : Program} {ops : Array Oper} {S : Nat → Prop}
/-- That slot 'd' is not written yet. -/
def earlyB (ops : Array Oper) (i d : Nat) : Bool := (List.range ops.size).all fun c => !((ops[c]?).bind (·.dst) == some d) || (ancL ops c).contains i
theorem earlyB_of {ops : Array Oper} {i d : Nat} (h : earlyB ops i d = true) : ∀ c, (ops[c]?).bind (·.dst) = some d → (ancL ops c).contains i = true := fun c hc => by
 have hlt : c < ops.size := by
  rcases Nat.lt_or_ge c ops.size with h | h
  ·exact h
  ·simp [Array.getElem?_eq_none h] at hc
 have := List.all_eq_true.1 h c (List.mem_range.2 hlt)
 simpa [hc] using this
structure CtxA3 (ops : Array Oper) (l : List (Bool × SpS S)) (chain : List Nat) (first : Nat) (n : Fr) (K Ke : Known) (w0 : World) (i : Nat) (o : Oper) (a : Act) (w : World) : Prop extends CtxA ops l chain first n K w0 i o a w where
 old : ∀ d v, look Ke d = some v → earlyB ops i d = true → a.tmps.getD d undef = v
def Tail3 (P : Program) (ops : Array Oper) (Q : Exit → Act → World → Prop) (l : List (Bool × SpS S)) (n : Fr) (K Ke : Known) (w0 : World) (p q N : Nat) (GA : Option Addr → Nat → World → Prop) : Nat → List Oper → Prop
 | _, [] => True
 | i, o :: r => (([p, q].contains i = false ∧ ∃ β, GuardIs (optS l) o β ∧ (∀ g b, o.guard = some (g, b) → [p, q].contains g = false) ∧ (β = false → ∀ w, optS l i undef w) ∧
   (β = true → ∀ a w, CtxA3 ops l [p, q] p n K Ke w0 i o a w → o.wp P a w (fun a' w' => ∃ v, a' = Act.put a o.dst v ∧ Below w.heap.size w w' ∧ optS l i v w') Q)) ∨
  (i = p ∧ o.guard = none ∧ ∀ a w, CtxB ops l [p, q] n K w0 o a w → o.wp P a w (fun a' w' => ∃ ra rc, a' = Act.put a o.dst (.slice ra N rc) ∧ GA ra rc w' ∧ Chg S w w') Q) ∨
  (i = q ∧ o.guard = none ∧ ∃ d, depB ops o p d = true ∧ o.op = .assign (.tmp d))) ∧ Tail3 P ops Q l n K Ke w0 p q N GA (i + 1) r
def G3 (S : Nat → Prop) (w0 : World) (N : Nat) (GA : Option Addr → Nat → World → Prop) : List (Option Value) → World → Prop
 | [none, none], w => Below w0.heap.size w0 w
 | [some v, none], w => ∃ ra rc, v = .slice ra N rc ∧ GA ra rc w ∧ Chg S w0 w
 | [some v, some u], w => ∃ ra rc, v = .slice ra N rc ∧ u = .slice ra N rc ∧ GA ra rc w ∧ Chg S w0 w
 | _, _ => False
theorem G3.chg {w0 w : World} {N : Nat} {GA : Option Addr → Nat → World → Prop} : ∀ {vs : List (Option Value)}, G3 S w0 N GA vs w → Chg S w0 w
 | [none, none], h => .ofBelow h
 | [some _, none], h => by obtain ⟨_, _, _, _, h⟩ := h; exact h
 | [some _, some _], h => by obtain ⟨_, _, _, _, _, h⟩ := h; exact h
 | [none, some _], h => h.elim
 | [], h => h.elim
 | [x], h => by cases x <;> exact h.elim
 | _ :: _ :: _ :: _, h => by simp [G3] at h
theorem Tail3.gen {Q : Exit → Act → World → Prop} {l : List (Bool × SpS S)} {n : Fr} {K Ke : Known} {w0 : World} {p q N : Nat} {GA : Option Addr → Nat → World → Prop} (hpq : p ≠ q) (hGA : ∀ ra rc w w', Below w.heap.size w w' → GA ra rc w → GA ra rc w') : ∀ {lo : List Oper} {i : Nat}, Tail3 P ops Q l n K Ke w0 p q N GA i lo →
  SoundFromH P ops Q [p, q] (optS l) (Chg S) (G3 S w0 N GA) n K Ke i lo
 | [], _, _ => trivial
 | o :: r, i, ⟨h, hr⟩ => by
  refine ⟨?_, hr.gen hpq hGA⟩
  rcases h with ⟨hi, β, h1, h2, h3, h4⟩ | ⟨rfl, hg, h4⟩ | ⟨rfl, hg, d, hd, ho⟩
  ·refine .inl ⟨hi, β, h1, h2, h3, fun hβ a w vs C => ?_⟩
   refine Oper.wpIn_mono ?_ (wpIn_of (h4 hβ a w ⟨⟨C.now.chg, C.kn, C.dep, fun he => ?_⟩, fun d v hd hb => C.old d v hd (earlyB_of hb)⟩) (by rintro a' w' ⟨v, rfl, _⟩; exact put_defers _ _ _))
   ·rintro a' w' ⟨v, rfl, hb, hR⟩
    refine ⟨v, rfl, .ofBelow hb, ?_, hR⟩
    match vs, C.len, C.now with
    | [none, none], _, h => exact bstep h hb
    | [some _, none], _, ⟨ra, rc, e, h, hc⟩ => exact ⟨ra, rc, e, hGA _ _ _ _ hb h, hc.trans (.ofBelow hb)⟩
    | [some _, some _], _, ⟨ra, rc, e, e2, h, hc⟩ => exact ⟨ra, rc, e, e2, hGA _ _ _ _ hb h, hc.trans (.ofBelow hb)⟩
    | [none, some _], _, h => exact h.elim
   ·have := C.mostT 0 p rfl he
    match vs, C.len, C.now, this with
    | [none, none], _, h, _ => exact h
    | [none, some _], _, h, _ => exact h.elim
  ·refine .inr ⟨0, rfl, hg, fun a w vs C hn => ?_⟩
   match vs, C.len, C.now, hn, C with
   | [none, none], _, h, _, C =>
    refine Oper.wpIn_mono ?_ (wpIn_of (h4 a w ⟨h, C.kn, C.dep⟩) (by rintro a' w' ⟨_, _, rfl, _⟩; exact put_defers _ _ _))
    rintro a' w' ⟨ra, rc, rfl, hG, hc⟩
    exact ⟨_, rfl, hc, ra, rc, rfl, hG, (Chg.ofBelow h).trans hc⟩
   | [none, some _], _, h, _, _ => exact h.elim
  ·refine .inr ⟨1, rfl, hg, fun a w vs C hn => ?_⟩
   have hl := C.link 0 p d rfl hd
   match vs, C.len, C.now, hn, hl, C with
   | [some v, none], _, ⟨ra, rc, e, h, hc⟩, _, hl, C =>
    have hv : v = a.tmps.getD d undef := by simpa using hl
    refine Oper.wpIn_mono ?_ (wpIn_of (K := fun a' w' => a' = Act.put a o.dst (.slice ra N rc) ∧ w' = w) (wp_assign ho (show a.tmps.getD d undef = .slice ra N rc from (hv ▸ e)) ⟨rfl, rfl⟩) (by rintro a' w' ⟨rfl, _⟩; exact put_defers _ _ _))
    rintro a' w' ⟨rfl, rfl⟩
    exact ⟨_, rfl, .refl _ _, ra, rc, e, rfl, h, hc⟩
theorem WC.tail3 {id : Nat} {dr : Bool} {Q : Exit → Act → World → Prop} {n : Fr} {K : Known} {w : World} (l : List (Bool × SpS S)) (K0 : Known) (p q N dp dq : Nat) (GA : Option Addr → Nat → World → Prop) (hpq : p ≠ q) (hGA : ∀ ra rc w w', Below w.heap.size w w' → GA ra rc w → GA ra rc w')
  (hs : subK K0 K) (hclear : clearB ops K0 = true) (hm : P.follows .mixedOrders = true) (hB : opsB ops n.n = true) (hin : ([p, q].all fun c => Nat.blt c ops.size) = true) (hdp : (ops[p]?).bind (·.dst) = some dp) (hdq : (ops[q]?).bind (·.dst) = some dq)
  (h : Tail3 P ops Q l n K0 K w p q N GA 0 ops.toList)
  (hQ : ∀ (a : Act) (w' : World) (ra : Option Addr) (rc : Nat), Kn n K0 a → a.tmps.getD dp undef = .slice ra N rc → a.tmps.getD dq undef = .slice ra N rc → GA ra rc w' → Chg S w w' → (∀ i d, (ops[i]?).bind (·.dst) = some d → [p, q].contains i = false → optS l i (a.tmps.getD d undef) w') → Q .normal a w') :
  WC P n K w (.region id ops dr) Q := by
 refine WC.genH [p, q] (optS l) (Chg S) (G3 S w N GA) K0 hs hclear hm hB (by simpa using hpq) hin (optSKeep l) ?_ (h.gen hpq hGA) (fun a w' vs hk hlen hall hG hu hl => ?_)
 ·cases dr with
  | true => exact (Below.refl _ _).drew
  | false => exact Below.refl _ _
 ·obtain ⟨v, hv⟩ := hall 0 (by simp)
  obtain ⟨u, hu1⟩ := hall 1 (by simp)
  have hx := hl 0 p dp rfl hdp
  have hx2 := hl 1 q dq rfl hdq
  match vs, hlen, hv, hu1, hx, hx2, hG with
  | [some y, some z], _, _, _, hx, hx2, ⟨ra, rc, e, e2, hG, hc⟩ =>
   have hy : y = a.tmps.getD dp undef := by simpa using hx
   have hz : z = a.tmps.getD dq undef := by simpa using hx2
   exact hQ a w' ra rc hk (hy ▸ e) (hz ▸ e2) hG hc hu
end
end Go.Proofs.Ytnmopmdpnpcdhaa
