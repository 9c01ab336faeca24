/- Arguments of a law, opened: signatures, rows of terms. -/
import Derived.Test.YtbohlpfndiiimaaBKTf
import Derived.Test.YtbohlpfndiiimaaBKTa
import Derived.WalkKit
import Derived.ProofKit
import Derived.JoinedCond
import Derived.OpenShut
import Derived.Test.YtbohlpfndiiimaaBKTd
import Derived.Test.YtbohlpfndiiimaaBKTe

/- What Users hands out, gathered by the law: the program. -/
namespace Go.Proofs.Ytbohlpfndiiimaa
open Go.RowKit Go
set_option linter.unusedVariables false
set_option linter.unusedSimpArgs false
theorem uit_of {w' : World} {B gl : Nat} {l : List Nat} {ra : Option Addr} {rc : Nat} (hB : Blk w' gl 31 #[.slice ra l.length rc]) (hN : NsAt w' B l ra) (hg : B ≤ gl) : UIt w' B w'.heap.size gl l ra rc :=
 ⟨⟨hg, hB.lt⟩, Nat.le_refl _, hB, hN.row.mono (by decide) (fun b q h => ⟨q, h⟩)⟩
section
variable {w w' : World} {e c n : Nat} {a : Option Addr} {l : List Nat}
theorem RowD.blkU (h : RowD eltN (fun _ => False) w e a c n l) : ∀ b, obk a n c = some b → ∃ cs, Blk w b e cs := fun b q => by
 obtain ⟨⟨xs, k1, k2⟩, k3, k4⟩ := h
 rcases k1.2 with ⟨e1, _⟩ | ⟨g, cap, cur, e1, e2, e3, r⟩
 ·have z : (Value.slice a n c).ownBlock = some b := q
  rw [e1] at z; cases z
 ·have z : (Value.slice a n c).ownBlock = some b := q
  rw [e1] at z
  obtain rfl : g = b := by simpa [Value.ownBlock] using z
  exact ⟨cur, e3⟩
theorem RowD.cellsN (h : RowD eltN (fun _ => False) w e a c n l) (hk : ∀ (k : Nat) (o : Obj), w.heap[k]? = some o → o.isCells = true → w'.heap[k]? = some o) : RowD eltN (fun _ => False) w' e a c n l := by
 obtain ⟨⟨xs, k1, k2⟩, k3, k4⟩ := h
 refine ⟨⟨xs, ⟨k1.1, k1.2.imp id ?_⟩, Elts.keep (fun p v hp hv => hp.elim) k2⟩, k3, k4⟩
 rintro ⟨g, cap, cur, e1, e2, e3, r⟩
 exact ⟨g, cap, cur, e1, e2, hk g _ e3 rfl, r⟩
theorem RowD.upd {g : Nat} (h : RowD eltN (fun _ => False) w e a c n l) (hu : Upd g w w') (hg : obk a n c ≠ some g) : RowD eltN (fun _ => False) w' e a c n l := h.chg (Z := fun b => b = g) (.ofUpd hu rfl) (fun b q e => hg ((show b = g from e) ▸ q)) (fun b q => q.elim)
theorem RowD.turnN {B : Nat} (h : RowD eltN (fun _ => False) w e a c n l) (t : Turn B w w') : RowD eltN (fun _ => False) w' e a c n l := h.cellsN (fun k o h1 h2 => t.block k o h1 (.inl h2))
theorem RowD.nsAt {B : Nat} (h : RowD eltN (fun _ => False) w e a c l.length l) (hb : ∀ b, obk a l.length c = some b → B ≤ b) : NsAt w B l a := ⟨by
 have z := RowD.inRowOwn h
 exact z.mono (by decide) (fun b q _ => hb b q)⟩
end
/-- So many of the users as are asked for (less than 1: all). -/
def usI (leave : Int) (l : List Nat) : List Nat := if 1 ≤ leave then l.take leave.toNat else l
theorem usI_all {leave : Int} {l : List Nat} (h : 1 ≤ leave → (l.length : Int) < leave) : usI leave l = l := by
 unfold usI
 split
 ·rename_i c; rw [List.take_of_length_le (by have := h c; omega)]
 ·rfl
theorem usI_pre {leave : Int} {l pre : List Nat} (h : pre <+: l) (e : (pre.length : Int) = leave) (h1 : 1 ≤ leave) : usI leave l = pre := by
 unfold usI
 rw [if_pos h1]
 obtain ⟨r, rfl⟩ := h
 rw [show leave.toNat = pre.length by omega, List.take_left' rfl]
set_option maxRecDepth 100000 in
theorem users_any (g : Nat) (sg : List Sy) (N : List En) (Y : Nat → Prop) (w : World) (k : Nat) (leave : Int) (hNl : N.length ≤ 1000000) (hk : k < N.length) (hK : BkS w g sg Y N) :
  Calls Try.prog 17 #[.pointer (some ⟨g, 0, none⟩), .int .i64 (k : Int), .int .i64 leave] w (Ret fun v' w' => (∃ ra rc, v' = .slice ra (usI leave (usersE N k)).length rc ∧ NsAt w' w.heap.size (usI leave (usersE N k)) ra) ∧ Below w.heap.size w w') := by
 have hul : (usersE N k).length ≤ 1000000 := by
  have z := List.length_filter_le (fun j => decide (k ∈ (eget N j).args)) (List.range N.length)
  rw [List.length_range] at z
  unfold usersE; omega
 generalize hU : usersE N k = U at hul
 refine Calls.walk (l := [.pointer (some ⟨g, 0, none⟩), .int .i64 (((k : Nat) : Int)), .int .i64 leave]) Try.func17 rfl (by kernel_rfl) ?_
 refine WC.sub (K' := [(0, .pointer (some ⟨g, 0, none⟩)), (1, .int .i64 (((k : Nat) : Int))), (2, .int .i64 leave)]) ⟨rfl, rfl, rfl, trivial⟩ ?_
 refine WC.seq (WC.region ?_)
 refine WL.step (post := NewBlk w 3 #[.int .i64 leave]) rfl rfl rfl (fun za zC zh zk => box_3 rfl (zh.ev rfl) (zk _ _ (newBlk _ _ _))) ?_
 rintro _ w1 ⟨g2, rfl, hg3, hB4, hb5, hz6⟩
 have hl7 : w.heap.size ≤ g2 := by omega
 refine WL.asg rfl rfl rfl rfl rfl (WL.nil (WE.next (WC.seq (WC.region ?_))))
 refine WL.step (post := NewBlk w1 31 #[.slice none 0 0]) rfl rfl rfl (fun za zC zh zk => alloc_31 rfl (zk _ _ (newBlk _ _ _))) ?_
 rintro _ w8 ⟨g9, rfl, hg10, hB11, hb12, hz13⟩
 have hl14 : g2 < g9 := by have z1 := hB4.lt; omega
 have hl15 : w.heap.size ≤ g9 := by have z2 := (hb5).size; omega
 refine WL.nil (WE.next (WC.seq (WC.region (WL.mv rfl rfl rfl rfl rfl (WL.mv rfl rfl rfl rfl rfl ?_)))))
 have hB23 := hB4.below hb12
 have hl24 := hB23.lt
 have hl25 := hB11.lt
 have hb26 : Below w.heap.size w w8 := (bstep hb5 hb12)
 refine WL.call rfl rfl rfl (fun za zh zC => wp_call (by kernel_rfl) rfl (hv2 (zh.ev rfl) (zh.ev rfl))) (bUsers_any g sg N Y _ k hNl hk (BkS.below hK hb26)) ?_
 rintro _ w27 ⟨⟨gl16, ra17, rc18, rfl, hB19, hN20, hg21⟩, hb22⟩
 rw [hU] at hB19 hN20
 have hIT := uit_of hB19 hN20 hg21
 have hsz12 : w8.heap.size ≤ w27.heap.size := (hb22).size
 refine WL.asg rfl rfl rfl rfl rfl (WL.nil (WE.next (WC.seq (WC.seq (WC.region (WL.mv rfl rfl rfl rfl rfl ?_))))))
 refine WL.val (.bool false) rfl rfl rfl (fun za zC zh zk => eqlfn_85 rfl (zh.ev rfl) (zh.ev rfl) zk) ?_
 refine WL.nil (WE.next ?_)
 refine WC.condF rfl rfl ?_
 refine WC.skip (WE.next (WC.seq (WC.seq (WC.region (WL.mv rfl rfl rfl rfl rfl (WL.nil (WE.next (WC.block ?_))))))))
 have hwn1 : w.heap.size ≤ w8.heap.size := by omega
 refine WC.range (γ := Unit) (encs := fun zx => [.int .i64 (((zx : Nat) : Int))]) ((fun b => b < w8.heap.size ∨ w27.heap.size ≤ b)) rfl (by kernel_rfl) (by kernel_rfl) (users_seq _ (fun b h1 h2 h => by omega) (by omega) hIT) ((fun l hl => .inr (Nat.le_trans ((Nat.le_refl _)) hl))) ((Below.refl _ _)) (fun _ => rfl) (fun x zy => [(0, .pointer (some ⟨g, 0, none⟩)), (1, .int .i64 (((k : Nat) : Int))), (2, .int .i64 leave), (5, .pointer (some ⟨g2, 0, none⟩)), (6, .slice none 0 0), (7, .pointer (some ⟨g9, 0, none⟩)), (8, .func (.func 57) #[] #[.pointer (some ⟨gl16, 0, none⟩)]), (9, .int .i64 (((x : Nat) : Int))), (14, .bool false), (15, .func (.func 57) #[] #[.pointer (some ⟨gl16, 0, none⟩)])]) (fun x zy w28 => True) (fun pre w28 => ∃ (ra : Option Addr), ∃ (rc : Nat), RowD eltN (fun _ => False) (w28) 3 ra rc pre.length pre ∧ (∀ b, obk ra pre.length rc = some b → w27.heap.size ≤ b) ∧ (1 ≤ leave → (pre.length : Int) < leave) ∧ w27.heap.size ≤ (w28).heap.size ∧ Below w.heap.size w w28 ∧ Blk w28 g9 31 #[.slice ra pre.length rc] ∧ Blk w28 g2 3 #[.int .i64 leave]) (fun zc pre w28 => zc = .exit 0 ∧ ∃ ra rc, RowD eltN (fun _ => False) (w28) 3 ra rc pre.length pre ∧ (∀ b, obk ra pre.length rc = some b → w27.heap.size ≤ b) ∧ Blk w28 g9 31 #[.slice ra pre.length rc] ∧ ((pre.length : Int) = leave ∧ 1 ≤ leave) ∧ Below w.heap.size w w28) (fun pre w1 w2 t h => (by obtain ⟨ra, rc, z0, z1, z2, z3, z4, z5, z6⟩ := h; exact ⟨ra, rc, RowD.turnN z0 t, z1, z2, Nat.le_trans z3 t.size, below_turn z4 t (Nat.le_trans hb26.size hb22.size), blk_turn z5 t, blk_turn z6 t⟩)) (fun zc pre w1 w2 t h => (by obtain ⟨e, ra, rc, z1, z2, z3, z4, z5⟩ := h; exact ⟨e, ra, rc, z1.turnN t, z2, blk_turn z3 t, z4, below_turn z5 t (Nat.le_trans hb26.size hb22.size)⟩)) (fun x zy w1 w2 t h => h) ?_ ?_ ?_ ?_ ?_
 ·have hb29 : Below w.heap.size w w27 := (bstep hb26 hb22)
  have hB30 := hB11.below hb22
  have hB31 := hB23.below hb22
  exact ⟨none, 0, RowD.nil, (fun b e => nomatch e), (fun h => by simp; omega), (Nat.le_refl _), hb29, hB30, hB31⟩
 ·rintro zl32 pre x w33 ⟨ra, rc, _, _, _, hzs, hb34, _, _⟩
  refine WC.sub (K' := [(0, .pointer (some ⟨g, 0, none⟩)), (1, .int .i64 (((k : Nat) : Int))), (2, .int .i64 leave), (5, .pointer (some ⟨g2, 0, none⟩)), (6, .slice none 0 0), (7, .pointer (some ⟨g9, 0, none⟩)), (8, .func (.func 57) #[] #[.pointer (some ⟨gl16, 0, none⟩)]), (14, .bool false), (15, .func (.func 57) #[] #[.pointer (some ⟨gl16, 0, none⟩)]), (16, .int .i64 (((x : Nat) : Int)))]) ⟨rfl, rfl, rfl, rfl, rfl, rfl, rfl, rfl, rfl, rfl, trivial⟩ ?_
  refine WC.region (WL.asg rfl rfl rfl rfl rfl (WL.nil ?_))
  exact fun _ zk => ⟨(Below.refl _ _), (), zk.sub ⟨rfl, rfl, rfl, rfl, rfl, rfl, rfl, rfl, rfl, rfl, trivial⟩, trivial⟩
 ·rintro zl35 pre x zy w36 ⟨ra, rc, hR, hO, hL, hz41, hb38, hB39, hB40⟩ _ hl37
  have hpl : pre.length < U.length := by assumption
  refine WC.block (WC.seq (WC.region ?_))
  refine WL.val _ rfl rfl rfl (fun za zC zh zk => ld_31 rfl (zh.ev rfl) ((hB39.cell 0).trans rfl) zk) ?_
  refine WL.mv rfl rfl rfl rfl rfl ?_
  refine WL.step (post := NewRow w36 3 #[.int .i64 (((x : Nat) : Int))] 1) rfl rfl rfl (fun za zC zh zk => row_31_1 rfl (zh.ev rfl) (zk _ _ (newRow _ _ _ _))) ?_
  rintro _ w42 ⟨g43, rfl, hg44, hB45, hb46, hz47⟩
  have hl48 : g9 < g43 := by have z1 := hB39.lt; omega
  have hl49 : g2 < g43 := by have z1 := hB40.lt; omega
  have hl50 : w27.heap.size ≤ g43 := by have z2 := hz41; omega
  have hl51 : w.heap.size ≤ g43 := by have z2 := (hb38).size; omega
  have hl52 : w36.heap.size ≤ g43 := by omega
  have ho53 := hR.below hb46
  have hB54 := hB39.below hb46
  have hB55 := hB40.below hb46
  have hb62 : Below w.heap.size w w42 := (bstep hb38 hb46)
  have hsz9 : w27.heap.size ≤ w42.heap.size := by omega
  refine WL.step (post := fun v w' => ∃ ra2 rc2, v = .slice ra2 (pre.length + 1) rc2 ∧ RowD eltN (fun _ => False) w' 3 ra2 rc2 ((pre.length + 1)) ((pre ++ [x])) ∧ Chg (fun b => obk ra pre.length rc = some b) w42 w' ∧ ∀ b, obk ra2 ((pre.length + 1)) rc2 = some b → w27.heap.size ≤ b) rfl rfl rfl (fun za zC zh zk => wp_appD (E := eltN) (S2 := fun _ => False) (y := x) (size := 1) (bytes := 8) (z := .int .i64 0) rfl Try.underlying31 (by kernel_rfl) rfl (by decide) rfl (zh.ev rfl) (zh.ev rfl) ho53 hB45 rfl (fun b q => q.elim) (by omega) (by omega) (fun ra rc w' h1 h2 h3 => zk _ _ ⟨ra, rc, rfl, h1.mono (fun b q _ => by rcases q.1 with q | q <;> exact q) (fun b q => q.elim), h2, fun b e => by rcases h3 b e with z | z; exact hO b z; omega⟩)) ?_
  rintro _ w56 ⟨ra57, rc58, rfl, hr59, hc60, ho61⟩
  have hb65 := chg_below hb62 hc60 (fun b hb e => by have z := hO b e; omega)
  have hB63 := chg_blk hB54 hc60 (fun e => by have z := hO _ e; omega)
  have hB64 := chg_blk hB55 hc60 (fun e => by have z := hO _ e; omega)
  have hc66 : Chg (fun b => b < w8.heap.size ∨ w27.heap.size ≤ b) w42 w56 := hc60.mono (fun b e => .inr (hO b e))
  refine WL.step (post := fun _ w' => Upd g9 w56 w' ∧ Blk w' g9 31 #[.slice ra57 ((pre.length + 1)) rc58]) rfl rfl rfl (fun za zC zh zk => st_31 rfl (zh.ev rfl) (zh.ev rfl) hB63 (by first | decide | simp) (fun v => zk v _ ⟨Upd.at_ _ _ _ _, hB63.set_ 0 _⟩)) ?_
  rintro v70 w67 ⟨hu68, hB69⟩
  have hb71 := upd_below hb65 hu68 (by omega)
  have hB72 := upd_blk hB64 hu68 (by omega)
  have ho73 := hr59.upd hu68 ((RowD.neBlk hr59 hB63 (by decide)))
  refine WL.nil (WE.next (WC.seq (WC.region ?_)))
  refine WL.val _ rfl rfl rfl (fun za zC zh zk => ld_31 rfl (zh.ev rfl) ((hB69.cell 0).trans rfl) zk) ?_
  refine WL.val (.int .i64 ((((pre.length + 1) : Nat) : Int))) rfl rfl rfl (fun za zC zh zk => len_31 rfl (zh.ev rfl) zk) ?_
  refine WL.val _ rfl rfl rfl (fun za zC zh zk => ld_3 rfl (zh.ev rfl) ((hB72.cell 0).trans rfl) zk) ?_
  refine WL.val (.bool ((((((pre.length + 1) : Nat) : Int) : Int) == (leave : Int)))) rfl rfl rfl (fun za zC zh zk => eql_3 rfl (zh.ev rfl) (zh.ev rfl) zk) ?_
  refine WL.nil (WE.next ?_)
  refine WC.cond rfl (fun h74 => ?_) (fun h74 => ?_)
  ·have h74 : ((((pre.length + 1) : Nat) : Int) : Int) = (leave : Int) := by simpa using h74
   refine WC.exit (WE.blockNot rfl ?_)
   exact fun _ _ => ⟨(((keepsFrom_below hb46).trans (keepsFrom_chg hc60 (fun k o _ h1 h2 q => by obtain ⟨cs, z⟩ := RowD.blkU ho53 k q; rw [show w42.heap[k]? = _ from z] at h1; cases h1; cases h2))).trans (keepsFrom_upd hu68 hB63)), ⟨rfl, ra57, rc58, by rw [List.length_append]; exact ho73, by rw [List.length_append]; exact ho61, by rw [List.length_append]; exact hB69, by rw [List.length_append]; have z2 := h74; simp only [List.length_singleton] at *; omega, hb71⟩⟩
  ·have h74 : ¬ (((((pre.length + 1) : Nat) : Int) : Int) = (leave : Int)) := by simpa using h74
   refine WC.skip (WE.blockNormal ?_)
   have hs75 : Chg ((fun b => b < w8.heap.size ∨ w27.heap.size ≤ b)) w36 w67 := (Chg.trans2 (Chg.trans2 (Chg.trans2 (Chg.refl ((fun b => b < w8.heap.size ∨ w27.heap.size ≤ b)) _) (Chg.ofBelow (S := fun k => k < 0) hb46) (fun i h1 h2 => by first | exact h2 | exact .inl ⟨h2, h1⟩ | exact .inl h2 | exact .inr h2 | exact .inr (.inl h2) | exact .inr (.inr h2) | ((try dsimp only at *); omega))) hc66 (fun i h1 h2 => by first | exact h2 | exact .inl ⟨h2, h1⟩ | exact .inl h2 | exact .inr h2 | exact .inr (.inl h2) | exact .inr (.inr h2) | ((try dsimp only at *); omega))) (Chg.ofUpd (S := fun k => k = g9) hu68 rfl) (fun i h1 h2 => by first | exact h2 | exact .inl ⟨h2, h1⟩ | exact .inl h2 | exact .inr h2 | exact .inr (.inl h2) | exact .inr (.inr h2) | ((try dsimp only at *); omega)))
   exact fun _ _ => ⟨(((keepsFrom_below hb46).trans (keepsFrom_chg hc60 (fun k o _ h1 h2 q => by obtain ⟨cs, z⟩ := RowD.blkU ho53 k q; rw [show w42.heap[k]? = _ from z] at h1; cases h1; cases h2))).trans (keepsFrom_upd hu68 hB63)), hs75, ⟨ra57, rc58, (by rw [List.length_append]; exact ho73), (by rw [List.length_append]; exact ho61), (fun h1 => by have z := hL h1; have z2 := h74; rw [List.length_append]; simp only [List.length_singleton] at *; omega), (Nat.le_trans (Nat.le_trans (Nat.le_trans hz41 hb46.size) hc60.size) (Nat.le_of_eq hu68.size.symm)), hb71, (by rw [List.length_append]; exact hB69), hB72⟩⟩
 ·rintro D76 xs77 w78 hD79 hS80 ⟨ra, rc, hR, hO, hL, hz85, hb82, hB83, hB84⟩ hw81
  obtain rfl := hS80
  have hxs := usI_all hL
  refine WE.blockNormal (WE.next (WC.seq (WC.region ?_)))
  refine WL.val _ rfl rfl rfl (fun za zC zh zk => ld_31 rfl (zh.ev rfl) ((hB83.cell 0).trans rfl) zk) ?_
  refine WL.asg rfl rfl rfl rfl rfl (WL.nil (WE.next (WC.ret ?_)))
  obtain ⟨w86, hs87, hc88, hk89⟩ := shut_all [D76] w78 (by intro D hD; simp only [List.mem_cons, List.not_mem_nil, or_false] at hD; rcases hD with rfl <;> assumption) (by simp <;> omega)
  have hB90 : Blk w86 g9 31 #[.slice ra xs77.length rc] := hk89 _ _ hB83 rfl
  have hB91 : Blk w86 g2 3 #[.int .i64 leave] := hk89 _ _ hB84 rfl
  have hb92 := chg_below hb82 hc88 (fun b hb => by simp only [List.mem_cons, List.not_mem_nil, or_false]; omega)
  refine WE.retS1 rfl rfl hs87 ?_
  rw [hxs]
  exact ⟨_, rfl, ⟨_, _, rfl, RowD.nsAt (RowD.cellsN hR hk89) (fun b q => by have z := hO b q; omega)⟩, hb92⟩
 ·rintro D93 zc94 pre95 w96 hD97 hS98 hI99 hw100
  obtain ⟨rfl, ra, rc, hR, hO, hB7, hE, hb0⟩ := hI99
  have hxs := usI_pre hS98 hE.1 hE.2
  refine WC.exit (WE.blockIs rfl (WE.next (WC.seq (WC.region ?_))))
  refine WL.val _ rfl rfl rfl (fun za zC zh zk => ld_31 rfl (zh.ev rfl) ((hB7.cell 0).trans rfl) zk) ?_
  refine WL.asg rfl rfl rfl rfl rfl (WL.nil (WE.next (WC.ret ?_)))
  obtain ⟨w101, hs102, hc103, hk104⟩ := shut_all [D93] w96 (by intro D hD; simp only [List.mem_cons, List.not_mem_nil, or_false] at hD; rcases hD with rfl <;> assumption) (by simp <;> omega)
  have hB105 : Blk w101 g9 31 #[.slice ra pre95.length rc] := hk104 _ _ hB7 rfl
  have hb106 := chg_below hb0 hc103 (fun b hb => by simp only [List.mem_cons, List.not_mem_nil, or_false]; omega)
  refine WE.retS1 rfl rfl hs102 ?_
  rw [hxs]
  exact ⟨_, rfl, ⟨_, _, rfl, RowD.nsAt (RowD.cellsN hR hk104) (fun b q => by have z := hO b q; omega)⟩, hb106⟩
end Go.Proofs.Ytbohlpfndiiimaa

/- What a bank does, as a law sees it. -/
namespace Go.Proofs.Ytbohlpfndiiimaa
open Go.RowKit Go
set_option linter.unusedVariables false
set_option linter.unusedSimpArgs false
section
variable {w : World} {B g : Nat} {sg : List Sy} {N : List En} {X : Nat → Prop}
theorem BkSJ.is (h : BkSJ w B g sg N X) : ∃ Y, BkS w g sg Y N ∧ ∃ Z sa sc, BkIs w g (.slice sa sg.length sc) Z N := by
  obtain ⟨Y, h1, _⟩ := h
  exact ⟨Y, h1, h1.is⟩
theorem BkSJ.hg (h : BkSJ w B g sg N X) : B ≤ g ∧ g < w.heap.size := by
  obtain ⟨Y, h1, h2, _⟩ := h
  exact ⟨h2 _ h1.hg, h1.lt _ h1.hg⟩
theorem jLen (h : BkSJ w B g sg N X) : Calls Try.prog 14 #[.pointer (some ⟨g, 0, none⟩)] w (Ret fun v' w' => v' = .int .i64 ((N.length : Nat) : Int) ∧ Below w.heap.size w w') := by
  obtain ⟨Y, h1, Z, sa, sc, h2⟩ := h.is
  exact blen_any g _ Z N w h2
theorem jSize (k : Nat) (hk : k < N.length) (h : BkSJ w B g sg N X) : Calls Try.prog 15 #[.pointer (some ⟨g, 0, none⟩), .int .i64 (k : Int)] w (Ret fun v' w' => v' = .int .i64 (((tmE N k).size : Nat) : Int) ∧ Below w.heap.size w w') := by
  obtain ⟨Y, h1, Z, sa, sc, h2⟩ := h.is
  exact bsize_any g _ Z N w k h2 hk
theorem jGround (k : Nat) (hk : k < N.length) (h : BkSJ w B g sg N X) : Calls Try.prog 16 #[.pointer (some ⟨g, 0, none⟩), .int .i64 (k : Int)] w (Ret fun v' w' => v' = .bool (tmE N k).gnd ∧ Below w.heap.size w w') := by
  obtain ⟨Y, h1, Z, sa, sc, h2⟩ := h.is
  exact bground_any g _ Z N w k h2 hk
theorem jFind (t : T) (v : Value) (hNl : N.length ≤ 1000000) (hsz : t.size ≤ 4294967296) (hv : IsT w t v) (h : BkSJ w B g sg N X) : Calls Try.prog 12 #[.pointer (some ⟨g, 0, none⟩), v] w (Ret fun v' w' => v' = .tuple #[.int .i64 (((t.bfind N).getD 0 : Nat) : Int), .bool (t.bfind N).isSome] ∧ Below w.heap.size w w') := by
  obtain ⟨Y, h1, Z, sa, sc, h2⟩ := h.is
  exact bfind_any g _ Z N (by omega) t w v hsz hv h2
theorem jGet (k : Nat) (hNl : N.length ≤ 1000000) (hk : k < N.length) (h : BkSJ w B g sg N X) : Calls Try.prog 11 #[.pointer (some ⟨g, 0, none⟩), .int .i64 (k : Int)] w (Ret fun v' w' => (∃ v, v' = .tuple #[v, .int .i64 0] ∧ NewT w w' (tmE N k) v) ∧ Below w.heap.size w w') := by
  obtain ⟨Y, h1, _⟩ := h
  refine Calls.mono (bGet_any g sg N Y w k hNl hk h1) (fun e w' hr => ?_)
  obtain ⟨v', rfl, ⟨v, h2, h3⟩, hb⟩ := hr
  exact ⟨v', rfl, ⟨v, h3, h2⟩, hb⟩
theorem jArgs (k : Nat) (hNl : N.length ≤ 1000000) (hk : k < N.length) (h : BkSJ w B g sg N X) : Calls Try.prog 13 #[.pointer (some ⟨g, 0, none⟩), .int .i64 (k : Int)] w (Ret fun v' w' => (∃ ra rc, v' = .slice ra (eget N k).args.length rc ∧ NsAt w' w.heap.size (eget N k).args ra) ∧ Below w.heap.size w w') := by
  obtain ⟨Y, h1, _⟩ := h
  exact bArgs_any g sg N Y w k hNl hk h1
theorem jUsers (k : Nat) (leave : Int) (hNl : N.length ≤ 1000000) (hk : k < N.length) (h : BkSJ w B g sg N X) : Calls Try.prog 17 #[.pointer (some ⟨g, 0, none⟩), .int .i64 (k : Int), .int .i64 leave] w (Ret fun v' w' => (∃ ra rc, v' = .slice ra (usI leave (usersE N k)).length rc ∧ NsAt w' w.heap.size (usI leave (usersE N k)) ra) ∧ Below w.heap.size w w') := by
  obtain ⟨Y, h1, _⟩ := h
  exact users_any g sg N Y w k leave hNl hk h1
/-- What Put changes: nothing that is to stay. -/
def PutTo (w w' : World) (B g : Nat) (sg : List Sy) (N' : List En) (X : Nat → Prop) : Prop := ∃ Y, (∀ b, (X b ∨ b < B) → b < w.heap.size → ¬ Y b) ∧ Chg Y w w' ∧ BkSJ w' B g sg N' (fun b => (X b ∨ b < B) ∧ b < w.heap.size)
theorem jPut (t : T) (v : Value) (A : Nat → Prop) (hNl : N.length ≤ 1000000) (hsz : t.size ≤ 4294967296) (hA : ∀ b, A b → (X b ∨ b < B) ∧ b < w.heap.size) (hin : InT A w t v) (h : BkSJ w B g sg N X) : Calls Try.prog 9 #[.pointer (some ⟨g, 0, none⟩), v] w (Ret fun v' w' => v' = .tuple #[.int .i64 (bputV sg N t), .int .i64 (chkI sg t)] ∧ PutTo w w' B g sg (bputI sg N t) X) := by
  obtain ⟨Y, h1, h2, h3⟩ := h
  have hno : ∀ b, (X b ∨ b < B) → ¬ Y b := fun b q k => by
    rcases q with q | q
    · exact h3 b q k
    · have := h2 b k; omega
  refine Calls.mono (bPut_any g sg t N Y A w v hsz hNl h1 hin (fun b q => ⟨hno b (hA b q).1, (hA b q).2⟩)) (fun e w' hr => ?_)
  obtain ⟨v', rfl, hv, ⟨Y', k1, k2⟩, hc⟩ := hr
  obtain ⟨Z, sa, sc, hBk⟩ := h1.is
  have hsize : B ≤ w.heap.size := Nat.le_trans (h2 _ h1.hg) (Nat.le_of_lt (h1.lt _ h1.hg))
  refine ⟨v', rfl, hv, Y, fun b q _ => hno b q, hc, Y', k1, fun b q => ?_, fun b q k => ?_⟩
  · rcases k2 b q with z | z
    · exact h2 b z
    · omega
  · rcases k2 b k with z | z
    · exact hno b q.1 z
    · omega
end
end Go.Proofs.Ytbohlpfndiiimaa

/- What wakes the laws: the program. -/
namespace Go.Proofs.Ytbohlpfndiiimaa
open Go.RowKit Go
set_option linter.unusedVariables false
set_option linter.unusedSimpArgs false
/-- The signature of 'wakes'. -/
def smallSg : List Sy := [truth, ⟨⟨#[97]⟩, 0, false⟩, ⟨⟨#[102]⟩, 2, false⟩, ⟨⟨#[112]⟩, 1, true⟩]
theorem smallSg_ok : sigCheck smallSg = 0 := by decide +kernel
theorem smallSg_wf : ∀ x ∈ smallSg, I64 x.ar ∧ x.name.size ≤ maxLen := by
 intro x hx
 simp only [smallSg, List.mem_cons, List.not_mem_nil, or_false] at hx
 unfold I64 maxLen
 rcases hx with rfl | rfl | rfl | rfl <;> decide +kernel
set_option maxRecDepth 100000 in
theorem rtruth_any (w : World) : Calls Try.prog 51 #[] w (Ret fun v' w' => v' = .agg #[.string truth.name, .int .i64 truth.ar, .bool truth.pred] ∧ Below w.heap.size w w') := by
 refine Calls.walk (l := []) Try.func51 rfl (by kernel_rfl) ?_
 refine WC.sub (K' := []) trivial ?_
 refine WC.seq (WC.region ?_)
 refine WL.step (post := NewBlk w 66 #[.string (⟨#[]⟩), .int .i64 0, .bool false]) rfl rfl rfl (fun za zC zh zk => alloc_66 rfl (zk _ _ (newBlk _ _ _))) ?_
 rintro _ w1 ⟨g2, rfl, hg3, hB4, hb5, hz6⟩
 have hl7 : w.heap.size ≤ g2 := by omega
 refine WL.nil (WE.next (WC.seq (WC.region ?_)))
 refine WL.val (.agg #[.string ((⟨#[36, 116, 114, 117, 101]⟩ : ByteArray)), .int .i64 0, .bool true]) rfl rfl rfl (fun za zC zh zk => build_66_0_1_2 rfl (zh.ev rfl) (zh.ev rfl) (zh.ev rfl) zk) ?_
 refine WL.step (post := fun _ w' => Upd g2 w1 w' ∧ Blk w' g2 66 #[.string ((⟨#[36, 116, 114, 117, 101]⟩ : ByteArray)), .int .i64 0, .bool true]) rfl rfl rfl (fun za zC zh zk => st_66 rfl (zh.ev rfl) (zh.ev rfl) rfl rfl rfl hB4 (by first | decide | simp) (fun v => zk v _ ⟨((Upd.at_ _ _ _ _).trans (Upd.at_ _ _ _ _)).trans (Upd.at_ _ _ _ _), ((hB4.set_ 0 _).set_ 1 _).set_ 2 _⟩)) ?_
 rintro v11 w8 ⟨hu9, hB10⟩
 have hb12 := upd_below hb5 hu9 (by omega)
 refine WL.nil (WE.next (WC.ret ?_))
 refine WE.retAny (v := .agg #[.string ((⟨#[36, 116, 114, 117, 101]⟩ : ByteArray)), .int .i64 0, .bool true]) (fun za zh => ?_) ?_
 ·have z0 : za.tmps[0]?.getD undef = .pointer (some ⟨g2, 0, none⟩) := by rw [← Array.getD_eq_getD_getElem?]; exact zh.knows 0 _ rfl
  have y0 : w8.cell? ⟨g2, 0, none⟩ = some (.string ((⟨#[36, 116, 114, 117, 101]⟩ : ByteArray))) := ((hB10.cell 0).trans rfl)
  have y1 : w8.cell? ⟨g2, 1, none⟩ = some (.int .i64 0) := ((hB10.cell 1).trans rfl)
  have y2 : w8.cell? ⟨g2, 2, none⟩ = some (.bool true) := ((hB10.cell 2).trans rfl)
  simp [results, Try.results51, z0, y0, y1, y2, go_sem]
 ·exact ⟨_, rfl, rfl, hb12⟩
set_option maxRecDepth 100000 in
theorem small_any (w : World) : Calls Try.prog 28 #[] w (Ret fun v' w' => IsSig w' smallSg v' ∧ Below w.heap.size w w') := by
 refine Calls.walk (l := []) Try.func28 rfl (by kernel_rfl) ?_
 refine WC.sub (K' := []) trivial ?_
 refine WC.seq (WC.region ?_)
 refine WL.step (post := NewBlk w 24 #[.slice none 0 0]) rfl rfl rfl (fun za zC zh zk => alloc_24 rfl (zk _ _ (newBlk _ _ _))) ?_
 rintro _ w1 ⟨g2, rfl, hg3, hB4, hb5, hz6⟩
 have hl7 : w.heap.size ≤ g2 := by omega
 refine WL.nil (WE.next (WC.seq (WC.region ?_)))
 refine WL.call rfl rfl rfl (fun za zh zC => wp_call (by kernel_rfl) rfl (hv0)) (rtruth_any _) ?_
 rintro _ w9 ⟨rfl, hq8⟩
 refine WL.val (.agg #[.string ((⟨#[97]⟩ : ByteArray)), .int .i64 0, .bool false]) rfl rfl rfl (fun za zC zh zk => build_66_0 rfl (zh.ev rfl) zk) ?_
 refine WL.val (.agg #[.string ((⟨#[102]⟩ : ByteArray)), .int .i64 2, .bool false]) rfl rfl rfl (fun za zC zh zk => build_66_0_1 rfl (zh.ev rfl) (zh.ev rfl) zk) ?_
 refine WL.val (.agg #[.string ((⟨#[112]⟩ : ByteArray)), .int .i64 1, .bool true]) rfl rfl rfl (fun za zC zh zk => build_66_0_1_2 rfl (zh.ev rfl) (zh.ev rfl) (zh.ev rfl) zk) ?_
 refine WL.step (post := NewRow w9 66 #[.string truth.name, .int .i64 truth.ar, .bool truth.pred, .string ((⟨#[97]⟩ : ByteArray)), .int .i64 0, .bool false, .string ((⟨#[102]⟩ : ByteArray)), .int .i64 2, .bool false, .string ((⟨#[112]⟩ : ByteArray)), .int .i64 1, .bool true] 4) rfl rfl rfl (fun za zC zh zk => row_22_4 rfl (zh.ev rfl) (zh.ev rfl) (zh.ev rfl) (zh.ev rfl) (zk _ _ (newRow _ _ _ _))) ?_
 rintro _ w10 ⟨g11, rfl, hg12, hB13, hb14, hz15⟩
 have hl16 : g2 < g11 := by have z1 := hB4.lt; have z2 := (hq8).size; omega
 have hb17 : Below w.heap.size w w9 := (bstep hb5 hq8)
 have hl18 : w.heap.size ≤ g11 := by have z2 := (hb17).size; omega
 refine WL.val (.agg #[.slice ((some ⟨g11, 0, none⟩)) 4 4]) rfl rfl rfl (fun za zC zh zk => build_24_0 rfl (zh.ev rfl) zk) ?_
 have hb20 : Below w1.heap.size w1 w10 := (bstep hq8 hb14)
 have hB19 := hB4.below hb20
 refine WL.step (post := fun _ w' => Upd g2 w10 w' ∧ Blk w' g2 24 #[.slice ((some ⟨g11, 0, none⟩)) 4 4]) rfl rfl rfl (fun za zC zh zk => st_24 rfl (zh.ev rfl) (zh.ev rfl) rfl hB19 (by first | decide | simp) (fun v => zk v _ ⟨Upd.at_ _ _ _ _, hB19.set_ 0 _⟩)) ?_
 rintro v24 w21 ⟨hu22, hB23⟩
 have hb25 : Below w.heap.size w w10 := (bstep hb5 hb20)
 have hb26 := upd_below hb25 hu22 (by omega)
 have hB27 := upd_blk hB13 hu22 (by omega)
 refine WL.nil (WE.next (WC.ret ?_))
 refine WE.retAny (v := .agg #[.slice ((some ⟨g11, 0, none⟩)) 4 4]) (fun za zh => ?_) ?_
 ·have z0 : za.tmps[0]?.getD undef = .pointer (some ⟨g2, 0, none⟩) := by rw [← Array.getD_eq_getD_getElem?]; exact zh.knows 0 _ rfl
  have y0 : w21.cell? ⟨g2, 0, none⟩ = some (.slice ((some ⟨g11, 0, none⟩)) 4 4) := ((hB23.cell 0).trans rfl)
  simp [results, Try.results28, z0, y0, go_sem]
 ·have hO9 : World.ownsRow w21 0 66 3 (.slice (some ⟨g11, 0, none⟩) 4 4) 4 (syCells smallSg) := ⟨rfl, .inr ⟨g11, 4, (syCells smallSg).toArray, rfl, Nat.zero_le _, hB27, Nat.le_refl _, by unfold maxLen; omega, rfl, rfl⟩⟩
  obtain ⟨_, _, _, z⟩ := sys_of_own hO9 smallSg_wf
  exact ⟨_, rfl, ⟨_, 4, rfl, Nat.le_refl _, by unfold maxLen; omega, z⟩, hb26⟩
def wTA : T := .mk 1 []
def wTX : T := .mk (-1) []
def wT1 : T := .mk 2 [wTA, wTX]
def wT2 : T := .mk 2 [wTX, wTA]
def wN1 : List En := [⟨1, []⟩, ⟨-1, []⟩, ⟨2, [0, 1]⟩]
def wN2 : List En := [⟨1, []⟩, ⟨-1, []⟩, ⟨2, [0, 1]⟩, ⟨2, [1, 0]⟩]
theorem newS_any (w : World) (v : Value) (hs : IsSig w smallSg v) : Calls Try.prog 7 #[v] w (Ret fun v' w' => (∃ g : Nat, v' = .tuple #[.pointer (some ⟨g, 0, none⟩), .int .i64 0] ∧ BkSJ w' w.heap.size g smallSg [] (fun _ => False)) ∧ Below w.heap.size w w') := by
 refine Calls.mono (bNew_any smallSg w v (by decide) hs) (fun e w' hr => ?_)
 obtain ⟨v', rfl, h, hb⟩ := hr
 rcases h with ⟨h, _⟩ | ⟨_, g, h1, _, h2⟩
 ·exact absurd smallSg_ok h
 ·exact ⟨v', rfl, ⟨g, h1, _, h2, fun b q => q.1, fun b q => q.elim⟩, hb⟩
theorem newE_any (w : World) : Calls Try.prog 7 #[.agg #[.slice none 0 0]] w (Ret fun v' w' => v' = .tuple #[.pointer none, .int .i64 2] ∧ Below w.heap.size w w') := by
 refine Calls.mono (bNew_any [] w _ (by decide) ⟨none, 0, rfl, Nat.le_refl _, Nat.zero_le _, fun k hk => absurd hk (Nat.not_lt_zero _)⟩) (fun e w' hr => ?_)
 obtain ⟨v', rfl, h, hb⟩ := hr
 rcases h with ⟨_, h⟩ | ⟨h, _⟩
 ·exact ⟨v', rfl, h, hb⟩
 ·exact absurd h (by decide +kernel)
theorem putS1 {w : World} {B g : Nat} {X A : Nat → Prop} {v : Value} (hA : ∀ b, A b → (X b ∨ b < B) ∧ b < w.heap.size) (hin : InT A w wT1 v) (h : BkSJ w B g smallSg [] X) : Calls Try.prog 9 #[.pointer (some ⟨g, 0, none⟩), v] w (Ret fun v' w' => v' = .tuple #[.int .i64 2, .int .i64 0] ∧ PutTo w w' B g smallSg wN1 X) := by
 have z := jPut wT1 v A (by decide) (by decide +kernel) hA hin h
 rw [show bputV smallSg [] wT1 = 2 by decide +kernel, show chkI smallSg wT1 = 0 by decide +kernel, show bputI smallSg [] wT1 = wN1 by decide +kernel] at z
 exact z
theorem putS2 {w : World} {B g : Nat} {X A : Nat → Prop} {v : Value} (hA : ∀ b, A b → (X b ∨ b < B) ∧ b < w.heap.size) (hin : InT A w wTA v) (h : BkSJ w B g smallSg wN1 X) : Calls Try.prog 9 #[.pointer (some ⟨g, 0, none⟩), v] w (Ret fun v' w' => v' = .tuple #[.int .i64 0, .int .i64 0] ∧ PutTo w w' B g smallSg wN1 X) := by
 have z := jPut wTA v A (by decide) (by decide +kernel) hA hin h
 rw [show bputV smallSg wN1 wTA = 0 by decide +kernel, show chkI smallSg wTA = 0 by decide +kernel, show bputI smallSg wN1 wTA = wN1 by decide +kernel] at z
 exact z
theorem putS3 {w : World} {B g : Nat} {X A : Nat → Prop} {v : Value} (hA : ∀ b, A b → (X b ∨ b < B) ∧ b < w.heap.size) (hin : InT A w wT2 v) (h : BkSJ w B g smallSg wN1 X) : Calls Try.prog 9 #[.pointer (some ⟨g, 0, none⟩), v] w (Ret fun v' w' => v' = .tuple #[.int .i64 3, .int .i64 0] ∧ PutTo w w' B g smallSg wN2 X) := by
 have z := jPut wT2 v A (by decide) (by decide +kernel) hA hin h
 rw [show bputV smallSg wN1 wT2 = 3 by decide +kernel, show chkI smallSg wT2 = 0 by decide +kernel, show bputI smallSg wN1 wT2 = wN2 by decide +kernel] at z
 exact z
theorem inA {w : World} {S : Nat → Prop} : InT S w wTA (.agg #[.int .i64 1, .slice none 0 0]) := ⟨by unfold I64; omega, none, 0, rfl, Nat.le_refl _, by decide, trivial⟩
theorem in2 {w : World} {q : Nat} {x y : Int} (hx : I64 x) (hy : I64 y) (hB : Blk w q 35 #[.int .i64 x, .slice none 0 0, .int .i64 y, .slice none 0 0]) : InT (fun b => b = q) w (.mk 2 [.mk x [], .mk y []]) (.agg #[.int .i64 2, .slice (some ⟨q, 0, none⟩) 2 2]) := by
 have leaf : ∀ z : Int, I64 z → InT (fun b => b = q) w (.mk z []) (.agg #[.int .i64 z, .slice none 0 0]) := fun z hz => ⟨hz, none, 0, rfl, Nat.le_refl _, by decide, trivial⟩
 exact ⟨by unfold I64; omega, some ⟨q, 0, none⟩, 2, rfl, Nat.le_refl _, by decide, ⟨q, 0, _, _, rfl, rfl, (hB.cell 0).trans rfl, (hB.cell 1).trans rfl, leaf x hx⟩, ⟨q, 0, _, _, rfl, rfl, (hB.cell 2).trans rfl, (hB.cell 3).trans rfl, leaf y hy⟩, trivial⟩
set_option maxRecDepth 100000 in
theorem wakes_any (w : World) : Calls Try.prog 8 #[] w (Ret fun v' w' => v' = .bool true ∧ Below w.heap.size w w') := by
 refine Calls.walk (l := []) Try.func8 rfl (by kernel_rfl) ?_
 refine WC.sub (K' := []) trivial ?_
 refine WC.seq (WC.region (WL.asg rfl rfl rfl rfl rfl (WL.nil (WE.next (WC.seq (WC.region ?_))))))
 refine WL.call rfl rfl rfl (fun za zh zC => wp_call (by kernel_rfl) rfl (hv0)) (small_any _) ?_
 rintro vsm w1 ⟨hsm, hbsm⟩
 refine WL.call rfl rfl rfl (fun za zh zC => wp_call (by kernel_rfl) rfl (hv1 (zh.ev rfl))) (newS_any _ _ hsm) ?_
 rintro _ w5 ⟨⟨gk2, rfl, hk3⟩, hb4⟩
 have hBw6 : w.heap.size ≤ w1.heap.size := hbsm.size
 refine WL.mv rfl rfl rfl rfl rfl ?_
 refine WL.val (.pointer (some ⟨gk2, 0, none⟩)) rfl rfl rfl (fun za zC zh zk => ext2_0 rfl (zh.ev rfl) zk) ?_
 refine WL.val (.int .i64 0) rfl rfl rfl (fun za zC zh zk => ext2_1 rfl (zh.ev rfl) zk) ?_
 refine WL.asg rfl rfl rfl rfl rfl (WL.asg rfl rfl rfl rfl rfl (WL.nil (WE.next (WC.seq (WC.seq ?_)))))
 refine WC.opt [(true, .val (.int .i64 0)), (true, .val (.bool (((0 : Int) != (0 : Int))))), (true, .val (.bool (((0 : Int) != (0 : Int))))), ((true && !((0 : Int) != (0 : Int))), .val (.pointer (some ⟨gk2, 0, none⟩))), ((true && !((0 : Int) != (0 : Int))), .val (.bool false)), (true, .val (.bool ((((0 : Int) != (0 : Int)) || false))))] [(0, .bool false), (1, .pointer (some ⟨gk2, 0, none⟩)), (2, .int .i64 0)] ⟨rfl, rfl, rfl, trivial⟩ (by kernel_rfl) (by kernel_rfl) (by kernel_rfl) ?_ ?_
 ·refine ⟨⟨true, .none rfl, fun h w => optUndef h, fun zβ za zw zc => ?_⟩, ?_⟩
  ·exact wp_move rfl (zc.kn.ev rfl) ⟨_, rfl, Below.refl _ _, optDef zβ rfl⟩
  refine ⟨⟨true, .none rfl, fun h w => optUndef h, fun zβ za zw zc => ?_⟩, ?_⟩
  ·exact neq_27 rfl ((evt za 17).trans (optVal (zc.dep 0 17 (by kernel_rfl)) rfl rfl)) (zc.kn.ev rfl) ⟨_, rfl, Below.refl _ _, optDef zβ rfl⟩
  refine ⟨⟨true, .none rfl, fun h w => optUndef h, fun zβ za zw zc => ?_⟩, ?_⟩
  ·exact wp_move rfl ((evt za 18).trans (optVal (zc.dep 1 18 (by kernel_rfl)) rfl rfl)) ⟨_, rfl, Below.refl _ _, optDef zβ rfl⟩
  refine ⟨⟨_, .no (c := ((0 : Int) != (0 : Int))) (d := true) rfl (fun v w h => h), fun h w => optUndef h, fun zβ za zw zc => ?_⟩, ?_⟩
  ·exact wp_move rfl (zc.kn.ev rfl) ⟨_, rfl, Below.refl _ _, optDef zβ rfl⟩
  refine ⟨⟨_, .no (c := ((0 : Int) != (0 : Int))) (d := true) rfl (fun v w h => h), fun h w => optUndef h, fun zβ za zw zc => ?_⟩, ?_⟩
  ·exact eqlp_26 rfl ((evt za 20).trans (optVal (zc.dep 3 20 (by kernel_rfl)) rfl zβ)) (zc.kn.ev rfl) ⟨_, rfl, Below.refl _ _, optDef zβ rfl⟩
  refine ⟨⟨true, .none rfl, fun h w => optUndef h, fun zβ za zw zc => ?_⟩, ?_⟩
  ·exact wp_or rfl ((evt za 19).trans (optVal (zc.dep 2 19 (by kernel_rfl)) rfl rfl)) (fun hp => ((evt za 21).trans (optVal (zc.dep 4 21 (by kernel_rfl)) rfl (bMkN zβ hp)))) ⟨_, rfl, Below.refl _ _, optDef zβ rfl⟩
  exact trivial
 ·intro za w7 zh hb8 zu
  have zh := zh.cons (d := 22) (v := .bool ((((0 : Int) != (0 : Int)) || false))) (optVal (zu 5 22 (by kernel_rfl)) rfl rfl)
  clear zu
  refine WE.go zh ?_
  refine WE.next ?_
  refine WC.condF rfl (by simp) ?_
  refine WC.skip (WE.next (WC.seq (WC.region ?_)))
  refine WL.val (.agg #[.int .i64 1, .slice none 0 0]) rfl rfl rfl (fun za zC zh zk => build_35_0 rfl (zh.ev rfl) zk) ?_
  refine WL.val (.agg #[.int .i64 ((-1)), .slice none 0 0]) rfl rfl rfl (fun za zC zh zk => build_35_0 rfl (zh.ev rfl) zk) ?_
  refine WL.step (post := NewBlk w7 35 #[.int .i64 0, .slice none 0 0]) rfl rfl rfl (fun za zC zh zk => alloc_35 rfl (zk _ _ (newBlk _ _ _))) ?_
  rintro _ w9 ⟨g10, rfl, hg11, hB12, hb13, hz14⟩
  have hb15 : Below w.heap.size w w7 := (bstep (bstep hbsm hb4) hb8)
  have hl16 : w.heap.size ≤ g10 := by have z2 := (hb15).size; omega
  have hl17 : w5.heap.size ≤ g10 := by have z2 := (hb8).size; omega
  refine WL.step (post := NewBlk w9 35 #[.int .i64 0, .slice none 0 0]) rfl rfl rfl (fun za zC zh zk => alloc_35 rfl (zk _ _ (newBlk _ _ _))) ?_
  rintro _ w18 ⟨g19, rfl, hg20, hB21, hb22, hz23⟩
  have hl24 : g10 < g19 := by have z1 := hB12.lt; omega
  have hb25 : Below w.heap.size w w9 := (bstep hb15 hb13)
  have hl26 : w.heap.size ≤ g19 := by have z2 := (hb25).size; omega
  have hb27 : Below w5.heap.size w5 w9 := (bstep hb8 hb13)
  have hl28 : w5.heap.size ≤ g19 := by have z2 := (hb27).size; omega
  have hB29 := hB12.below hb22
  refine WL.step (post := fun _ w' => Upd g10 w18 w' ∧ Blk w' g10 35 #[.int .i64 1, .slice none 0 0]) rfl rfl rfl (fun za zC zh zk => st_35 rfl (zh.ev rfl) (zh.ev rfl) rfl rfl hB29 (by first | decide | simp) (fun v => zk v _ ⟨(Upd.at_ _ _ _ _).trans (Upd.at_ _ _ _ _), (hB29.set_ 0 _).set_ 1 _⟩)) ?_
  rintro v33 w30 ⟨hu31, hB32⟩
  have hb34 : Below w.heap.size w w18 := (bstep hb25 hb22)
  have hb35 : Below w5.heap.size w5 w18 := (bstep hb27 hb22)
  have hb36 := upd_below hb34 hu31 (by omega)
  have hb37 := upd_below hb35 hu31 (by omega)
  have hB38 := upd_blk hB21 hu31 (by omega)
  refine WL.step (post := fun _ w' => Upd g19 w30 w' ∧ Blk w' g19 35 #[.int .i64 ((-1)), .slice none 0 0]) rfl rfl rfl (fun za zC zh zk => st_35 rfl (zh.ev rfl) (zh.ev rfl) rfl rfl hB38 (by first | decide | simp) (fun v => zk v _ ⟨(Upd.at_ _ _ _ _).trans (Upd.at_ _ _ _ _), (hB38.set_ 0 _).set_ 1 _⟩)) ?_
  rintro v42 w39 ⟨hu40, hB41⟩
  have hb43 := upd_below hb36 hu40 (by omega)
  have hb44 := upd_below hb37 hu40 (by omega)
  have hB45 := upd_blk hB32 hu40 (by omega)
  refine WL.nil (WE.next (WC.seq (WC.region (WL.mv rfl rfl rfl rfl rfl ?_))))
  refine WL.val _ rfl rfl rfl (fun za zC zh zk => ld_35 rfl (zh.ev rfl) ((hB45.cell 0).trans rfl) ((hB45.cell 1).trans rfl) zk) ?_
  refine WL.val _ rfl rfl rfl (fun za zC zh zk => ld_35 rfl (zh.ev rfl) ((hB41.cell 0).trans rfl) ((hB41.cell 1).trans rfl) zk) ?_
  refine WL.step (post := NewRow w39 35 #[.int .i64 1, .slice none 0 0, .int .i64 ((-1)), .slice none 0 0] 2) rfl rfl rfl (fun za zC zh zk => row_25_2 rfl (zh.ev rfl) (zh.ev rfl) (zk _ _ (newRow _ _ _ _))) ?_
  rintro _ w46 ⟨g47, rfl, hg48, hB49, hb50, hz51⟩
  have hl52 : g10 < g47 := by have z1 := hB45.lt; omega
  have hl53 : g19 < g47 := by have z1 := hB41.lt; omega
  have hl54 : w.heap.size ≤ g47 := by have z2 := (hb43).size; omega
  have hl55 : w5.heap.size ≤ g47 := by have z2 := (hb44).size; omega
  refine WL.val (.agg #[.int .i64 2, .slice ((some ⟨g47, 0, none⟩)) 2 2]) rfl rfl rfl (fun za zC zh zk => build_35_0_1 rfl (zh.ev rfl) (zh.ev rfl) zk) ?_
  have hB57 := hB45.below hb50
  have hB58 := hB41.below hb50
  have hk56 : BkSJ w5 w1.heap.size gk2 smallSg [] (fun b => b = g10 ∨ b = g19 ∨ b = g47) := BkSJ.avoid hk3 (fun b q => by
   rcases q with rfl | rfl | rfl <;> first | (right; left; omega) | (left; refine ⟨.inl ?_, by omega⟩; simp))
  have hb59 : Below w5.heap.size w5 w46 := (bstep hb44 hb50)
  have hb64 : Below w.heap.size w w46 := (bstep hb43 hb50)
  have hl65 := hB57.lt
  have hl66 := hB58.lt
  have hl67 := hB49.lt
  refine WL.call rfl rfl rfl (fun za zh zC => wp_call (by kernel_rfl) rfl (hv2 (zh.ev rfl) (zh.ev rfl))) (putS1 (A := fun b => b = g47) (fun b e => ⟨.inl (by rw [show b = g47 from e]; simp), by rw [show b = g47 from e]; exact hB49.lt⟩) (in2 (by unfold I64; omega) (by unfold I64; omega) hB49) (BkSJ.below hk56 hb59)) ?_
  rintro _ w68 ⟨rfl, Y60, hY61, hc62, hk63⟩
  have hb69 := chg_below hb64 hc62 (fun b q => hY61 b (.inr (by omega)) (by have z := (hb64).size; omega))
  have hB70 := chg_blk hB57 hc62 (hY61 _ (.inl (by simp)) hl65)
  have hB71 := chg_blk hB58 hc62 (hY61 _ (.inl (by simp)) hl66)
  have hB72 := chg_blk hB49 hc62 (hY61 _ (.inl (by simp)) hl67)
  refine WL.mv rfl rfl rfl rfl rfl ?_
  refine WL.val (.int .i64 2) rfl rfl rfl (fun za zC zh zk => ext2_0 rfl (zh.ev rfl) zk) ?_
  refine WL.val (.int .i64 0) rfl rfl rfl (fun za zC zh zk => ext2_1 rfl (zh.ev rfl) zk) ?_
  refine WL.asg rfl rfl rfl rfl rfl (WL.asg rfl rfl rfl rfl rfl ?_)
  refine WL.nil (WE.sub (K' := [(0, .bool false), (1, .pointer (some ⟨gk2, 0, none⟩)), (2, .int .i64 0), (3, .pointer (some ⟨g10, 0, none⟩)), (4, .pointer (some ⟨g19, 0, none⟩)), (5, .int .i64 2), (22, .bool ((((0 : Int) != (0 : Int)) || false)))]) ⟨rfl, rfl, rfl, rfl, rfl, rfl, rfl, trivial⟩ ?_)
  refine WE.next (WC.seq (WC.region (WL.mv rfl rfl rfl rfl rfl ?_)))
  refine WL.val _ rfl rfl rfl (fun za zC zh zk => ld_35 rfl (zh.ev rfl) ((hB70.cell 0).trans rfl) ((hB70.cell 1).trans rfl) zk) ?_
  have hk73 : BkSJ w68 w1.heap.size gk2 smallSg wN1 (fun b => b = g10 ∨ b = g19) := BkSJ.avoid hk63 (fun b q => by
   rcases q with rfl | rfl <;> first | (right; left; omega) | (left; refine ⟨.inl ?_, by omega⟩; simp))
  have hl78 := hB70.lt
  have hl79 := hB71.lt
  refine WL.call rfl rfl rfl (fun za zh zC => wp_call (by kernel_rfl) rfl (hv2 (zh.ev rfl) (zh.ev rfl))) (putS2 (A := fun _ => False) (fun b q => q.elim) inA hk73) ?_
  rintro _ w80 ⟨rfl, Y74, hY75, hc76, hk77⟩
  have hb81 := chg_below hb69 hc76 (fun b q => hY75 b (.inr (by omega)) (by have z := (hb69).size; omega))
  have hB82 := chg_blk hB70 hc76 (hY75 _ (.inl (by simp)) hl78)
  have hB83 := chg_blk hB71 hc76 (hY75 _ (.inl (by simp)) hl79)
  refine WL.mv rfl rfl rfl rfl rfl ?_
  refine WL.val (.int .i64 0) rfl rfl rfl (fun za zC zh zk => ext2_0 rfl (zh.ev rfl) zk) ?_
  refine WL.val (.int .i64 0) rfl rfl rfl (fun za zC zh zk => ext2_1 rfl (zh.ev rfl) zk) ?_
  refine WL.asg rfl rfl rfl rfl rfl (WL.asg rfl rfl rfl rfl rfl (WL.nil (WE.next (WC.seq (WC.region (WL.mv rfl rfl rfl rfl rfl ?_))))))
  refine WL.val _ rfl rfl rfl (fun za zC zh zk => ld_35 rfl (zh.ev rfl) ((hB83.cell 0).trans rfl) ((hB83.cell 1).trans rfl) zk) ?_
  refine WL.val _ rfl rfl rfl (fun za zC zh zk => ld_35 rfl (zh.ev rfl) ((hB82.cell 0).trans rfl) ((hB82.cell 1).trans rfl) zk) ?_
  refine WL.step (post := NewRow w80 35 #[.int .i64 ((-1)), .slice none 0 0, .int .i64 1, .slice none 0 0] 2) rfl rfl rfl (fun za zC zh zk => row_25_2 rfl (zh.ev rfl) (zh.ev rfl) (zk _ _ (newRow _ _ _ _))) ?_
  rintro _ w84 ⟨g85, rfl, hg86, hB87, hb88, hz89⟩
  have hl90 : g10 < g85 := by have z1 := hB82.lt; omega
  have hl91 : g19 < g85 := by have z1 := hB83.lt; omega
  have hl92 : w.heap.size ≤ g85 := by have z2 := (hb81).size; omega
  have hl93 : w80.heap.size ≤ g85 := by omega
  refine WL.val (.agg #[.int .i64 2, .slice ((some ⟨g85, 0, none⟩)) 2 2]) rfl rfl rfl (fun za zC zh zk => build_35_0_1 rfl (zh.ev rfl) (zh.ev rfl) zk) ?_
  have hB95 := hB82.below hb88
  have hB96 := hB83.below hb88
  have hk94 : BkSJ w80 w1.heap.size gk2 smallSg wN1 (fun b => b = g10 ∨ b = g19 ∨ b = g85) := BkSJ.avoid hk77 (fun b q => by
   rcases q with rfl | rfl | rfl <;> first | (right; left; omega) | (left; refine ⟨.inl ?_, by omega⟩; simp))
  have hb101 : Below w.heap.size w w84 := (bstep hb81 hb88)
  have hl102 := hB95.lt
  have hl103 := hB96.lt
  have hl104 := hB87.lt
  refine WL.call rfl rfl rfl (fun za zh zC => wp_call (by kernel_rfl) rfl (hv2 (zh.ev rfl) (zh.ev rfl))) (putS3 (A := fun b => b = g85) (fun b e => ⟨.inl (by rw [show b = g85 from e]; simp), by rw [show b = g85 from e]; exact hB87.lt⟩) (in2 (by unfold I64; omega) (by unfold I64; omega) hB87) (BkSJ.below hk94 hb88)) ?_
  rintro _ w105 ⟨rfl, Y97, hY98, hc99, hk100⟩
  have hb106 := chg_below hb101 hc99 (fun b q => hY98 b (.inr (by omega)) (by have z := (hb101).size; omega))
  have hB107 := chg_blk hB95 hc99 (hY98 _ (.inl (by simp)) hl102)
  have hB108 := chg_blk hB96 hc99 (hY98 _ (.inl (by simp)) hl103)
  have hB109 := chg_blk hB87 hc99 (hY98 _ (.inl (by simp)) hl104)
  refine WL.mv rfl rfl rfl rfl rfl ?_
  refine WL.val (.int .i64 3) rfl rfl rfl (fun za zC zh zk => ext2_0 rfl (zh.ev rfl) zk) ?_
  refine WL.val (.int .i64 0) rfl rfl rfl (fun za zC zh zk => ext2_1 rfl (zh.ev rfl) zk) ?_
  refine WL.asg rfl rfl rfl rfl rfl (WL.asg rfl rfl rfl rfl rfl (WL.nil (WE.next (WC.seq (WC.region ?_)))))
  refine WL.val (.agg #[.slice none 0 0]) rfl rfl rfl (fun za zC zh zk => build_24_ rfl  zk) ?_
  refine WL.call rfl rfl rfl (fun za zh zC => wp_call (by kernel_rfl) rfl (hv1 (zh.ev rfl))) (newE_any _) ?_
  rintro _ w111 ⟨rfl, hq110⟩
  refine WL.mv rfl rfl rfl rfl rfl ?_
  refine WL.val (.pointer none) rfl rfl rfl (fun za zC zh zk => ext2_0 rfl (zh.ev rfl) zk) ?_
  refine WL.val (.int .i64 2) rfl rfl rfl (fun za zC zh zk => ext2_1 rfl (zh.ev rfl) zk) ?_
  refine WL.asg rfl rfl rfl rfl rfl (WL.asg rfl rfl rfl rfl rfl ?_)
  refine WL.nil (WE.sub (K' := [(0, .bool false), (1, .pointer (some ⟨gk2, 0, none⟩)), (2, .int .i64 0), (3, .pointer (some ⟨g10, 0, none⟩)), (4, .pointer (some ⟨g19, 0, none⟩)), (5, .int .i64 2), (6, .int .i64 0), (7, .int .i64 0), (8, .int .i64 3), (9, .int .i64 0), (11, .int .i64 2), (22, .bool ((((0 : Int) != (0 : Int)) || false)))]) ⟨rfl, rfl, rfl, rfl, rfl, rfl, rfl, rfl, rfl, rfl, rfl, rfl, trivial⟩ ?_)
  refine WE.next (WC.seq ?_)
  refine WC.opt [(true, .val (.int .i64 0)), (true, .val (.bool (((0 : Int) == (0 : Int))))), (true, .val (.bool (((0 : Int) == (0 : Int))))), ((true && ((0 : Int) == (0 : Int))), .val (.int .i64 2)), ((true && ((0 : Int) == (0 : Int))), .val (.bool (((2 : Int) == (2 : Int))))), (true, .val (.bool ((((0 : Int) == (0 : Int)) && ((2 : Int) == (2 : Int)))))), (true, .val (.bool ((((0 : Int) == (0 : Int)) && ((2 : Int) == (2 : Int)))))), ((true && (((0 : Int) == (0 : Int)) && ((2 : Int) == (2 : Int)))), .val (.int .i64 0)), ((true && (((0 : Int) == (0 : Int)) && ((2 : Int) == (2 : Int)))), .val (.bool (((0 : Int) == (0 : Int))))), (true, .val (.bool (((((0 : Int) == (0 : Int)) && ((2 : Int) == (2 : Int))) && ((0 : Int) == (0 : Int)))))), (true, .val (.bool (((((0 : Int) == (0 : Int)) && ((2 : Int) == (2 : Int))) && ((0 : Int) == (0 : Int)))))), ((true && ((((0 : Int) == (0 : Int)) && ((2 : Int) == (2 : Int))) && ((0 : Int) == (0 : Int)))), .val (.int .i64 0)), ((true && ((((0 : Int) == (0 : Int)) && ((2 : Int) == (2 : Int))) && ((0 : Int) == (0 : Int)))), .val (.bool (((0 : Int) == (0 : Int))))), (true, .val (.bool ((((((0 : Int) == (0 : Int)) && ((2 : Int) == (2 : Int))) && ((0 : Int) == (0 : Int))) && ((0 : Int) == (0 : Int)))))), (true, .val (.bool ((((((0 : Int) == (0 : Int)) && ((2 : Int) == (2 : Int))) && ((0 : Int) == (0 : Int))) && ((0 : Int) == (0 : Int)))))), ((true && (((((0 : Int) == (0 : Int)) && ((2 : Int) == (2 : Int))) && ((0 : Int) == (0 : Int))) && ((0 : Int) == (0 : Int)))), .val (.int .i64 0)), ((true && (((((0 : Int) == (0 : Int)) && ((2 : Int) == (2 : Int))) && ((0 : Int) == (0 : Int))) && ((0 : Int) == (0 : Int)))), .val (.bool (((0 : Int) == (0 : Int))))), (true, .val (.bool (((((((0 : Int) == (0 : Int)) && ((2 : Int) == (2 : Int))) && ((0 : Int) == (0 : Int))) && ((0 : Int) == (0 : Int))) && ((0 : Int) == (0 : Int)))))), (true, .val (.bool (((((((0 : Int) == (0 : Int)) && ((2 : Int) == (2 : Int))) && ((0 : Int) == (0 : Int))) && ((0 : Int) == (0 : Int))) && ((0 : Int) == (0 : Int)))))), ((true && ((((((0 : Int) == (0 : Int)) && ((2 : Int) == (2 : Int))) && ((0 : Int) == (0 : Int))) && ((0 : Int) == (0 : Int))) && ((0 : Int) == (0 : Int)))), .val (.int .i64 3)), ((true && ((((((0 : Int) == (0 : Int)) && ((2 : Int) == (2 : Int))) && ((0 : Int) == (0 : Int))) && ((0 : Int) == (0 : Int))) && ((0 : Int) == (0 : Int)))), .val (.bool (((3 : Int) == (3 : Int))))), (true, .val (.bool ((((((((0 : Int) == (0 : Int)) && ((2 : Int) == (2 : Int))) && ((0 : Int) == (0 : Int))) && ((0 : Int) == (0 : Int))) && ((0 : Int) == (0 : Int))) && ((3 : Int) == (3 : Int)))))), (true, .val (.bool ((((((((0 : Int) == (0 : Int)) && ((2 : Int) == (2 : Int))) && ((0 : Int) == (0 : Int))) && ((0 : Int) == (0 : Int))) && ((0 : Int) == (0 : Int))) && ((3 : Int) == (3 : Int)))))), ((true && (((((((0 : Int) == (0 : Int)) && ((2 : Int) == (2 : Int))) && ((0 : Int) == (0 : Int))) && ((0 : Int) == (0 : Int))) && ((0 : Int) == (0 : Int))) && ((3 : Int) == (3 : Int)))), .val (.pointer (some ⟨gk2, 0, none⟩))), ((true && (((((((0 : Int) == (0 : Int)) && ((2 : Int) == (2 : Int))) && ((0 : Int) == (0 : Int))) && ((0 : Int) == (0 : Int))) && ((0 : Int) == (0 : Int))) && ((3 : Int) == (3 : Int)))), .val (.int .i64 4)), ((true && (((((((0 : Int) == (0 : Int)) && ((2 : Int) == (2 : Int))) && ((0 : Int) == (0 : Int))) && ((0 : Int) == (0 : Int))) && ((0 : Int) == (0 : Int))) && ((3 : Int) == (3 : Int)))), .val (.bool (((4 : Int) == (4 : Int))))), (true, .val (.bool (((((((((0 : Int) == (0 : Int)) && ((2 : Int) == (2 : Int))) && ((0 : Int) == (0 : Int))) && ((0 : Int) == (0 : Int))) && ((0 : Int) == (0 : Int))) && ((3 : Int) == (3 : Int))) && ((4 : Int) == (4 : Int)))))), (true, .val (.bool (((((((((0 : Int) == (0 : Int)) && ((2 : Int) == (2 : Int))) && ((0 : Int) == (0 : Int))) && ((0 : Int) == (0 : Int))) && ((0 : Int) == (0 : Int))) && ((3 : Int) == (3 : Int))) && ((4 : Int) == (4 : Int)))))), ((true && ((((((((0 : Int) == (0 : Int)) && ((2 : Int) == (2 : Int))) && ((0 : Int) == (0 : Int))) && ((0 : Int) == (0 : Int))) && ((0 : Int) == (0 : Int))) && ((3 : Int) == (3 : Int))) && ((4 : Int) == (4 : Int)))), .val (.pointer (some ⟨gk2, 0, none⟩))), ((true && ((((((((0 : Int) == (0 : Int)) && ((2 : Int) == (2 : Int))) && ((0 : Int) == (0 : Int))) && ((0 : Int) == (0 : Int))) && ((0 : Int) == (0 : Int))) && ((3 : Int) == (3 : Int))) && ((4 : Int) == (4 : Int)))), .val (.int .i64 3)), ((true && ((((((((0 : Int) == (0 : Int)) && ((2 : Int) == (2 : Int))) && ((0 : Int) == (0 : Int))) && ((0 : Int) == (0 : Int))) && ((0 : Int) == (0 : Int))) && ((3 : Int) == (3 : Int))) && ((4 : Int) == (4 : Int)))), .val (.bool (((3 : Int) == (3 : Int))))), (true, .val (.bool ((((((((((0 : Int) == (0 : Int)) && ((2 : Int) == (2 : Int))) && ((0 : Int) == (0 : Int))) && ((0 : Int) == (0 : Int))) && ((0 : Int) == (0 : Int))) && ((3 : Int) == (3 : Int))) && ((4 : Int) == (4 : Int))) && ((3 : Int) == (3 : Int)))))), (true, .val (.bool ((((((((((0 : Int) == (0 : Int)) && ((2 : Int) == (2 : Int))) && ((0 : Int) == (0 : Int))) && ((0 : Int) == (0 : Int))) && ((0 : Int) == (0 : Int))) && ((3 : Int) == (3 : Int))) && ((4 : Int) == (4 : Int))) && ((3 : Int) == (3 : Int)))))), ((true && (((((((((0 : Int) == (0 : Int)) && ((2 : Int) == (2 : Int))) && ((0 : Int) == (0 : Int))) && ((0 : Int) == (0 : Int))) && ((0 : Int) == (0 : Int))) && ((3 : Int) == (3 : Int))) && ((4 : Int) == (4 : Int))) && ((3 : Int) == (3 : Int)))), .val (.pointer (some ⟨gk2, 0, none⟩))), ((true && (((((((((0 : Int) == (0 : Int)) && ((2 : Int) == (2 : Int))) && ((0 : Int) == (0 : Int))) && ((0 : Int) == (0 : Int))) && ((0 : Int) == (0 : Int))) && ((3 : Int) == (3 : Int))) && ((4 : Int) == (4 : Int))) && ((3 : Int) == (3 : Int)))), .val (.bool true)), (true, .val (.bool (((((((((((0 : Int) == (0 : Int)) && ((2 : Int) == (2 : Int))) && ((0 : Int) == (0 : Int))) && ((0 : Int) == (0 : Int))) && ((0 : Int) == (0 : Int))) && ((3 : Int) == (3 : Int))) && ((4 : Int) == (4 : Int))) && ((3 : Int) == (3 : Int))) && true)))), (true, .val (.bool (((((((((((0 : Int) == (0 : Int)) && ((2 : Int) == (2 : Int))) && ((0 : Int) == (0 : Int))) && ((0 : Int) == (0 : Int))) && ((0 : Int) == (0 : Int))) && ((3 : Int) == (3 : Int))) && ((4 : Int) == (4 : Int))) && ((3 : Int) == (3 : Int))) && true)))), ((true && ((((((((((0 : Int) == (0 : Int)) && ((2 : Int) == (2 : Int))) && ((0 : Int) == (0 : Int))) && ((0 : Int) == (0 : Int))) && ((0 : Int) == (0 : Int))) && ((3 : Int) == (3 : Int))) && ((4 : Int) == (4 : Int))) && ((3 : Int) == (3 : Int))) && true)), .val (.pointer (some ⟨gk2, 0, none⟩))), ((true && ((((((((((0 : Int) == (0 : Int)) && ((2 : Int) == (2 : Int))) && ((0 : Int) == (0 : Int))) && ((0 : Int) == (0 : Int))) && ((0 : Int) == (0 : Int))) && ((3 : Int) == (3 : Int))) && ((4 : Int) == (4 : Int))) && ((3 : Int) == (3 : Int))) && true)), .val (.bool false)), ((true && ((((((((((0 : Int) == (0 : Int)) && ((2 : Int) == (2 : Int))) && ((0 : Int) == (0 : Int))) && ((0 : Int) == (0 : Int))) && ((0 : Int) == (0 : Int))) && ((3 : Int) == (3 : Int))) && ((4 : Int) == (4 : Int))) && ((3 : Int) == (3 : Int))) && true)), .val (.bool ((!false)))), (true, .val (.bool ((((((((((((0 : Int) == (0 : Int)) && ((2 : Int) == (2 : Int))) && ((0 : Int) == (0 : Int))) && ((0 : Int) == (0 : Int))) && ((0 : Int) == (0 : Int))) && ((3 : Int) == (3 : Int))) && ((4 : Int) == (4 : Int))) && ((3 : Int) == (3 : Int))) && true) && (!false))))), (true, .val (.bool ((((((((((((0 : Int) == (0 : Int)) && ((2 : Int) == (2 : Int))) && ((0 : Int) == (0 : Int))) && ((0 : Int) == (0 : Int))) && ((0 : Int) == (0 : Int))) && ((3 : Int) == (3 : Int))) && ((4 : Int) == (4 : Int))) && ((3 : Int) == (3 : Int))) && true) && (!false))))), ((true && (((((((((((0 : Int) == (0 : Int)) && ((2 : Int) == (2 : Int))) && ((0 : Int) == (0 : Int))) && ((0 : Int) == (0 : Int))) && ((0 : Int) == (0 : Int))) && ((3 : Int) == (3 : Int))) && ((4 : Int) == (4 : Int))) && ((3 : Int) == (3 : Int))) && true) && (!false))), .val (.int .i64 2)), ((true && (((((((((((0 : Int) == (0 : Int)) && ((2 : Int) == (2 : Int))) && ((0 : Int) == (0 : Int))) && ((0 : Int) == (0 : Int))) && ((0 : Int) == (0 : Int))) && ((3 : Int) == (3 : Int))) && ((4 : Int) == (4 : Int))) && ((3 : Int) == (3 : Int))) && true) && (!false))), .val (.bool (((2 : Int) == (2 : Int))))), (true, .val (.bool (((((((((((((0 : Int) == (0 : Int)) && ((2 : Int) == (2 : Int))) && ((0 : Int) == (0 : Int))) && ((0 : Int) == (0 : Int))) && ((0 : Int) == (0 : Int))) && ((3 : Int) == (3 : Int))) && ((4 : Int) == (4 : Int))) && ((3 : Int) == (3 : Int))) && true) && (!false)) && ((2 : Int) == (2 : Int)))))), (true, .val (.bool (((((((((((((0 : Int) == (0 : Int)) && ((2 : Int) == (2 : Int))) && ((0 : Int) == (0 : Int))) && ((0 : Int) == (0 : Int))) && ((0 : Int) == (0 : Int))) && ((3 : Int) == (3 : Int))) && ((4 : Int) == (4 : Int))) && ((3 : Int) == (3 : Int))) && true) && (!false)) && ((2 : Int) == (2 : Int))))))] [(1, .pointer (some ⟨gk2, 0, none⟩)), (2, .int .i64 0), (3, .pointer (some ⟨g10, 0, none⟩)), (4, .pointer (some ⟨g19, 0, none⟩)), (5, .int .i64 2), (6, .int .i64 0), (7, .int .i64 0), (8, .int .i64 3), (9, .int .i64 0), (11, .int .i64 2), (22, .bool ((((0 : Int) != (0 : Int)) || false)))] ⟨rfl, rfl, rfl, rfl, rfl, rfl, rfl, rfl, rfl, rfl, rfl, trivial⟩ (by kernel_rfl) (by kernel_rfl) (by kernel_rfl) ?_ ?_
  ·refine ⟨⟨true, .none rfl, fun h w => optUndef h, fun zβ za zw zc => ?_⟩, ?_⟩
   ·exact wp_move rfl (zc.kn.ev rfl) ⟨_, rfl, Below.refl _ _, optDef zβ rfl⟩
   refine ⟨⟨true, .none rfl, fun h w => optUndef h, fun zβ za zw zc => ?_⟩, ?_⟩
   ·exact eql_27 rfl ((evt za 54).trans (optVal (zc.dep 0 54 (by kernel_rfl)) rfl rfl)) (zc.kn.ev rfl) ⟨_, rfl, Below.refl _ _, optDef zβ rfl⟩
   refine ⟨⟨true, .none rfl, fun h w => optUndef h, fun zβ za zw zc => ?_⟩, ?_⟩
   ·exact wp_move rfl ((evt za 55).trans (optVal (zc.dep 1 55 (by kernel_rfl)) rfl rfl)) ⟨_, rfl, Below.refl _ _, optDef zβ rfl⟩
   refine ⟨⟨_, .yes (c := ((0 : Int) == (0 : Int))) (d := true) rfl (fun v w h => h), fun h w => optUndef h, fun zβ za zw zc => ?_⟩, ?_⟩
   ·exact wp_move rfl (zc.kn.ev rfl) ⟨_, rfl, Below.refl _ _, optDef zβ rfl⟩
   refine ⟨⟨_, .yes (c := ((0 : Int) == (0 : Int))) (d := true) rfl (fun v w h => h), fun h w => optUndef h, fun zβ za zw zc => ?_⟩, ?_⟩
   ·exact eql_3 rfl ((evt za 57).trans (optVal (zc.dep 3 57 (by kernel_rfl)) rfl zβ)) (zc.kn.ev rfl) ⟨_, rfl, Below.refl _ _, optDef zβ rfl⟩
   refine ⟨⟨true, .none rfl, fun h w => optUndef h, fun zβ za zw zc => ?_⟩, ?_⟩
   ·exact wp_and rfl ((evt za 56).trans (optVal (zc.dep 2 56 (by kernel_rfl)) rfl rfl)) (fun hp => ((evt za 58).trans (optVal (zc.dep 4 58 (by kernel_rfl)) rfl (bMk zβ hp)))) ⟨_, rfl, Below.refl _ _, optDef zβ rfl⟩
   refine ⟨⟨true, .none rfl, fun h w => optUndef h, fun zβ za zw zc => ?_⟩, ?_⟩
   ·exact wp_move rfl ((evt za 59).trans (optVal (zc.dep 5 59 (by kernel_rfl)) rfl rfl)) ⟨_, rfl, Below.refl _ _, optDef zβ rfl⟩
   refine ⟨⟨_, .yes (c := (((0 : Int) == (0 : Int)) && ((2 : Int) == (2 : Int)))) (d := true) rfl (fun v w h => h), fun h w => optUndef h, fun zβ za zw zc => ?_⟩, ?_⟩
   ·exact wp_move rfl (zc.kn.ev rfl) ⟨_, rfl, Below.refl _ _, optDef zβ rfl⟩
   refine ⟨⟨_, .yes (c := (((0 : Int) == (0 : Int)) && ((2 : Int) == (2 : Int)))) (d := true) rfl (fun v w h => h), fun h w => optUndef h, fun zβ za zw zc => ?_⟩, ?_⟩
   ·exact eql_27 rfl ((evt za 61).trans (optVal (zc.dep 7 61 (by kernel_rfl)) rfl zβ)) (zc.kn.ev rfl) ⟨_, rfl, Below.refl _ _, optDef zβ rfl⟩
   refine ⟨⟨true, .none rfl, fun h w => optUndef h, fun zβ za zw zc => ?_⟩, ?_⟩
   ·exact wp_and rfl ((evt za 60).trans (optVal (zc.dep 6 60 (by kernel_rfl)) rfl rfl)) (fun hp => ((evt za 62).trans (optVal (zc.dep 8 62 (by kernel_rfl)) rfl (bMk zβ hp)))) ⟨_, rfl, Below.refl _ _, optDef zβ rfl⟩
   refine ⟨⟨true, .none rfl, fun h w => optUndef h, fun zβ za zw zc => ?_⟩, ?_⟩
   ·exact wp_move rfl ((evt za 63).trans (optVal (zc.dep 9 63 (by kernel_rfl)) rfl rfl)) ⟨_, rfl, Below.refl _ _, optDef zβ rfl⟩
   refine ⟨⟨_, .yes (c := ((((0 : Int) == (0 : Int)) && ((2 : Int) == (2 : Int))) && ((0 : Int) == (0 : Int)))) (d := true) rfl (fun v w h => h), fun h w => optUndef h, fun zβ za zw zc => ?_⟩, ?_⟩
   ·exact wp_move rfl (zc.kn.ev rfl) ⟨_, rfl, Below.refl _ _, optDef zβ rfl⟩
   refine ⟨⟨_, .yes (c := ((((0 : Int) == (0 : Int)) && ((2 : Int) == (2 : Int))) && ((0 : Int) == (0 : Int)))) (d := true) rfl (fun v w h => h), fun h w => optUndef h, fun zβ za zw zc => ?_⟩, ?_⟩
   ·exact eql_3 rfl ((evt za 65).trans (optVal (zc.dep 11 65 (by kernel_rfl)) rfl zβ)) (zc.kn.ev rfl) ⟨_, rfl, Below.refl _ _, optDef zβ rfl⟩
   refine ⟨⟨true, .none rfl, fun h w => optUndef h, fun zβ za zw zc => ?_⟩, ?_⟩
   ·exact wp_and rfl ((evt za 64).trans (optVal (zc.dep 10 64 (by kernel_rfl)) rfl rfl)) (fun hp => ((evt za 66).trans (optVal (zc.dep 12 66 (by kernel_rfl)) rfl (bMk zβ hp)))) ⟨_, rfl, Below.refl _ _, optDef zβ rfl⟩
   refine ⟨⟨true, .none rfl, fun h w => optUndef h, fun zβ za zw zc => ?_⟩, ?_⟩
   ·exact wp_move rfl ((evt za 67).trans (optVal (zc.dep 13 67 (by kernel_rfl)) rfl rfl)) ⟨_, rfl, Below.refl _ _, optDef zβ rfl⟩
   refine ⟨⟨_, .yes (c := (((((0 : Int) == (0 : Int)) && ((2 : Int) == (2 : Int))) && ((0 : Int) == (0 : Int))) && ((0 : Int) == (0 : Int)))) (d := true) rfl (fun v w h => h), fun h w => optUndef h, fun zβ za zw zc => ?_⟩, ?_⟩
   ·exact wp_move rfl (zc.kn.ev rfl) ⟨_, rfl, Below.refl _ _, optDef zβ rfl⟩
   refine ⟨⟨_, .yes (c := (((((0 : Int) == (0 : Int)) && ((2 : Int) == (2 : Int))) && ((0 : Int) == (0 : Int))) && ((0 : Int) == (0 : Int)))) (d := true) rfl (fun v w h => h), fun h w => optUndef h, fun zβ za zw zc => ?_⟩, ?_⟩
   ·exact eql_27 rfl ((evt za 69).trans (optVal (zc.dep 15 69 (by kernel_rfl)) rfl zβ)) (zc.kn.ev rfl) ⟨_, rfl, Below.refl _ _, optDef zβ rfl⟩
   refine ⟨⟨true, .none rfl, fun h w => optUndef h, fun zβ za zw zc => ?_⟩, ?_⟩
   ·exact wp_and rfl ((evt za 68).trans (optVal (zc.dep 14 68 (by kernel_rfl)) rfl rfl)) (fun hp => ((evt za 70).trans (optVal (zc.dep 16 70 (by kernel_rfl)) rfl (bMk zβ hp)))) ⟨_, rfl, Below.refl _ _, optDef zβ rfl⟩
   refine ⟨⟨true, .none rfl, fun h w => optUndef h, fun zβ za zw zc => ?_⟩, ?_⟩
   ·exact wp_move rfl ((evt za 71).trans (optVal (zc.dep 17 71 (by kernel_rfl)) rfl rfl)) ⟨_, rfl, Below.refl _ _, optDef zβ rfl⟩
   refine ⟨⟨_, .yes (c := ((((((0 : Int) == (0 : Int)) && ((2 : Int) == (2 : Int))) && ((0 : Int) == (0 : Int))) && ((0 : Int) == (0 : Int))) && ((0 : Int) == (0 : Int)))) (d := true) rfl (fun v w h => h), fun h w => optUndef h, fun zβ za zw zc => ?_⟩, ?_⟩
   ·exact wp_move rfl (zc.kn.ev rfl) ⟨_, rfl, Below.refl _ _, optDef zβ rfl⟩
   refine ⟨⟨_, .yes (c := ((((((0 : Int) == (0 : Int)) && ((2 : Int) == (2 : Int))) && ((0 : Int) == (0 : Int))) && ((0 : Int) == (0 : Int))) && ((0 : Int) == (0 : Int)))) (d := true) rfl (fun v w h => h), fun h w => optUndef h, fun zβ za zw zc => ?_⟩, ?_⟩
   ·exact eql_3 rfl ((evt za 73).trans (optVal (zc.dep 19 73 (by kernel_rfl)) rfl zβ)) (zc.kn.ev rfl) ⟨_, rfl, Below.refl _ _, optDef zβ rfl⟩
   refine ⟨⟨true, .none rfl, fun h w => optUndef h, fun zβ za zw zc => ?_⟩, ?_⟩
   ·exact wp_and rfl ((evt za 72).trans (optVal (zc.dep 18 72 (by kernel_rfl)) rfl rfl)) (fun hp => ((evt za 74).trans (optVal (zc.dep 20 74 (by kernel_rfl)) rfl (bMk zβ hp)))) ⟨_, rfl, Below.refl _ _, optDef zβ rfl⟩
   refine ⟨⟨true, .none rfl, fun h w => optUndef h, fun zβ za zw zc => ?_⟩, ?_⟩
   ·exact wp_move rfl ((evt za 75).trans (optVal (zc.dep 21 75 (by kernel_rfl)) rfl rfl)) ⟨_, rfl, Below.refl _ _, optDef zβ rfl⟩
   refine ⟨⟨_, .yes (c := (((((((0 : Int) == (0 : Int)) && ((2 : Int) == (2 : Int))) && ((0 : Int) == (0 : Int))) && ((0 : Int) == (0 : Int))) && ((0 : Int) == (0 : Int))) && ((3 : Int) == (3 : Int)))) (d := true) rfl (fun v w h => h), fun h w => optUndef h, fun zβ za zw zc => ?_⟩, ?_⟩
   ·exact wp_move rfl (zc.kn.ev rfl) ⟨_, rfl, Below.refl _ _, optDef zβ rfl⟩
   refine ⟨⟨_, .yes (c := (((((((0 : Int) == (0 : Int)) && ((2 : Int) == (2 : Int))) && ((0 : Int) == (0 : Int))) && ((0 : Int) == (0 : Int))) && ((0 : Int) == (0 : Int))) && ((3 : Int) == (3 : Int)))) (d := true) rfl (fun v w h => h), fun h w => optUndef h, fun zβ za zw zc => ?_⟩, ?_⟩
   ·exact wp_call (by kernel_rfl) rfl (hv1 ((evt za 77).trans (optVal (zc.dep 23 77 (by kernel_rfl)) rfl zβ))) (jLen (BkSJ.below hk100 (bstep hq110 zc.below))) (fun v w' h => ⟨v, rfl, h.2, optDef zβ h.1⟩)
   refine ⟨⟨_, .yes (c := (((((((0 : Int) == (0 : Int)) && ((2 : Int) == (2 : Int))) && ((0 : Int) == (0 : Int))) && ((0 : Int) == (0 : Int))) && ((0 : Int) == (0 : Int))) && ((3 : Int) == (3 : Int)))) (d := true) rfl (fun v w h => h), fun h w => optUndef h, fun zβ za zw zc => ?_⟩, ?_⟩
   ·exact eql_3 rfl ((evt za 78).trans (optVal (zc.dep 24 78 (by kernel_rfl)) rfl zβ)) (zc.kn.ev rfl) ⟨_, rfl, Below.refl _ _, optDef zβ rfl⟩
   refine ⟨⟨true, .none rfl, fun h w => optUndef h, fun zβ za zw zc => ?_⟩, ?_⟩
   ·exact wp_and rfl ((evt za 76).trans (optVal (zc.dep 22 76 (by kernel_rfl)) rfl rfl)) (fun hp => ((evt za 79).trans (optVal (zc.dep 25 79 (by kernel_rfl)) rfl (bMk zβ hp)))) ⟨_, rfl, Below.refl _ _, optDef zβ rfl⟩
   refine ⟨⟨true, .none rfl, fun h w => optUndef h, fun zβ za zw zc => ?_⟩, ?_⟩
   ·exact wp_move rfl ((evt za 80).trans (optVal (zc.dep 26 80 (by kernel_rfl)) rfl rfl)) ⟨_, rfl, Below.refl _ _, optDef zβ rfl⟩
   refine ⟨⟨_, .yes (c := ((((((((0 : Int) == (0 : Int)) && ((2 : Int) == (2 : Int))) && ((0 : Int) == (0 : Int))) && ((0 : Int) == (0 : Int))) && ((0 : Int) == (0 : Int))) && ((3 : Int) == (3 : Int))) && ((4 : Int) == (4 : Int)))) (d := true) rfl (fun v w h => h), fun h w => optUndef h, fun zβ za zw zc => ?_⟩, ?_⟩
   ·exact wp_move rfl (zc.kn.ev rfl) ⟨_, rfl, Below.refl _ _, optDef zβ rfl⟩
   refine ⟨⟨_, .yes (c := ((((((((0 : Int) == (0 : Int)) && ((2 : Int) == (2 : Int))) && ((0 : Int) == (0 : Int))) && ((0 : Int) == (0 : Int))) && ((0 : Int) == (0 : Int))) && ((3 : Int) == (3 : Int))) && ((4 : Int) == (4 : Int)))) (d := true) rfl (fun v w h => h), fun h w => optUndef h, fun zβ za zw zc => ?_⟩, ?_⟩
   ·exact wp_call (by kernel_rfl) rfl (hv2 ((evt za 82).trans (optVal (zc.dep 28 82 (by kernel_rfl)) rfl zβ)) (zc.kn.ev rfl)) (jSize 2 (by decide) (BkSJ.below hk100 (bstep hq110 zc.below))) (fun v w' h => ⟨v, rfl, h.2, optDef zβ h.1⟩)
   refine ⟨⟨_, .yes (c := ((((((((0 : Int) == (0 : Int)) && ((2 : Int) == (2 : Int))) && ((0 : Int) == (0 : Int))) && ((0 : Int) == (0 : Int))) && ((0 : Int) == (0 : Int))) && ((3 : Int) == (3 : Int))) && ((4 : Int) == (4 : Int)))) (d := true) rfl (fun v w h => h), fun h w => optUndef h, fun zβ za zw zc => ?_⟩, ?_⟩
   ·exact eql_3 rfl ((evt za 83).trans (optVal (zc.dep 29 83 (by kernel_rfl)) rfl zβ)) (zc.kn.ev rfl) ⟨_, rfl, Below.refl _ _, optDef zβ rfl⟩
   refine ⟨⟨true, .none rfl, fun h w => optUndef h, fun zβ za zw zc => ?_⟩, ?_⟩
   ·exact wp_and rfl ((evt za 81).trans (optVal (zc.dep 27 81 (by kernel_rfl)) rfl rfl)) (fun hp => ((evt za 84).trans (optVal (zc.dep 30 84 (by kernel_rfl)) rfl (bMk zβ hp)))) ⟨_, rfl, Below.refl _ _, optDef zβ rfl⟩
   refine ⟨⟨true, .none rfl, fun h w => optUndef h, fun zβ za zw zc => ?_⟩, ?_⟩
   ·exact wp_move rfl ((evt za 85).trans (optVal (zc.dep 31 85 (by kernel_rfl)) rfl rfl)) ⟨_, rfl, Below.refl _ _, optDef zβ rfl⟩
   refine ⟨⟨_, .yes (c := (((((((((0 : Int) == (0 : Int)) && ((2 : Int) == (2 : Int))) && ((0 : Int) == (0 : Int))) && ((0 : Int) == (0 : Int))) && ((0 : Int) == (0 : Int))) && ((3 : Int) == (3 : Int))) && ((4 : Int) == (4 : Int))) && ((3 : Int) == (3 : Int)))) (d := true) rfl (fun v w h => h), fun h w => optUndef h, fun zβ za zw zc => ?_⟩, ?_⟩
   ·exact wp_move rfl (zc.kn.ev rfl) ⟨_, rfl, Below.refl _ _, optDef zβ rfl⟩
   refine ⟨⟨_, .yes (c := (((((((((0 : Int) == (0 : Int)) && ((2 : Int) == (2 : Int))) && ((0 : Int) == (0 : Int))) && ((0 : Int) == (0 : Int))) && ((0 : Int) == (0 : Int))) && ((3 : Int) == (3 : Int))) && ((4 : Int) == (4 : Int))) && ((3 : Int) == (3 : Int)))) (d := true) rfl (fun v w h => h), fun h w => optUndef h, fun zβ za zw zc => ?_⟩, ?_⟩
   ·exact wp_call (by kernel_rfl) rfl (hv2 ((evt za 87).trans (optVal (zc.dep 33 87 (by kernel_rfl)) rfl zβ)) (zc.kn.ev rfl)) (jGround 0 (by decide) (BkSJ.below hk100 (bstep hq110 zc.below))) (fun v w' h => ⟨v, rfl, h.2, optDef zβ h.1⟩)
   refine ⟨⟨true, .none rfl, fun h w => optUndef h, fun zβ za zw zc => ?_⟩, ?_⟩
   ·exact wp_and rfl ((evt za 86).trans (optVal (zc.dep 32 86 (by kernel_rfl)) rfl rfl)) (fun hp => ((evt za 88).trans (optVal (zc.dep 34 88 (by kernel_rfl)) rfl (bMk zβ hp)))) ⟨_, rfl, Below.refl _ _, optDef zβ rfl⟩
   refine ⟨⟨true, .none rfl, fun h w => optUndef h, fun zβ za zw zc => ?_⟩, ?_⟩
   ·exact wp_move rfl ((evt za 89).trans (optVal (zc.dep 35 89 (by kernel_rfl)) rfl rfl)) ⟨_, rfl, Below.refl _ _, optDef zβ rfl⟩
   refine ⟨⟨_, .yes (c := ((((((((((0 : Int) == (0 : Int)) && ((2 : Int) == (2 : Int))) && ((0 : Int) == (0 : Int))) && ((0 : Int) == (0 : Int))) && ((0 : Int) == (0 : Int))) && ((3 : Int) == (3 : Int))) && ((4 : Int) == (4 : Int))) && ((3 : Int) == (3 : Int))) && true)) (d := true) rfl (fun v w h => h), fun h w => optUndef h, fun zβ za zw zc => ?_⟩, ?_⟩
   ·exact wp_move rfl (zc.kn.ev rfl) ⟨_, rfl, Below.refl _ _, optDef zβ rfl⟩
   refine ⟨⟨_, .yes (c := ((((((((((0 : Int) == (0 : Int)) && ((2 : Int) == (2 : Int))) && ((0 : Int) == (0 : Int))) && ((0 : Int) == (0 : Int))) && ((0 : Int) == (0 : Int))) && ((3 : Int) == (3 : Int))) && ((4 : Int) == (4 : Int))) && ((3 : Int) == (3 : Int))) && true)) (d := true) rfl (fun v w h => h), fun h w => optUndef h, fun zβ za zw zc => ?_⟩, ?_⟩
   ·exact wp_call (by kernel_rfl) rfl (hv2 ((evt za 91).trans (optVal (zc.dep 37 91 (by kernel_rfl)) rfl zβ)) (zc.kn.ev rfl)) (jGround 1 (by decide) (BkSJ.below hk100 (bstep hq110 zc.below))) (fun v w' h => ⟨v, rfl, h.2, optDef zβ h.1⟩)
   refine ⟨⟨_, .yes (c := ((((((((((0 : Int) == (0 : Int)) && ((2 : Int) == (2 : Int))) && ((0 : Int) == (0 : Int))) && ((0 : Int) == (0 : Int))) && ((0 : Int) == (0 : Int))) && ((3 : Int) == (3 : Int))) && ((4 : Int) == (4 : Int))) && ((3 : Int) == (3 : Int))) && true)) (d := true) rfl (fun v w h => h), fun h w => optUndef h, fun zβ za zw zc => ?_⟩, ?_⟩
   ·exact wp_not rfl ((evt za 92).trans (optVal (zc.dep 38 92 (by kernel_rfl)) rfl zβ)) ⟨_, rfl, Below.refl _ _, optDef zβ rfl⟩
   refine ⟨⟨true, .none rfl, fun h w => optUndef h, fun zβ za zw zc => ?_⟩, ?_⟩
   ·exact wp_and rfl ((evt za 90).trans (optVal (zc.dep 36 90 (by kernel_rfl)) rfl rfl)) (fun hp => ((evt za 93).trans (optVal (zc.dep 39 93 (by kernel_rfl)) rfl (bMk zβ hp)))) ⟨_, rfl, Below.refl _ _, optDef zβ rfl⟩
   refine ⟨⟨true, .none rfl, fun h w => optUndef h, fun zβ za zw zc => ?_⟩, ?_⟩
   ·exact wp_move rfl ((evt za 94).trans (optVal (zc.dep 40 94 (by kernel_rfl)) rfl rfl)) ⟨_, rfl, Below.refl _ _, optDef zβ rfl⟩
   refine ⟨⟨_, .yes (c := (((((((((((0 : Int) == (0 : Int)) && ((2 : Int) == (2 : Int))) && ((0 : Int) == (0 : Int))) && ((0 : Int) == (0 : Int))) && ((0 : Int) == (0 : Int))) && ((3 : Int) == (3 : Int))) && ((4 : Int) == (4 : Int))) && ((3 : Int) == (3 : Int))) && true) && (!false))) (d := true) rfl (fun v w h => h), fun h w => optUndef h, fun zβ za zw zc => ?_⟩, ?_⟩
   ·exact wp_move rfl (zc.kn.ev rfl) ⟨_, rfl, Below.refl _ _, optDef zβ rfl⟩
   refine ⟨⟨_, .yes (c := (((((((((((0 : Int) == (0 : Int)) && ((2 : Int) == (2 : Int))) && ((0 : Int) == (0 : Int))) && ((0 : Int) == (0 : Int))) && ((0 : Int) == (0 : Int))) && ((3 : Int) == (3 : Int))) && ((4 : Int) == (4 : Int))) && ((3 : Int) == (3 : Int))) && true) && (!false))) (d := true) rfl (fun v w h => h), fun h w => optUndef h, fun zβ za zw zc => ?_⟩, ?_⟩
   ·exact eql_27 rfl ((evt za 96).trans (optVal (zc.dep 42 96 (by kernel_rfl)) rfl zβ)) (zc.kn.ev rfl) ⟨_, rfl, Below.refl _ _, optDef zβ rfl⟩
   refine ⟨⟨true, .none rfl, fun h w => optUndef h, fun zβ za zw zc => ?_⟩, ?_⟩
   ·exact wp_and rfl ((evt za 95).trans (optVal (zc.dep 41 95 (by kernel_rfl)) rfl rfl)) (fun hp => ((evt za 97).trans (optVal (zc.dep 43 97 (by kernel_rfl)) rfl (bMk zβ hp)))) ⟨_, rfl, Below.refl _ _, optDef zβ rfl⟩
   refine ⟨⟨true, .none rfl, fun h w => optUndef h, fun zβ za zw zc => ?_⟩, ?_⟩
   ·exact wp_assign rfl ((evt za 98).trans (optVal (zc.dep 44 98 (by kernel_rfl)) rfl rfl)) ⟨_, rfl, Below.refl _ _, optDef zβ rfl⟩
   exact trivial
  ·intro za w112 zh hb113 zu
   have zh := zh.cons (d := 0) (v := .bool (((((((((((((0 : Int) == (0 : Int)) && ((2 : Int) == (2 : Int))) && ((0 : Int) == (0 : Int))) && ((0 : Int) == (0 : Int))) && ((0 : Int) == (0 : Int))) && ((3 : Int) == (3 : Int))) && ((4 : Int) == (4 : Int))) && ((3 : Int) == (3 : Int))) && true) && (!false)) && ((2 : Int) == (2 : Int))))) (optVal (zu 45 0 (by kernel_rfl)) rfl rfl)
   clear zu
   refine WE.go zh ?_
   refine WE.next (WC.ret (WE.ret1 rfl rfl ?_))
   have hb114 : Below w.heap.size w w112 := (bstep (bstep hb106 hq110) hb113)
   exact ⟨_, rfl, congrArg Value.bool (by simp), hb114⟩
end Go.Proofs.Ytbohlpfndiiimaa

/- The order in which terms come: the law's walk. -/
namespace Go.Proofs.Ytbohlpfndiiimaa
open Go.RowKit Go
set_option linter.unusedVariables false
set_option linter.unusedSimpArgs false
/-- Two banks, apart from each other. -/
def TwoB (w : World) (B g1 g2 : Nat) (sg : List Sy) (N1 N2 : List En) : Prop := ∃ Y1 Y2, BkS w g1 sg Y1 N1 ∧ BkS w g2 sg Y2 N2 ∧ (∀ b, Y1 b → B ≤ b) ∧ (∀ b, Y2 b → B ≤ b) ∧ ∀ b, Y1 b → ¬ Y2 b
section
variable {w w' : World} {B g1 g2 : Nat} {sg : List Sy} {N1 N2 : List En}
theorem TwoB.symm (h : TwoB w B g1 g2 sg N1 N2) : TwoB w B g2 g1 sg N2 N1 := by
 obtain ⟨Y1, Y2, h1, h2, h3, h4, h5⟩ := h
 exact ⟨Y2, Y1, h2, h1, h4, h3, fun b q k => h5 b k q⟩
theorem TwoB.below (h : TwoB w B g1 g2 sg N1 N2) (hb : Below w.heap.size w w') : TwoB w' B g1 g2 sg N1 N2 := by
 obtain ⟨Y1, Y2, h1, h2, h3, h4, h5⟩ := h
 exact ⟨Y1, Y2, h1.below hb, h2.below hb, h3, h4, h5⟩
theorem TwoB.one (h : TwoB w B g1 g2 sg N1 N2) : BkSJ w B g1 sg N1 (fun _ => False) := by
 obtain ⟨Y1, Y2, h1, h2, h3, h4, h5⟩ := h
 exact ⟨Y1, h1, h3, fun b q => q.elim⟩
theorem TwoB.two (h : TwoB w B g1 g2 sg N1 N2) : BkSJ w B g2 sg N2 (fun _ => False) := h.symm.one
theorem TwoB.ok (h : TwoB w B g1 g2 sg N1 N2) : NEk N1 ∧ NEk N2 := ⟨h.one.ok, h.two.ok⟩
theorem TwoB.new {B1 B2 : Nat} (h1 : BkS w' g1 sg (fun b => B ≤ b ∧ b < B1) N1) (h2 : BkS w' g2 sg (fun b => B2 ≤ b ∧ b < w'.heap.size) N2) (h3 : B1 ≤ B2) (h4 : B ≤ B2) : TwoB w' B g1 g2 sg N1 N2 :=
 ⟨_, _, h1, h2, fun b q => q.1, fun b q => Nat.le_trans h4 q.1, fun b q k => by have z1 := q.2; have z2 := k.1; omega⟩
theorem tPut (t : T) (v : Value) (A : Nat → Prop) (hNl : N1.length ≤ 1000000) (hsz : t.size ≤ 4294967296) (hA : ∀ b, A b → b < B) (hB : B ≤ w.heap.size) (hin : InT A w t v) (h : TwoB w B g1 g2 sg N1 N2) :
  Calls Try.prog 9 #[.pointer (some ⟨g1, 0, none⟩), v] w (Ret fun v' w' => v' = .tuple #[.int .i64 (bputV sg N1 t), .int .i64 (chkI sg t)] ∧ (∃ Y, (∀ b, b < B → ¬ Y b) ∧ Chg Y w w') ∧ TwoB w' B g1 g2 sg (bputI sg N1 t) N2) := by
 obtain ⟨Y1, Y2, h1, h2, h3, h4, h5⟩ := h
 refine Calls.mono (bPut_any g1 sg t N1 Y1 A w v hsz hNl h1 hin (fun b q => ⟨fun k => by have := h3 b k; have := hA b q; omega, by have := hA b q; omega⟩)) (fun e w' hr => ?_)
 obtain ⟨v', rfl, hv, ⟨Y', k1, k2⟩, hc⟩ := hr
 have hl2 := h2.lt
 refine ⟨v', rfl, hv, ⟨Y1, fun b q k => by have := h3 b k; omega, hc⟩, Y', Y2, k1, h2.chg hc (fun b q k => h5 b k q), fun b q => ?_, h4, fun b q k => ?_⟩
 ·rcases k2 b q with z | z
  ·exact h3 b z
  ·omega
 ·rcases k2 b q with z | z
  ·exact h5 b z k
  ·have := hl2 b k; omega
end
theorem newY (sg : List Sy) (w : World) (v : Value) (hz : sg.length ≤ 4294967296) (hs : IsSig w sg v) (hck : sigCheck sg = 0) : Calls Try.prog 7 #[v] w (Ret fun v' w' => (∃ g : Nat, v' = .tuple #[.pointer (some ⟨g, 0, none⟩), .int .i64 0] ∧ BkS w' g sg (fun b => w.heap.size ≤ b ∧ b < w'.heap.size) []) ∧ Below w.heap.size w w') := by
 refine Calls.mono (bNew_any sg w v hz hs) (fun e w' hr => ?_)
 obtain ⟨v', rfl, h, hb⟩ := hr
 rcases h with ⟨h, _⟩ | ⟨_, g, h1, _, h2⟩
 ·exact absurd hck h
 ·exact ⟨v', rfl, ⟨g, h1, h2⟩, hb⟩
theorem newN (sg : List Sy) (w : World) (v : Value) (hz : sg.length ≤ 4294967296) (hs : IsSig w sg v) (hck : sigCheck sg ≠ 0) : Calls Try.prog 7 #[v] w (Ret fun v' w' => v' = .tuple #[.pointer none, .int .i64 2] ∧ Below w.heap.size w w') := by
 refine Calls.mono (bNew_any sg w v hz hs) (fun e w' hr => ?_)
 obtain ⟨v', rfl, h, hb⟩ := hr
 rcases h with ⟨_, h⟩ | ⟨h, _⟩
 ·exact ⟨v', rfl, h, hb⟩
 ·exact absurd h hck
/-- The terms that may be. -/
def accs (sg : List Sy) (l : List T) : List T := l.filter fun t => decide (chkI sg t = 0)
theorem bputI_accs (sg : List Sy) (l : List T) (t : T) : bputI sg (bputs (accs sg l) []) t = bputs (accs sg (l ++ [t])) [] := by
 unfold bputI accs
 rw [List.filter_append, List.filter_cons]
 by_cases c : chkI sg t = 0
 ·rw [if_pos c, if_pos (by simpa using c), List.filter_nil, bputs_snoc]
 ·rw [if_neg c, if_neg (by simpa using c), List.filter_nil, List.append_nil]
abbrev bank1 (sg : List Sy) (l : List T) (k : Nat) : List En := bputs (accs sg (l.take k)) []
def rotM (l : List T) (r k : Nat) : List T := (List.range k).map fun i => tget l ((i + r) % l.length)
abbrev bank2 (sg : List Sy) (l : List T) (r k : Nat) : List En := bputs (accs sg (rotM l r k)) []
theorem bank1_succ {sg : List Sy} {l : List T} {k : Nat} (h : k < l.length) : bputI sg (bank1 sg l k) (tget l k) = bank1 sg l (k + 1) := by
 unfold bank1
 rw [bputI_accs, List.take_succ_eq_append_getElem h, tget_lt h]
theorem bank2_succ {sg : List Sy} {l : List T} {r k : Nat} : bputI sg (bank2 sg l r k) (tget l ((k + r) % l.length)) = bank2 sg l r (k + 1) := by
 unfold bank2
 rw [bputI_accs]
 unfold rotM
 rw [List.range_succ, List.map_append, List.map_singleton]
theorem rot_mem {l : List T} {r : Nat} (h : r < l.length) (t : T) : t ∈ l ↔ t ∈ rotM l r l.length := by
 unfold rotM
 rw [List.mem_map]
 constructor
 ·intro ht
  obtain ⟨j, hj, rfl⟩ := List.getElem_of_mem ht
  refine ⟨(j + (l.length - r)) % l.length, List.mem_range.2 (Nat.mod_lt _ (by omega)), ?_⟩
  rw [Nat.mod_add_mod, show j + (l.length - r) + r = j + l.length by omega, Nat.add_mod_right, Nat.mod_eq_of_lt hj, tget_lt hj]
 ·rintro ⟨i, hi, rfl⟩
  exact tget_mem (Nat.mod_lt _ (by omega))
theorem alk_rot (sg : List Sy) {l : List T} {r : Nat} (h : r < l.length) : Alk (bank1 sg l l.length) (bank2 sg l r l.length) := by
 unfold bank1 bank2
 refine Alk.of (fun t => ?_)
 unfold accs
 rw [List.take_length, List.mem_filter, List.mem_filter, rot_mem h t]
theorem usersAll (N : List En) (k : Nat) : usI (-1) (usersE N k) = usersE N k := usI_all (by omega)
theorem bfind_gets {N : List En} {t : T} {j : Nat} (h : t.bfind N = some j) : (((t.bfind N).getD 0 : Nat) : Int) = (j : Int) ∧ (t.bfind N).isSome = true := by rw [h]; exact ⟨rfl, rfl⟩
set_option maxRecDepth 100000 in
set_option maxHeartbeats 1000000 in
theorem turned_any (sg : List Sy) (l : List T) (turn : Int) (w : World) (vs : Value) (a : Option Addr) (c : Nat) (hzs : sg.length ≤ 1048576) (hs : IsSig w sg vs) (hc : l.length ≤ c) (hm : c ≤ maxLen) (hl : IsTs w l a 0) (hz : T.sizeL l ≤ 1048576) (ht : I64 turn) : Calls Try.prog 4 #[vs, .slice a l.length c, .int .i64 turn] w (Ret fun v' w' => v' = .bool true ∧ Below w.heap.size w w') := by
 have hst := hs
 have ht' := ht
 unfold I64 at ht'
 obtain ⟨sa, sc, rfl, _, _, _⟩ := hs
 have hlen := len_le_sizeL l
 have htz : ∀ k, k < l.length → (tget l k).size ≤ 4294967296 := fun k hk => by have := T.size_le_sizeL (tget_mem hk); omega
 refine Calls.walk (l := [.agg #[.slice sa sg.length sc], .slice a l.length c, .int .i64 turn]) Try.func4 rfl (by kernel_rfl) ?_
 refine WC.sub (K' := [(0, .agg #[.slice sa sg.length sc]), (1, .slice a l.length c), (2, .int .i64 turn)]) ⟨rfl, rfl, rfl, trivial⟩ ?_
 refine WC.seq (WC.region ?_)
 refine WL.step (post := NewBlk w 24 #[.slice sa sg.length sc]) rfl rfl rfl (fun za zC zh zk => box_24 rfl (zh.ev rfl) (zk _ _ (newBlk _ _ _))) ?_
 rintro _ w1 ⟨g2, rfl, hg3, hB4, hb5, hz6⟩
 have hl7 : w.heap.size ≤ g2 := by omega
 refine WL.asg rfl rfl rfl rfl rfl (WL.nil (WE.next (WC.seq (WC.region ?_))))
 refine WL.val _ rfl rfl rfl (fun za zC zh zk => ld_24 rfl (zh.ev rfl) ((hB4.cell 0).trans rfl) zk) ?_
 by_cases hck : sigCheck sg = 0
 ·refine WL.call rfl rfl rfl (fun za zh zC => wp_call (by kernel_rfl) rfl (hv1 (zh.ev rfl))) (newY sg _ _ (by omega) (IsSig.below hb5 hst) hck) ?_
  rintro _ w11 ⟨⟨gk8, rfl, hk9⟩, hb10⟩
  have hBw : w.heap.size ≤ w1.heap.size := hb5.size
  refine WL.mv rfl rfl rfl rfl rfl ?_
  refine WL.val (.pointer (some ⟨gk8, 0, none⟩)) rfl rfl rfl (fun za zC zh zk => ext2_0 rfl (zh.ev rfl) zk) ?_
  refine WL.val (.int .i64 0) rfl rfl rfl (fun za zC zh zk => ext2_1 rfl (zh.ev rfl) zk) ?_
  refine WL.asg rfl rfl rfl rfl rfl (WL.asg rfl rfl rfl rfl rfl (WL.nil (WE.next (WC.seq (WC.region ?_)))))
  have hB12 := hB4.below hb10
  refine WL.val _ rfl rfl rfl (fun za zC zh zk => ld_24 rfl (zh.ev rfl) ((hB12.cell 0).trans rfl) zk) ?_
  have hb13 : Below w.heap.size w w11 := (bstep hb5 hb10)
  refine WL.call rfl rfl rfl (fun za zh zC => wp_call (by kernel_rfl) rfl (hv1 (zh.ev rfl))) (newY sg _ _ (by omega) (IsSig.below hb13 hst) hck) ?_
  rintro _ w17 ⟨⟨gk14, rfl, hk15⟩, hb16⟩
  have ho18 := hk9.below hb16
  have hab0 : TwoB w17 w1.heap.size gk8 gk14 sg [] [] := TwoB.new ho18 hk15 ((Nat.le_refl _)) (Nat.le_trans hb10.size (Nat.le_refl _))
  refine WL.mv rfl rfl rfl rfl rfl ?_
  refine WL.val (.pointer (some ⟨gk14, 0, none⟩)) rfl rfl rfl (fun za zC zh zk => ext2_0 rfl (zh.ev rfl) zk) ?_
  refine WL.val (.int .i64 0) rfl rfl rfl (fun za zC zh zk => ext2_1 rfl (zh.ev rfl) zk) ?_
  refine WL.asg rfl rfl rfl rfl rfl (WL.asg rfl rfl rfl rfl rfl (WL.nil (WE.next (WC.seq (WC.seq ?_)))))
  refine WC.opt [(true, .val (.int .i64 0)), (true, .val (.bool false)), (true, .val (.bool false)), ((true && !false), .val (.int .i64 0)), ((true && !false), .val (.bool false)), (true, .val (.bool false)), (true, .val (.bool false)), ((true && !false), .val (.slice a l.length c)), ((true && !false), .val (.int .i64 (((l.length : Nat) : Int)))), ((true && !false), .val (.bool ((decide ((30 : Int) < (((l.length : Nat) : Int) : Int)))))), (true, .val (.bool ((decide ((30 : Int) < (((l.length : Nat) : Int) : Int)))))), (true, .val (.bool ((decide ((30 : Int) < (((l.length : Nat) : Int) : Int)))))), ((true && !(decide ((30 : Int) < (((l.length : Nat) : Int) : Int)))), .val (.slice a l.length c)), ((true && !(decide ((30 : Int) < (((l.length : Nat) : Int) : Int)))), .val (.int .i64 (((l.length : Nat) : Int)))), ((true && !(decide ((30 : Int) < (((l.length : Nat) : Int) : Int)))), .val (.bool (((((l.length : Nat) : Int) : Int) == (0 : Int))))), (true, .val (.bool (((decide ((30 : Int) < (((l.length : Nat) : Int) : Int))) || ((((l.length : Nat) : Int) : Int) == (0 : Int))))))] [(0, .agg #[.slice sa sg.length sc]), (1, .slice a l.length c), (2, .int .i64 turn), (3, .pointer (some ⟨g2, 0, none⟩)), (6, .bool false), (7, .pointer (some ⟨gk8, 0, none⟩)), (8, .int .i64 0), (9, .pointer (some ⟨gk14, 0, none⟩)), (10, .int .i64 0)] ⟨rfl, rfl, rfl, rfl, rfl, rfl, rfl, rfl, rfl, trivial⟩ (by kernel_rfl) (by kernel_rfl) (by kernel_rfl) ?_ ?_
  ·refine ⟨⟨true, .none rfl, fun h w => optUndef h, fun zβ za zw zc => ?_⟩, ?_⟩
   ·exact wp_move rfl (zc.kn.ev rfl) ⟨_, rfl, Below.refl _ _, optDef zβ rfl⟩
   refine ⟨⟨true, .none rfl, fun h w => optUndef h, fun zβ za zw zc => ?_⟩, ?_⟩
   ·exact neq_27 rfl ((evt za 27).trans (optVal (zc.dep 0 27 (by kernel_rfl)) rfl rfl)) (zc.kn.ev rfl) ⟨_, rfl, Below.refl _ _, optDef zβ rfl⟩
   refine ⟨⟨true, .none rfl, fun h w => optUndef h, fun zβ za zw zc => ?_⟩, ?_⟩
   ·exact wp_move rfl ((evt za 28).trans (optVal (zc.dep 1 28 (by kernel_rfl)) rfl rfl)) ⟨_, rfl, Below.refl _ _, optDef zβ rfl⟩
   refine ⟨⟨_, .no (c := false) (d := true) rfl (fun v w h => h), fun h w => optUndef h, fun zβ za zw zc => ?_⟩, ?_⟩
   ·exact wp_move rfl (zc.kn.ev rfl) ⟨_, rfl, Below.refl _ _, optDef zβ rfl⟩
   refine ⟨⟨_, .no (c := false) (d := true) rfl (fun v w h => h), fun h w => optUndef h, fun zβ za zw zc => ?_⟩, ?_⟩
   ·exact neq_27 rfl ((evt za 30).trans (optVal (zc.dep 3 30 (by kernel_rfl)) rfl rfl)) (zc.kn.ev rfl) ⟨_, rfl, Below.refl _ _, optDef zβ rfl⟩
   refine ⟨⟨true, .none rfl, fun h w => optUndef h, fun zβ za zw zc => ?_⟩, ?_⟩
   ·exact wp_pickF rfl ((evt za 29).trans (optVal (zc.dep 2 29 (by kernel_rfl)) rfl rfl)) ((evt za 31).trans (optVal (zc.dep 4 31 (by kernel_rfl)) rfl rfl)) ⟨_, rfl, Below.refl _ _, optDef zβ rfl⟩
   refine ⟨⟨true, .none rfl, fun h w => optUndef h, fun zβ za zw zc => ?_⟩, ?_⟩
   ·exact wp_move rfl ((evt za 32).trans (optVal (zc.dep 5 32 (by kernel_rfl)) rfl rfl)) ⟨_, rfl, Below.refl _ _, optDef zβ rfl⟩
   refine ⟨⟨_, .no (c := false) (d := true) rfl (fun v w h => h), fun h w => optUndef h, fun zβ za zw zc => ?_⟩, ?_⟩
   ·exact wp_move rfl (zc.kn.ev rfl) ⟨_, rfl, Below.refl _ _, optDef zβ rfl⟩
   refine ⟨⟨_, .no (c := false) (d := true) rfl (fun v w h => h), fun h w => optUndef h, fun zβ za zw zc => ?_⟩, ?_⟩
   ·exact len_25 rfl ((evt za 34).trans (optVal (zc.dep 7 34 (by kernel_rfl)) rfl rfl)) ⟨_, rfl, Below.refl _ _, optDef zβ rfl⟩
   refine ⟨⟨_, .no (c := false) (d := true) rfl (fun v w h => h), fun h w => optUndef h, fun zβ za zw zc => ?_⟩, ?_⟩
   ·exact gtr_3 rfl ((evt za 35).trans (optVal (zc.dep 8 35 (by kernel_rfl)) rfl rfl)) (zc.kn.ev rfl) ⟨_, rfl, Below.refl _ _, optDef zβ rfl⟩
   refine ⟨⟨true, .none rfl, fun h w => optUndef h, fun zβ za zw zc => ?_⟩, ?_⟩
   ·exact wp_pickF rfl ((evt za 33).trans (optVal (zc.dep 6 33 (by kernel_rfl)) rfl rfl)) ((evt za 36).trans (optVal (zc.dep 9 36 (by kernel_rfl)) rfl rfl)) ⟨_, rfl, Below.refl _ _, optDef zβ rfl⟩
   refine ⟨⟨true, .none rfl, fun h w => optUndef h, fun zβ za zw zc => ?_⟩, ?_⟩
   ·exact wp_move rfl ((evt za 37).trans (optVal (zc.dep 10 37 (by kernel_rfl)) rfl rfl)) ⟨_, rfl, Below.refl _ _, optDef zβ rfl⟩
   refine ⟨⟨_, .no (c := (decide ((30 : Int) < (((l.length : Nat) : Int) : Int)))) (d := true) rfl (fun v w h => h), fun h w => optUndef h, fun zβ za zw zc => ?_⟩, ?_⟩
   ·exact wp_move rfl (zc.kn.ev rfl) ⟨_, rfl, Below.refl _ _, optDef zβ rfl⟩
   refine ⟨⟨_, .no (c := (decide ((30 : Int) < (((l.length : Nat) : Int) : Int)))) (d := true) rfl (fun v w h => h), fun h w => optUndef h, fun zβ za zw zc => ?_⟩, ?_⟩
   ·exact len_25 rfl ((evt za 39).trans (optVal (zc.dep 12 39 (by kernel_rfl)) rfl zβ)) ⟨_, rfl, Below.refl _ _, optDef zβ rfl⟩
   refine ⟨⟨_, .no (c := (decide ((30 : Int) < (((l.length : Nat) : Int) : Int)))) (d := true) rfl (fun v w h => h), fun h w => optUndef h, fun zβ za zw zc => ?_⟩, ?_⟩
   ·exact eql_3 rfl ((evt za 40).trans (optVal (zc.dep 13 40 (by kernel_rfl)) rfl zβ)) (zc.kn.ev rfl) ⟨_, rfl, Below.refl _ _, optDef zβ rfl⟩
   refine ⟨⟨true, .none rfl, fun h w => optUndef h, fun zβ za zw zc => ?_⟩, ?_⟩
   ·exact wp_or rfl ((evt za 38).trans (optVal (zc.dep 11 38 (by kernel_rfl)) rfl rfl)) (fun hp => ((evt za 41).trans (optVal (zc.dep 14 41 (by kernel_rfl)) rfl (bMkN zβ hp)))) ⟨_, rfl, Below.refl _ _, optDef zβ rfl⟩
   exact trivial
  ·intro za w19 zh hb20 zu
   have zh := zh.cons (d := 42) (v := .bool (((decide ((30 : Int) < (((l.length : Nat) : Int) : Int))) || ((((l.length : Nat) : Int) : Int) == (0 : Int))))) (optVal (zu 15 42 (by kernel_rfl)) rfl rfl)
   clear zu
   refine WE.go zh ?_
   refine WE.next ?_
   refine WC.cond rfl (fun h21 => ?_) (fun h21 => ?_)
   ·have h21 : ((30 : Int) < (((l.length : Nat) : Int) : Int)) ∨ ((((l.length : Nat) : Int) : Int) = (0 : Int)) := by simpa using h21
    refine WC.seq (WC.region ?_)
    refine WL.call rfl rfl rfl (fun za zh zC => wp_call (by kernel_rfl) rfl (hv0)) (wakes_any _) ?_
    rintro _ w23 ⟨rfl, hq22⟩
    refine WL.asg rfl rfl rfl rfl rfl (WL.nil (WE.next (WC.ret (WE.thenRet (WE.ret1 rfl rfl ?_)))))
    have hb24 : Below w.heap.size w w23 := (bstep (bstep (bstep hb13 hb16) hb20) hq22)
    exact ⟨_, rfl, rfl, hb24⟩
   ·have h21 : ¬ (((30 : Int) < (((l.length : Nat) : Int) : Int)) ∨ ((((l.length : Nat) : Int) : Int) = (0 : Int))) := by simpa using h21
    refine WC.skip (WE.next (WC.seq (WC.region (WL.mv rfl rfl rfl rfl rfl (WL.mv rfl rfl rfl rfl rfl ?_)))))
    refine WL.val (.int .i64 (((l.length : Nat) : Int))) rfl rfl rfl (fun za zC zh zk => len_25 rfl (zh.ev rfl) zk) ?_
    have hl0 : 0 < l.length := by omega
    have hl30 : l.length ≤ 30 := by omega
    have hm1 := Int.tmod_lt_of_pos turn (show (0 : Int) < (l.length : Int) by omega)
    have hm2 : -(l.length : Int) < turn.tmod l.length := by have z := Int.lt_tmod_of_pos turn (show (0 : Int) < (l.length : Int) by omega); omega
    refine WL.val (.int .i64 ((turn.tmod (((l.length : Nat) : Int))))) rfl rfl rfl (fun za zC zh zk => rem_3 rfl (zh.ev rfl) (zh.ev rfl) (by omega) zk) ?_
    refine WL.mv rfl rfl rfl rfl rfl ?_
    refine WL.val (.int .i64 (((l.length : Nat) : Int))) rfl rfl rfl (fun za zC zh zk => len_25 rfl (zh.ev rfl) zk) ?_
    refine WL.val (.int .i64 ((turn.tmod (l.length : Int) + (l.length : Int)))) rfl rfl rfl (fun za zC zh zk => addb_3 rfl (zh.ev rfl) (zh.ev rfl) (wrap_eq rfl (by omega) (by omega)) zk) ?_
    refine WL.mv rfl rfl rfl rfl rfl ?_
    refine WL.val (.int .i64 (((l.length : Nat) : Int))) rfl rfl rfl (fun za zC zh zk => len_25 rfl (zh.ev rfl) zk) ?_
    obtain ⟨r, hr9⟩ : ∃ r : Nat, ((turn.tmod (l.length : Int) + (l.length : Int)).tmod (l.length : Int)) = (r : Int) := ⟨((turn.tmod (l.length : Int) + (l.length : Int)).tmod (l.length : Int)).toNat, (Int.toNat_of_nonneg (Int.tmod_nonneg _ (by omega))).symm⟩
    have hrl : r < l.length := by have z := Int.tmod_lt_of_pos (turn.tmod (l.length : Int) + (l.length : Int)) (show (0 : Int) < (l.length : Int) by omega); omega
    refine WL.val (.int .i64 (r : Int)) rfl rfl rfl (fun za zC zh zk => rem_3 rfl (zh.ev rfl) (zh.ev rfl) (by omega) (by rw [hr9]; exact zk)) ?_
    refine WL.asg rfl rfl rfl rfl rfl ?_
    refine WL.nil (WE.sub (K' := [(0, .agg #[.slice sa sg.length sc]), (1, .slice a l.length c), (2, .int .i64 (((r : Nat) : Int))), (3, .pointer (some ⟨g2, 0, none⟩)), (6, .bool false), (7, .pointer (some ⟨gk8, 0, none⟩)), (8, .int .i64 0), (9, .pointer (some ⟨gk14, 0, none⟩)), (10, .int .i64 0), (42, .bool (((decide ((30 : Int) < (((l.length : Nat) : Int) : Int))) || ((((l.length : Nat) : Int) : Int) == (0 : Int)))))]) ⟨rfl, rfl, rfl, rfl, rfl, rfl, rfl, rfl, rfl, rfl, trivial⟩ ?_)
    refine WE.next (WC.seq (WC.seq (WC.region (WL.asg rfl rfl rfl rfl rfl (WL.nil (WE.next (WC.block ?_)))))))
    have ho25 := hab0.below hb20
    have hab26 : TwoB w19 w1.heap.size gk8 gk14 sg (bank1 sg l 0) (bank2 sg l r 0) := ho25
    refine WC.loop (X := Nat) (fun x => l.length - x) (fun x => [(0, .agg #[.slice sa sg.length sc]), (1, .slice a l.length c), (2, .int .i64 (((r : Nat) : Int))), (3, .pointer (some ⟨g2, 0, none⟩)), (6, .bool false), (7, .pointer (some ⟨gk8, 0, none⟩)), (8, .int .i64 0), (9, .pointer (some ⟨gk14, 0, none⟩)), (10, .int .i64 0), (11, .int .i64 (((x : Nat) : Int))), (42, .bool (((decide ((30 : Int) < (((l.length : Nat) : Int) : Int))) || ((((l.length : Nat) : Int) : Int) == (0 : Int)))))]) (fun x w27 => x ≤ l.length ∧ ((bank1 sg l x).length ≤ x * 300 ∧ (bank2 sg l r x).length ≤ x * 300) ∧ Below w.heap.size w w27 ∧ Blk w27 g2 24 #[.slice sa sg.length sc] ∧ TwoB (w27) w1.heap.size gk8 gk14 sg (bank1 sg l x) (bank2 sg l r x)) 0 ⟨rfl, rfl, rfl, rfl, rfl, rfl, rfl, rfl, rfl, rfl, rfl, trivial⟩ ?_ ?_
    ·have hb28 : Below w.heap.size w w19 := (bstep (bstep hb13 hb16) hb20)
     have hb30 : Below w11.heap.size w11 w19 := (bstep hb16 hb20)
     have hB29 := hB12.below hb30
     exact ⟨Nat.zero_le _, ⟨Nat.zero_le _, Nat.zero_le _⟩, hb28, hB29, hab26⟩
    ·rintro x w27 ⟨hk, hbl, hb31, hB32, ho33⟩
     refine WC.seq (WC.seq (WC.region (WL.mv rfl rfl rfl rfl rfl (WL.mv rfl rfl rfl rfl rfl ?_))))
     refine WL.val (.int .i64 (((l.length : Nat) : Int))) rfl rfl rfl (fun za zC zh zk => len_25 rfl (zh.ev rfl) zk) ?_
     refine WL.val (.bool ((decide ((((x : Nat) : Int) : Int) < (((l.length : Nat) : Int) : Int))))) rfl rfl rfl (fun za zC zh zk => lss_3 rfl (zh.ev rfl) (zh.ev rfl) zk) ?_
     refine WL.nil (WE.next ?_)
     refine WC.cond rfl (fun h34 => ?_) (fun h34 => ?_)
     ·have h34 : (((x : Nat) : Int) : Int) < (((l.length : Nat) : Int) : Int) := by simpa using h34
      refine WC.skip (WE.next (WC.seq (WC.block (WC.seq (WC.region (WL.mv rfl rfl rfl rfl rfl (WL.mv rfl rfl rfl rfl rfl (WL.mv rfl rfl rfl rfl rfl ?_))))))))
      obtain ⟨b35, o36, A37, C38, ha39, hc40⟩ := IsTs.open hl
      refine WL.val _ rfl rfl rfl (fun za zC zh zk => ix_25 (k := x) rfl (zh.ev rfl) (ha39 x (by first | omega | (simp; omega))) (zh.ev rfl) (by first | omega | (simp; omega)) zk) ?_
      refine WL.val _ rfl rfl rfl (fun za zC zh zk => ld_35 rfl (zh.ev rfl) (bkeeps hb31 _ _ (hc40 x (by first | omega | (simp; omega))).1) (bkeeps hb31 _ _ (hc40 x (by first | omega | (simp; omega))).2.1) zk) ?_
      have hok9 := TwoB.ok ho33
      have hl41 := hB32.lt
      have hBs : w1.heap.size ≤ w27.heap.size := (Nat.le_trans (BkSJ.hg (TwoB.one ho33)).1 (Nat.le_of_lt (BkSJ.hg (TwoB.one ho33)).2))
      refine WL.call rfl rfl rfl (fun za zh zC => wp_call (by kernel_rfl) rfl (hv2 (zh.ev rfl) (zh.ev rfl))) (tPut (tget l x) _ (fun b => b < w.heap.size) (by omega) (htz _ (by omega)) (fun b q => by omega) hBs (InT.below hb31 (IsT.inT (hc40 x (by first | omega | (simp; omega))).2.2)) ho33) ?_
      rintro _ w47 ⟨rfl, ⟨Y42, hY43, hc44⟩, hk45⟩
      have hb48 := chg_below hb31 hc44 (fun b q => hY43 b (by omega))
      have hk46 : TwoB w47 w1.heap.size gk8 gk14 sg (bank1 sg l (x + 1)) (bank2 sg l r x) := by have z := hk45; rw [bank1_succ (by omega)] at z; exact z
      have hB49 := chg_blk hB32 hc44 (hY43 _ (by omega))
      refine WL.nil (WE.next (WC.region (WL.mv rfl rfl rfl rfl rfl (WL.mv rfl rfl rfl rfl rfl (WL.mv rfl rfl rfl rfl rfl (WL.mv rfl rfl rfl rfl rfl ?_))))))
      refine WL.val (.int .i64 ((((x + r) : Nat) : Int))) rfl rfl rfl (fun za zC zh zk => addb_3 rfl (zh.ev rfl) (zh.ev rfl) (wrap_eq (by omega) (by omega) (by omega)) zk) ?_
      refine WL.mv rfl rfl rfl rfl rfl ?_
      refine WL.val (.int .i64 (((l.length : Nat) : Int))) rfl rfl rfl (fun za zC zh zk => len_25 rfl (zh.ev rfl) zk) ?_
      have hml := Nat.mod_lt (x + r) (show 0 < l.length by omega)
      refine WL.val (.int .i64 (((x + r) % l.length : Nat) : Int)) rfl rfl rfl (fun za zC zh zk => rem_3 rfl (zh.ev rfl) (zh.ev rfl) (by omega) (by rw [show ((x + r : Nat) : Int).tmod (l.length : Int) = (((x + r) % l.length : Nat) : Int) from by rw [Int.tmod_eq_emod_of_nonneg (by omega)]; omega]; exact zk)) ?_
      refine WL.val _ rfl rfl rfl (fun za zC zh zk => ix_25 (k := ((x + r) % l.length)) rfl (zh.ev rfl) (ha39 (((x + r) % l.length)) (by first | omega | (simp; omega))) (zh.ev rfl) (by first | omega | (simp; omega)) zk) ?_
      refine WL.val _ rfl rfl rfl (fun za zC zh zk => ld_35 rfl (zh.ev rfl) (bkeeps hb48 _ _ (hc40 (((x + r) % l.length)) (by first | omega | (simp; omega))).1) (bkeeps hb48 _ _ (hc40 (((x + r) % l.length)) (by first | omega | (simp; omega))).2.1) zk) ?_
      have hl50 := hB49.lt
      have hBs : w1.heap.size ≤ w47.heap.size := (Nat.le_trans (BkSJ.hg (TwoB.one hk46)).1 (Nat.le_of_lt (BkSJ.hg (TwoB.one hk46)).2))
      refine WL.call rfl rfl rfl (fun za zh zC => wp_call (by kernel_rfl) rfl (hv2 (zh.ev rfl) (zh.ev rfl))) (tPut (tget l (((x + r) % l.length))) _ (fun b => b < w.heap.size) (by omega) (htz _ (by omega)) (fun b q => by omega) hBs (InT.below hb48 (IsT.inT (hc40 (((x + r) % l.length)) (by first | omega | (simp; omega))).2.2)) (TwoB.symm hk46)) ?_
      rintro _ w56 ⟨rfl, ⟨Y51, hY52, hc53⟩, hk54⟩
      have hb57 := chg_below hb48 hc53 (fun b q => hY52 b (by omega))
      have hk55 : TwoB w56 w1.heap.size gk8 gk14 sg (bank1 sg l (x + 1)) (bank2 sg l r (x + 1)) := by have z := TwoB.symm hk54; rw [bank2_succ] at z; exact z
      have hB58 := chg_blk hB49 hc53 (hY52 _ (by omega))
      refine WL.nil (WE.blockNormal (WE.next (WC.region (WL.mv rfl rfl rfl rfl rfl ?_))))
      refine WL.val (.int .i64 ((((x + 1) : Nat) : Int))) rfl rfl rfl (fun za zC zh zk => addb_3 rfl (zh.ev rfl) (zh.ev rfl) (wrap_eq (by omega) (by omega) (by omega)) zk) ?_
      refine WL.asg rfl rfl rfl rfl rfl (WL.nil ?_)
      refine WE.round (x + 1) ⟨rfl, rfl, rfl, rfl, rfl, rfl, rfl, rfl, rfl, rfl, rfl, trivial⟩ ?_ ?_
      ·exact ⟨by omega, ⟨by rw [← bank1_succ (by omega)]; have z := bputI_len (sg := sg) (t := tget l x) hok9.1; omega, by rw [← bank2_succ]; have z := bputI_len (sg := sg) (t := tget l ((x + r) % l.length)) hok9.2; omega⟩, hb57, hB58, hk55⟩
      ·omega
     ·have h34 : ¬ ((((x : Nat) : Int) : Int) < (((l.length : Nat) : Int) : Int)) := by simpa using h34
      refine WC.exit (WE.thenExit (WE.thenExit (WE.blockIs rfl (WE.next (WC.seq (WC.seq ?_))))))
      have hxl : x = l.length := by omega
      have hab59 : TwoB w27 w1.heap.size gk8 gk14 sg (bank1 sg l l.length) (bank2 sg l r l.length) := by have z := ho33; rw [hxl] at z; exact z
      rw [hxl] at hbl
      have halk := alk_rot sg hrl
      have hlen2 := halk.len
      have hok8 := TwoB.ok hab59
      refine WC.region (WL.mv rfl rfl rfl rfl rfl ?_)
      refine WL.call rfl rfl rfl (fun za zh zC => wp_call (by kernel_rfl) rfl (hv1 (zh.ev rfl))) (jLen (BkSJ.below (TwoB.one hab59) (Below.refl _ _))) ?_
      rintro _ w61 ⟨rfl, hq60⟩
      refine WL.mv rfl rfl rfl rfl rfl ?_
      refine WL.call rfl rfl rfl (fun za zh zC => wp_call (by kernel_rfl) rfl (hv1 (zh.ev rfl))) (jLen (BkSJ.below (TwoB.two hab59) hq60)) ?_
      rintro _ w63 ⟨rfl, hq62⟩
      refine WL.val (.bool ((((((bank1 sg l l.length).length : Nat) : Int) : Int) != ((((bank2 sg l r l.length).length : Nat) : Int) : Int)))) rfl rfl rfl (fun za zC zh zk => neq_3 rfl (zh.ev rfl) (zh.ev rfl) zk) ?_
      refine WL.nil (WE.next ?_)
      refine WC.condF rfl (by simp [hlen2]) ?_
      refine WC.skip (WE.next (WC.seq (WC.seq (WC.region (WL.asg rfl rfl rfl rfl rfl (WL.nil (WE.next (WC.block ?_))))))))
      refine WC.loop (X := Nat) (fun y => (bank1 sg l l.length).length - y) (fun y => [(0, .agg #[.slice sa sg.length sc]), (1, .slice a l.length c), (2, .int .i64 (((r : Nat) : Int))), (3, .pointer (some ⟨g2, 0, none⟩)), (7, .pointer (some ⟨gk8, 0, none⟩)), (8, .int .i64 0), (9, .pointer (some ⟨gk14, 0, none⟩)), (10, .int .i64 0), (11, .int .i64 (((x : Nat) : Int))), (12, .int .i64 (((y : Nat) : Int))), (42, .bool (((decide ((30 : Int) < (((l.length : Nat) : Int) : Int))) || ((((l.length : Nat) : Int) : Int) == (0 : Int))))), (57, .bool ((decide ((((x : Nat) : Int) : Int) < (((l.length : Nat) : Int) : Int))))), (81, .bool ((((((bank1 sg l l.length).length : Nat) : Int) : Int) != ((((bank2 sg l r l.length).length : Nat) : Int) : Int))))]) (fun y w64 => y ≤ (bank1 sg l l.length).length ∧ Below w.heap.size w w64 ∧ Blk w64 g2 24 #[.slice sa sg.length sc] ∧ TwoB (w64) w1.heap.size gk8 gk14 sg (bank1 sg l l.length) (bank2 sg l r l.length)) 0 ⟨rfl, rfl, rfl, rfl, rfl, rfl, rfl, rfl, rfl, rfl, rfl, rfl, rfl, trivial⟩ ?_ ?_
      ·have hb65 : Below w.heap.size w w63 := (bstep (bstep hb31 hq60) hq62)
       have hb67 : Below w27.heap.size w27 w63 := (bstep hq60 hq62)
       have hB66 := hB32.below hb67
       have ho68 := hab59.below hb67
       exact ⟨Nat.zero_le _, hb65, hB66, ho68⟩
      ·rintro y w64 ⟨hky, hb69, hB70, ho71⟩
       refine WC.seq (WC.seq (WC.region (WL.mv rfl rfl rfl rfl rfl (WL.mv rfl rfl rfl rfl rfl ?_))))
       refine WL.call rfl rfl rfl (fun za zh zC => wp_call (by kernel_rfl) rfl (hv1 (zh.ev rfl))) (jLen (BkSJ.below (TwoB.one ho71) (Below.refl _ _))) ?_
       rintro _ w73 ⟨rfl, hq72⟩
       refine WL.val (.bool ((decide ((((y : Nat) : Int) : Int) < ((((bank1 sg l l.length).length : Nat) : Int) : Int))))) rfl rfl rfl (fun za zC zh zk => lss_3 rfl (zh.ev rfl) (zh.ev rfl) zk) ?_
       refine WL.nil (WE.next ?_)
       refine WC.cond rfl (fun h74 => ?_) (fun h74 => ?_)
       ·have h74 : (((y : Nat) : Int) : Int) < ((((bank1 sg l l.length).length : Nat) : Int) : Int) := by simpa using h74
        refine WC.skip (WE.next (WC.seq (WC.block (WC.seq (WC.region (WL.mv rfl rfl rfl rfl rfl (WL.mv rfl rfl rfl rfl rfl ?_)))))))
        have hl78 : g2 < w73.heap.size := by have z1 := hB70.lt; have z2 := (hq72).size; omega
        have hb80 : Below w.heap.size w w73 := (bstep hb69 hq72)
        have hl79 : w.heap.size ≤ w73.heap.size := (hb80).size
        refine WL.call rfl rfl rfl (fun za zh zC => wp_call (by kernel_rfl) rfl (hv2 (zh.ev rfl) (zh.ev rfl))) (jGet y (by omega) (by omega) (BkSJ.below (TwoB.one ho71) hq72)) ?_
        rintro _ w81 ⟨⟨u75, rfl, hn76⟩, hb77⟩
        obtain ⟨_, a82, c83, rfl, _, _, _⟩ := hn76.form
        refine WL.mv rfl rfl rfl rfl rfl ?_
        refine WL.val (.agg #[.int .i64 (((tmE (bank1 sg l l.length) y)).f), .slice a82 (((tmE (bank1 sg l l.length) y)).args.length) c83]) rfl rfl rfl (fun za zC zh zk => ext2_0 rfl (zh.ev rfl) zk) ?_
        refine WL.val (.int .i64 0) rfl rfl rfl (fun za zC zh zk => ext2_1 rfl (zh.ev rfl) zk) ?_
        refine WL.step (post := NewBlk w81 35 #[.int .i64 0, .slice none 0 0]) rfl rfl rfl (fun za zC zh zk => alloc_35 rfl (zk _ _ (newBlk _ _ _))) ?_
        rintro _ w84 ⟨g85, rfl, hg86, hB87, hb88, hz89⟩
        have hb90 : Below w64.heap.size w64 w81 := (bstep hq72 hb77)
        have hl91 : g2 < g85 := by have z1 := hB70.lt; have z2 := (hb90).size; omega
        have hb92 : Below w.heap.size w w81 := (bstep hb69 hb90)
        have hl93 : w.heap.size ≤ g85 := by have z2 := (hb92).size; omega
        have hl94 : w64.heap.size ≤ g85 := by have z2 := (hb90).size; omega
        have hl95 : w81.heap.size ≤ g85 := by omega
        refine WL.step (post := fun _ w' => Upd g85 w84 w' ∧ Blk w' g85 35 #[.int .i64 (((tmE (bank1 sg l l.length) y)).f), .slice a82 (((tmE (bank1 sg l l.length) y)).args.length) c83]) rfl rfl rfl (fun za zC zh zk => st_35 rfl (zh.ev rfl) (zh.ev rfl) rfl rfl hB87 (by first | decide | simp) (fun v => zk v _ ⟨(Upd.at_ _ _ _ _).trans (Upd.at_ _ _ _ _), (hB87.set_ 0 _).set_ 1 _⟩)) ?_
        rintro v99 w96 ⟨hu97, hB98⟩
        have hb100 : Below w.heap.size w w84 := (bstep hb92 hb88)
        have hb101 : Below w64.heap.size w64 w84 := (bstep hb90 hb88)
        have hb102 := upd_below hb100 hu97 (by omega)
        have hb103 := upd_below hb101 hu97 (by omega)
        have hb104 := upd_below hb88 hu97 (by omega)
        have hB105 := hB70.below hb101
        have hB106 := upd_blk hB105 hu97 (by omega)
        refine WL.asg rfl rfl rfl rfl rfl (WL.nil (WE.next (WC.seq (WC.region (WL.mv rfl rfl rfl rfl rfl ?_)))))
        refine WL.val _ rfl rfl rfl (fun za zC zh zk => ld_35 rfl (zh.ev rfl) ((hB98.cell 0).trans rfl) ((hB98.cell 1).trans rfl) zk) ?_
        have ho107 := hn76.below hb104
        obtain ⟨j, hj1, hj2, hj3, hj4, hj5⟩ := halk.at_ (i := y) (by omega)
        have hj6 := bfind_gets hj1
        have hty := (hok8.1.at_ (i := y) (by omega)).1
        refine WL.call rfl rfl rfl (fun za zh zC => wp_call (by kernel_rfl) rfl (hv2 (zh.ev rfl) (zh.ev rfl))) ((by have z := jFind (tmE (bank1 sg l l.length) y) _ (by omega) (by omega) (IsT.below (Below.refl _ _) (InT.isT ho107)) (BkSJ.below (TwoB.two ho71) hb103); rw [hj6.1, hj6.2] at z; exact z)) ?_
        rintro _ w109 ⟨rfl, hq108⟩
        refine WL.mv rfl rfl rfl rfl rfl ?_
        refine WL.val (.int .i64 (((j : Nat) : Int))) rfl rfl rfl (fun za zC zh zk => ext2_0 rfl (zh.ev rfl) zk) ?_
        refine WL.val (.bool true) rfl rfl rfl (fun za zC zh zk => ext2_1 rfl (zh.ev rfl) zk) ?_
        refine WL.asg rfl rfl rfl rfl rfl (WL.asg rfl rfl rfl rfl rfl (WL.nil (WE.next (WC.seq (WC.region (WL.mv rfl rfl rfl rfl rfl ?_))))))
        refine WL.val (.bool false) rfl rfl rfl (fun za zC zh zk => wp_not rfl (zh.ev rfl) zk) ?_
        refine WL.mv rfl rfl rfl rfl rfl ?_
        refine WL.want (d := 102) rfl rfl rfl ?_
        refine WL.mv rfl rfl rfl rfl rfl ?_
        refine WL.want (d := 102) rfl rfl rfl ?_
        refine WL.mv rfl rfl rfl rfl rfl ?_
        refine WL.want (d := 102) rfl rfl rfl ?_
        have hb110 : Below w64.heap.size w64 w109 := (bstep hb103 hq108)
        refine WL.call rfl rfl rfl (fun za zh zC => wp_call (by kernel_rfl) rfl (hv2 (zh.ev rfl) (zh.ev rfl))) (jSize y (by omega) (BkSJ.below (TwoB.one ho71) hb110)) ?_
        rintro _ w112 ⟨rfl, hq111⟩
        refine WL.want (d := 102) rfl rfl rfl ?_
        refine WL.mv rfl rfl rfl rfl rfl ?_
        refine WL.want (d := 102) rfl rfl rfl ?_
        refine WL.mv rfl rfl rfl rfl rfl ?_
        refine WL.want (d := 102) rfl rfl rfl ?_
        have hb113 : Below w64.heap.size w64 w112 := (bstep hb110 hq111)
        refine WL.call rfl rfl rfl (fun za zh zC => wp_call (by kernel_rfl) rfl (hv2 (zh.ev rfl) (zh.ev rfl))) (jSize j (by omega) (BkSJ.below (TwoB.two ho71) hb113)) ?_
        rintro _ w115 ⟨rfl, hq114⟩
        refine WL.want (d := 102) rfl rfl rfl ?_
        have hlf109 : ((((((tmE (bank1 sg l l.length) y).size : Nat) : Int) : Int) != ((((tmE (bank2 sg l r l.length) j).size : Nat) : Int) : Int))) = false := by rw [hj3]; simp
        refine WL.val (.bool false) rfl rfl rfl (fun za zC zh zk => neq_3 rfl (zh.ev rfl) (zh.ev rfl) (by rw [hlf109]; exact zk)) ?_
        refine WL.val (.bool false) rfl rfl rfl (fun za zC zh zk => wp_pickF rfl (zh.ev rfl) (zh.ev rfl) zk) ?_
        refine WL.mv rfl rfl rfl rfl rfl ?_
        refine WL.want (d := 111) rfl rfl rfl ?_
        refine WL.mv rfl rfl rfl rfl rfl ?_
        refine WL.want (d := 111) rfl rfl rfl ?_
        refine WL.mv rfl rfl rfl rfl rfl ?_
        refine WL.want (d := 111) rfl rfl rfl ?_
        have hb116 : Below w64.heap.size w64 w115 := (bstep hb113 hq114)
        refine WL.call rfl rfl rfl (fun za zh zC => wp_call (by kernel_rfl) rfl (hv2 (zh.ev rfl) (zh.ev rfl))) (jGround y (by omega) (BkSJ.below (TwoB.one ho71) hb116)) ?_
        rintro _ w118 ⟨rfl, hq117⟩
        refine WL.want (d := 111) rfl rfl rfl ?_
        refine WL.mv rfl rfl rfl rfl rfl ?_
        refine WL.want (d := 111) rfl rfl rfl ?_
        refine WL.mv rfl rfl rfl rfl rfl ?_
        refine WL.want (d := 111) rfl rfl rfl ?_
        have hb119 : Below w64.heap.size w64 w118 := (bstep hb116 hq117)
        refine WL.call rfl rfl rfl (fun za zh zC => wp_call (by kernel_rfl) rfl (hv2 (zh.ev rfl) (zh.ev rfl))) (jGround j (by omega) (BkSJ.below (TwoB.two ho71) hb119)) ?_
        rintro _ w121 ⟨rfl, hq120⟩
        refine WL.want (d := 111) rfl rfl rfl ?_
        have hlf118 : (((tmE (bank1 sg l l.length) y).gnd != (tmE (bank2 sg l r l.length) j).gnd)) = false := by rw [hj3]; simp
        refine WL.val (.bool false) rfl rfl rfl (fun za zC zh zk => neq_4 rfl (zh.ev rfl) (zh.ev rfl) (by rw [hlf118]; exact zk)) ?_
        refine WL.val (.bool false) rfl rfl rfl (fun za zC zh zk => wp_pickF rfl (zh.ev rfl) (zh.ev rfl) zk) ?_
        refine WL.mv rfl rfl rfl rfl rfl ?_
        refine WL.want (d := 120) rfl rfl rfl ?_
        refine WL.mv rfl rfl rfl rfl rfl ?_
        refine WL.want (d := 120) rfl rfl rfl ?_
        refine WL.mv rfl rfl rfl rfl rfl ?_
        refine WL.want (d := 120) rfl rfl rfl ?_
        have hb126 : Below w64.heap.size w64 w121 := (bstep hb119 hq120)
        refine WL.call rfl rfl rfl (fun za zh zC => wp_call (by kernel_rfl) rfl (hv2 (zh.ev rfl) (zh.ev rfl))) (jArgs y (by omega) (by omega) (BkSJ.below (TwoB.one ho71) hb126)) ?_
        rintro _ w127 ⟨⟨ra122, rc123, rfl, hr124⟩, hb125⟩
        refine WL.want (d := 120) rfl rfl rfl ?_
        refine WL.val (.int .i64 ((((eget (bank1 sg l l.length) y).args.length : Nat) : Int))) rfl rfl rfl (fun za zC zh zk => len_31 rfl (zh.ev rfl) zk) ?_
        refine WL.want (d := 120) rfl rfl rfl ?_
        refine WL.mv rfl rfl rfl rfl rfl ?_
        refine WL.want (d := 120) rfl rfl rfl ?_
        refine WL.mv rfl rfl rfl rfl rfl ?_
        refine WL.want (d := 120) rfl rfl rfl ?_
        have hb132 : Below w64.heap.size w64 w127 := (bstep hb126 hb125)
        refine WL.call rfl rfl rfl (fun za zh zC => wp_call (by kernel_rfl) rfl (hv2 (zh.ev rfl) (zh.ev rfl))) (jArgs j (by omega) (by omega) (BkSJ.below (TwoB.two ho71) hb132)) ?_
        rintro _ w133 ⟨⟨ra128, rc129, rfl, hr130⟩, hb131⟩
        refine WL.want (d := 120) rfl rfl rfl ?_
        refine WL.val (.int .i64 ((((eget (bank2 sg l r l.length) j).args.length : Nat) : Int))) rfl rfl rfl (fun za zC zh zk => len_31 rfl (zh.ev rfl) zk) ?_
        refine WL.want (d := 120) rfl rfl rfl ?_
        have hlf129 : ((((((eget (bank1 sg l l.length) y).args.length : Nat) : Int) : Int) != ((((eget (bank2 sg l r l.length) j).args.length : Nat) : Int) : Int))) = false := by rw [hj4]; simp
        refine WL.val (.bool false) rfl rfl rfl (fun za zC zh zk => neq_3 rfl (zh.ev rfl) (zh.ev rfl) (by rw [hlf129]; exact zk)) ?_
        refine WL.val (.bool false) rfl rfl rfl (fun za zC zh zk => wp_pickF rfl (zh.ev rfl) (zh.ev rfl) zk) ?_
        refine WL.mv rfl rfl rfl rfl rfl ?_
        refine WL.want (d := 131) rfl rfl rfl ?_
        refine WL.mv rfl rfl rfl rfl rfl ?_
        refine WL.want (d := 131) rfl rfl rfl ?_
        refine WL.mv rfl rfl rfl rfl rfl ?_
        refine WL.want (d := 131) rfl rfl rfl ?_
        have hb138 : Below w64.heap.size w64 w133 := (bstep hb132 hb131)
        refine WL.call rfl rfl rfl (fun za zh zC => wp_call (by kernel_rfl) rfl (hv3 (zh.ev rfl) (zh.ev rfl) (zh.ev rfl))) ((by have z := jUsers y (-1) (by omega) (by omega) (BkSJ.below (TwoB.one ho71) hb138); rw [usersAll] at z; exact z)) ?_
        rintro _ w139 ⟨⟨ra134, rc135, rfl, hr136⟩, hb137⟩
        refine WL.want (d := 131) rfl rfl rfl ?_
        refine WL.val (.int .i64 ((((usersE (bank1 sg l l.length) y).length : Nat) : Int))) rfl rfl rfl (fun za zC zh zk => len_31 rfl (zh.ev rfl) zk) ?_
        refine WL.want (d := 131) rfl rfl rfl ?_
        refine WL.mv rfl rfl rfl rfl rfl ?_
        refine WL.want (d := 131) rfl rfl rfl ?_
        refine WL.mv rfl rfl rfl rfl rfl ?_
        refine WL.want (d := 131) rfl rfl rfl ?_
        have hb144 : Below w64.heap.size w64 w139 := (bstep hb138 hb137)
        refine WL.call rfl rfl rfl (fun za zh zC => wp_call (by kernel_rfl) rfl (hv3 (zh.ev rfl) (zh.ev rfl) (zh.ev rfl))) ((by have z := jUsers j (-1) (by omega) (by omega) (BkSJ.below (TwoB.two ho71) hb144); rw [usersAll] at z; exact z)) ?_
        rintro _ w145 ⟨⟨ra140, rc141, rfl, hr142⟩, hb143⟩
        refine WL.want (d := 131) rfl rfl rfl ?_
        refine WL.val (.int .i64 ((((usersE (bank2 sg l r l.length) j).length : Nat) : Int))) rfl rfl rfl (fun za zC zh zk => len_31 rfl (zh.ev rfl) zk) ?_
        refine WL.want (d := 131) rfl rfl rfl ?_
        have hlf140 : ((((((usersE (bank1 sg l l.length) y).length : Nat) : Int) : Int) != ((((usersE (bank2 sg l r l.length) j).length : Nat) : Int) : Int))) = false := by rw [hj5]; simp
        refine WL.val (.bool false) rfl rfl rfl (fun za zC zh zk => neq_3 rfl (zh.ev rfl) (zh.ev rfl) (by rw [hlf140]; exact zk)) ?_
        refine WL.val (.bool false) rfl rfl rfl (fun za zC zh zk => wp_pickF rfl (zh.ev rfl) (zh.ev rfl) zk) ?_
        refine WL.nil (WE.sub (K' := [(0, .agg #[.slice sa sg.length sc]), (1, .slice a l.length c), (2, .int .i64 (((r : Nat) : Int))), (3, .pointer (some ⟨g2, 0, none⟩)), (7, .pointer (some ⟨gk8, 0, none⟩)), (8, .int .i64 0), (9, .pointer (some ⟨gk14, 0, none⟩)), (10, .int .i64 0), (11, .int .i64 (((x : Nat) : Int))), (12, .int .i64 (((y : Nat) : Int))), (13, .pointer (some ⟨g85, 0, none⟩)), (15, .int .i64 (((j : Nat) : Int))), (16, .bool true), (42, .bool (((decide ((30 : Int) < (((l.length : Nat) : Int) : Int))) || ((((l.length : Nat) : Int) : Int) == (0 : Int))))), (57, .bool ((decide ((((x : Nat) : Int) : Int) < (((l.length : Nat) : Int) : Int))))), (81, .bool ((((((bank1 sg l l.length).length : Nat) : Int) : Int) != ((((bank2 sg l r l.length).length : Nat) : Int) : Int)))), (85, .bool ((decide ((((y : Nat) : Int) : Int) < ((((bank1 sg l l.length).length : Nat) : Int) : Int))))), (141, .bool false)]) ⟨rfl, rfl, rfl, rfl, rfl, rfl, rfl, rfl, rfl, rfl, rfl, rfl, rfl, rfl, rfl, rfl, rfl, rfl, trivial⟩ ?_)
        refine WE.next ?_
        refine WC.condF rfl rfl ?_
        refine WC.skip (WE.blockNormal (WE.next (WC.region (WL.mv rfl rfl rfl rfl rfl ?_))))
        refine WL.val (.int .i64 ((((y + 1) : Nat) : Int))) rfl rfl rfl (fun za zC zh zk => addb_3 rfl (zh.ev rfl) (zh.ev rfl) (wrap_eq (by omega) (by omega) (by omega)) zk) ?_
        refine WL.asg rfl rfl rfl rfl rfl (WL.nil ?_)
        refine WE.round (y + 1) ⟨rfl, rfl, rfl, rfl, rfl, rfl, rfl, rfl, rfl, rfl, rfl, rfl, rfl, trivial⟩ ?_ ?_
        ·have hb146 : Below w.heap.size w w145 := (bstep (bstep hb69 hb144) hb143)
         have hb148 : Below w96.heap.size w96 w145 := (bstep (bstep (bstep (bstep (bstep (bstep (bstep (bstep hq108 hq111) hq114) hq117) hq120) hb125) hb131) hb137) hb143)
         have hB147 := hB106.below hb148
         have hb150 : Below w64.heap.size w64 w145 := (bstep hb103 hb148)
         have ho149 := ho71.below hb150
         exact ⟨by omega, hb146, hB147, ho149⟩
        ·omega
       ·have h74 : ¬ ((((y : Nat) : Int) : Int) < ((((bank1 sg l l.length).length : Nat) : Int) : Int)) := by simpa using h74
        refine WC.exit (WE.thenExit (WE.thenExit (WE.blockIs rfl (WE.next (WC.seq (WC.region ?_))))))
        refine WL.call rfl rfl rfl (fun za zh zC => wp_call (by kernel_rfl) rfl (hv0)) (wakes_any _) ?_
        rintro _ w152 ⟨rfl, hq151⟩
        refine WL.asg rfl rfl rfl rfl rfl (WL.nil (WE.next (WC.ret (WE.ret1 rfl rfl ?_))))
        have hb153 : Below w.heap.size w w152 := (bstep (bstep hb69 hq72) hq151)
        exact ⟨_, rfl, rfl, hb153⟩
 ·refine WL.call rfl rfl rfl (fun za zh zC => wp_call (by kernel_rfl) rfl (hv1 (zh.ev rfl))) (newN sg _ _ (by omega) (IsSig.below hb5 hst) hck) ?_
  rintro _ w155 ⟨rfl, hq154⟩
  refine WL.mv rfl rfl rfl rfl rfl ?_
  refine WL.val (.pointer none) rfl rfl rfl (fun za zC zh zk => ext2_0 rfl (zh.ev rfl) zk) ?_
  refine WL.val (.int .i64 2) rfl rfl rfl (fun za zC zh zk => ext2_1 rfl (zh.ev rfl) zk) ?_
  refine WL.asg rfl rfl rfl rfl rfl (WL.asg rfl rfl rfl rfl rfl (WL.nil (WE.next (WC.seq (WC.region ?_)))))
  have hB156 := hB4.below hq154
  refine WL.val _ rfl rfl rfl (fun za zC zh zk => ld_24 rfl (zh.ev rfl) ((hB156.cell 0).trans rfl) zk) ?_
  have hb157 : Below w.heap.size w w155 := (bstep hb5 hq154)
  refine WL.call rfl rfl rfl (fun za zh zC => wp_call (by kernel_rfl) rfl (hv1 (zh.ev rfl))) (newN sg _ _ (by omega) (IsSig.below hb157 hst) hck) ?_
  rintro _ w159 ⟨rfl, hq158⟩
  refine WL.mv rfl rfl rfl rfl rfl ?_
  refine WL.val (.pointer none) rfl rfl rfl (fun za zC zh zk => ext2_0 rfl (zh.ev rfl) zk) ?_
  refine WL.val (.int .i64 2) rfl rfl rfl (fun za zC zh zk => ext2_1 rfl (zh.ev rfl) zk) ?_
  refine WL.asg rfl rfl rfl rfl rfl (WL.asg rfl rfl rfl rfl rfl (WL.nil (WE.next (WC.seq (WC.seq ?_)))))
  refine WC.opt [(true, .val (.int .i64 2)), (true, .val (.bool true)), (true, .val (.bool true)), ((true && !true), .val undef), ((true && !true), .val undef), (true, .val (.bool true)), (true, .val (.bool true)), ((true && !true), .val undef), ((true && !true), .val undef), ((true && !true), .val undef), (true, .val (.bool true)), (true, .val (.bool true)), ((true && !true), .val undef), ((true && !true), .val undef), ((true && !true), .val undef), (true, .val (.bool true))] [(0, .agg #[.slice sa sg.length sc]), (1, .slice a l.length c), (2, .int .i64 turn), (3, .pointer (some ⟨g2, 0, none⟩)), (6, .bool false), (7, .pointer none), (8, .int .i64 2), (9, .pointer none), (10, .int .i64 2)] ⟨rfl, rfl, rfl, rfl, rfl, rfl, rfl, rfl, rfl, trivial⟩ (by kernel_rfl) (by kernel_rfl) (by kernel_rfl) ?_ ?_
  ·refine ⟨⟨true, .none rfl, fun h w => optUndef h, fun zβ za zw zc => ?_⟩, ?_⟩
   ·exact wp_move rfl (zc.kn.ev rfl) ⟨_, rfl, Below.refl _ _, optDef zβ rfl⟩
   refine ⟨⟨true, .none rfl, fun h w => optUndef h, fun zβ za zw zc => ?_⟩, ?_⟩
   ·exact neq_27 rfl ((evt za 27).trans (optVal (zc.dep 0 27 (by kernel_rfl)) rfl rfl)) (zc.kn.ev rfl) ⟨_, rfl, Below.refl _ _, optDef zβ rfl⟩
   refine ⟨⟨true, .none rfl, fun h w => optUndef h, fun zβ za zw zc => ?_⟩, ?_⟩
   ·exact wp_move rfl ((evt za 28).trans (optVal (zc.dep 1 28 (by kernel_rfl)) rfl rfl)) ⟨_, rfl, Below.refl _ _, optDef zβ rfl⟩
   refine ⟨⟨(true && !true), .no (c := true) (d := true) rfl (fun v w h => h), fun h w => optUndef h, fun zβ za zw zc => ?_⟩, ?_⟩
   ·simp at zβ
   refine ⟨⟨(true && !true), .no (c := true) (d := true) rfl (fun v w h => h), fun h w => optUndef h, fun zβ za zw zc => ?_⟩, ?_⟩
   ·simp at zβ
   refine ⟨⟨true, .none rfl, fun h w => optUndef h, fun zβ za zw zc => ?_⟩, ?_⟩
   ·exact wp_pickT rfl ((evt za 29).trans (optVal (zc.dep 2 29 (by kernel_rfl)) rfl rfl)) (zc.kn.ev rfl) ⟨_, rfl, Below.refl _ _, optDef zβ rfl⟩
   refine ⟨⟨true, .none rfl, fun h w => optUndef h, fun zβ za zw zc => ?_⟩, ?_⟩
   ·exact wp_move rfl ((evt za 32).trans (optVal (zc.dep 5 32 (by kernel_rfl)) rfl rfl)) ⟨_, rfl, Below.refl _ _, optDef zβ rfl⟩
   refine ⟨⟨(true && !true), .no (c := true) (d := true) rfl (fun v w h => h), fun h w => optUndef h, fun zβ za zw zc => ?_⟩, ?_⟩
   ·simp at zβ
   refine ⟨⟨(true && !true), .no (c := true) (d := true) rfl (fun v w h => h), fun h w => optUndef h, fun zβ za zw zc => ?_⟩, ?_⟩
   ·simp at zβ
   refine ⟨⟨(true && !true), .no (c := true) (d := true) rfl (fun v w h => h), fun h w => optUndef h, fun zβ za zw zc => ?_⟩, ?_⟩
   ·simp at zβ
   refine ⟨⟨true, .none rfl, fun h w => optUndef h, fun zβ za zw zc => ?_⟩, ?_⟩
   ·exact wp_pickT rfl ((evt za 33).trans (optVal (zc.dep 6 33 (by kernel_rfl)) rfl rfl)) (zc.kn.ev rfl) ⟨_, rfl, Below.refl _ _, optDef zβ rfl⟩
   refine ⟨⟨true, .none rfl, fun h w => optUndef h, fun zβ za zw zc => ?_⟩, ?_⟩
   ·exact wp_move rfl ((evt za 37).trans (optVal (zc.dep 10 37 (by kernel_rfl)) rfl rfl)) ⟨_, rfl, Below.refl _ _, optDef zβ rfl⟩
   refine ⟨⟨(true && !true), .no (c := true) (d := true) rfl (fun v w h => h), fun h w => optUndef h, fun zβ za zw zc => ?_⟩, ?_⟩
   ·simp at zβ
   refine ⟨⟨(true && !true), .no (c := true) (d := true) rfl (fun v w h => h), fun h w => optUndef h, fun zβ za zw zc => ?_⟩, ?_⟩
   ·simp at zβ
   refine ⟨⟨(true && !true), .no (c := true) (d := true) rfl (fun v w h => h), fun h w => optUndef h, fun zβ za zw zc => ?_⟩, ?_⟩
   ·simp at zβ
   refine ⟨⟨true, .none rfl, fun h w => optUndef h, fun zβ za zw zc => ?_⟩, ?_⟩
   ·exact wp_pickT rfl ((evt za 38).trans (optVal (zc.dep 11 38 (by kernel_rfl)) rfl rfl)) (zc.kn.ev rfl) ⟨_, rfl, Below.refl _ _, optDef zβ rfl⟩
   exact trivial
  ·intro za w160 zh hb161 zu
   have zh := zh.cons (d := 42) (v := .bool true) (optVal (zu 15 42 (by kernel_rfl)) rfl rfl)
   clear zu
   refine WE.go zh ?_
   refine WE.next ?_
   refine WC.condT rfl rfl ?_
   refine WC.seq (WC.region ?_)
   refine WL.call rfl rfl rfl (fun za zh zC => wp_call (by kernel_rfl) rfl (hv0)) (wakes_any _) ?_
   rintro _ w163 ⟨rfl, hq162⟩
   refine WL.asg rfl rfl rfl rfl rfl (WL.nil (WE.next (WC.ret (WE.thenRet (WE.ret1 rfl rfl ?_)))))
   have hb164 : Below w.heap.size w w163 := (bstep (bstep (bstep hb157 hq158) hb161) hq162)
   exact ⟨_, rfl, rfl, hb164⟩
end Go.Proofs.Ytbohlpfndiiimaa

/- What a law's statement asks behind its call, where the call answers true and leaves all that was there as it was. -/
namespace Go.Proofs.Ytbohlpfndiiimaa
open Go.ChangeShapes Go.WideShapes Go.ChangeAt Go.RowKit
section
variable {H : Type} {enc : TypeId × Value → H} {P : Program}
theorem trodAll_below (hl : laidOutB P = true) {W W' : World} (hb : Below W.heap.size W W') : ∀ {ts : List TypeId} {vs : List Value} {ds : List (DataW H)} {ps : List MemPlace},
    (∀ t ∈ ts, P.readableRec t = true ∧ t < P.types.size) → (∀ x ∈ ps, x.block < W.heap.size) → DataW.TrodAll enc P W 0 (fun _ => true) true ts vs ds ps →
    DataW.TrodAll enc P W' 0 (fun b => decide (b < W.heap.size)) true ts vs ds ps
  | [], [], [], _, _, _, h => h
  | t :: ts, v :: vs, d :: ds, ps, hr, hlt, ⟨p, q, h1, h2, e⟩ => by
    subst e
    exact ⟨p, q, Below.trod hl (hr t (by simp)).1 (hr t (by simp)).2 h1 hb (fun x hx => hlt x (by simp [hx])), trodAll_below hl hb (fun t ht => hr t (by simp [ht])) (fun x hx => hlt x (by simp [hx])) h2, rfl⟩
  | [], _ :: _, _, _, _, _, h => h.elim
  | [], [], _ :: _, _, _, _, h => h.elim
  | _ :: _, [], _, _, _, _, h => h.elim
  | _ :: _, _ :: _, [], _, _, _, h => h.elim
theorem law_post {f : Func} {s : ChangeSpec} {W W' : World} {args : Array Value} {ds gs : List (DataW H)} {before : List MemPlace} {tb : TypeId} (hl : laidOutB P = true) (hr : ∀ t ∈ f.params.toList, P.readableRec t = true ∧ t < P.types.size)
    (htb : P.underlying tb = some .bool) (hrt : f.resultTypes = #[tb]) (hv : s.vars = []) (hs : s.fn H ds = { results := [.lit (.bool true)], args := ds })
    (hW : DataW.Whole enc P f.params.toList s.vars false W args.toList ds gs before) (hb : Below W.heap.size W W') : s.post enc P f false true false false W args (.bool true) W' := by
  have hlt : ∀ p ∈ before, p.block < W.heap.size := fun p hp => hW.lt p hp
  have hW0 := hW
  obtain ⟨p, q, hA, hV, hpq, _, _⟩ := hW
  rw [hv] at hV
  obtain ⟨rfl, rfl⟩ := trodVars_none hV
  refine ⟨ds, [], before, [], p, [], hW0, ?_, ?_, ?_, hb.frame _, fun h => by cases h⟩
  · rw [List.append_nil, hs, hrt]
    exact trodAll_cons_mk (shut_bool htb _) trodAll_mk0
  · rw [List.append_nil, hs]
    refine trodAll_below hl hb hr (fun x hx => hlt x ?_) hA
    rw [hpq]; simp [hx]
  · rw [List.append_nil, hv]
    have : (s.fn H ds).vars = [] := by rw [hs]
    rw [this]
    rfl
end
end Go.Proofs.Ytbohlpfndiiimaa

/- Arguments of a law, opened: terms, integers, truth values; rows in general. -/
namespace Go.Proofs.Ytbohlpfndiiimaa
open Go.ChangeShapes Go.WideShapes Go.ChangeAt Go.RowKit
theorem own : ownKnob Try.prog.godebug = none := by kernel_rfl
theorem one_le_bulk {H : Type} (d : DataW H) : 1 ≤ Rows.uptoBulk d := by
  cases d with
  | lit l => cases l <;> simp [Rows.uptoBulk]
  | _ => simp [Rows.uptoBulk]
theorem len_le_bulk {H : Type} (ds : List (DataW H)) : ds.length ≤ Rows.uptoBulkAll ds := by
  induction ds with
  | nil => simp
  | cons d r ih => have := one_le_bulk d; simp only [List.length_cons, Rows.uptoBulkAll]; omega
theorem readable_all {P : Program} {ts : List TypeId} (h : (ts.all fun t => P.readableRec t && Nat.blt t P.types.size) = true) : ∀ t ∈ ts, P.readableRec t = true ∧ t < P.types.size := by
  intro t ht
  have := List.all_eq_true.1 h t ht
  simp only [Bool.and_eq_true, Nat.blt_eq] at this
  exact this
theorem bulk_mem {H : Type} {l : List (DataW H)} (hk : Rows.uptoSmall H l = true) {d : DataW H} (h : d ∈ l) : Rows.uptoBulk d ≤ 1048576 :=
  Nat.le_trans (bulkAll_le h) (of_decide_eq_true hk)
section
variable {H : Type} {enc : TypeId × Value → H} {w : World} {base : Nat} {spare : Nat → Bool} {held : Bool}
set_option maxRecDepth 100000 in
theorem arg_int {r : Reach} {b : Nat} {v : Value} {d : DataW H} {p : List MemPlace} (h : Value.okWide Try.prog w r b 3 v) (ht : DataW.Trod enc Try.prog w base spare held 3 v d p) :
    ∃ n : Int, v = .int .i64 n ∧ I64 n := by
  obtain ⟨n, rfl⟩ := okWide_int Try.underlying3 h
  obtain ⟨fuel, hf⟩ := ht
  obtain ⟨m, e, _, wf⟩ := DataW.trod_int Try.underlying3 hf
  have e' : (.int .i64 n : Value) = .int .i64 m := by simpa [Value.cells] using e
  simp only [Value.int.injEq, true_and] at e'
  exact ⟨n, rfl, by rw [e']; exact i64_wf wf⟩
end
end Go.Proofs.Ytbohlpfndiiimaa

namespace Go.Proofs.Ytbohlpfndiiimaa
open Go.ChangeShapes Go.WideShapes Go.ChangeAt Go.RowKit
local instance : Inhabited T := ⟨.mk 0 []⟩
section
variable {H : Type} {enc : TypeId × Value → H} {w : World} {base : Nat} {spare : Nat → Bool} {held : Bool}
set_option maxRecDepth 100000 in
theorem open_SysN (fuel : Nat) (cs : List Value) (x : DataW H × List MemPlace) (h : DataW.trod enc Try.prog w base spare held fuel 22 cs = some x) :
    ∃ (l : List Sy) (a : Option Addr) (cap : Nat), cs = [.slice a l.length cap] ∧ l.length ≤ cap ∧ cap ≤ maxLen ∧ IsSys w l a ∧ l.length ≤ Rows.uptoBulk x.1 := by
  obtain ⟨l, a, cap, ds, sp, rfl, h1, h2, h3, h4, h5, _⟩ := open_row Try.underlying22 (k := 3) (by kernel_rfl) (by omega) h (R := IsSy) (S := fun _ _ => True) (fun n cs x hx => by
    obtain ⟨y, hy⟩ := open_Sy _ _ _ hx
    exact ⟨y, hy, trivial⟩)
  refine ⟨l, a, cap, rfl, h1, h2, h3, ?_⟩
  rcases h5 with ⟨_, rfl, _⟩ | e
  · simp
  · have := len_le_bulk ds
    rw [e]; simp only [Rows.uptoBulk]; omega
set_option maxRecDepth 100000 in
theorem arg_Sig {r : Reach} {b : Nat} {v : Value} {d : DataW H} {p : List MemPlace} (h : Value.okWide Try.prog w r b 24 v) (ht : DataW.Trod enc Try.prog w base spare held 24 v d p) :
    ∃ l : List Sy, IsSig w l v ∧ l.length ≤ Rows.uptoBulk d := by
  have hC : Try.prog.cellsOf 24 = 1 := by kernel_rfl
  have hC1 : Try.prog.cellsOf 22 = 1 := by kernel_rfl
  obtain ⟨cs, rfl, _⟩ := okWide_struct Try.underlying24 h
  obtain ⟨fuel, hf⟩ := ht
  obtain ⟨xs, n, rfl, hx, hl, hlen, hf⟩ := DataW.trod_struct Try.underlying24 hf
  rw [hC] at hl
  match xs, hlen, hx with
  | [y0], _, hx =>
    have hl' : cs.toList.length = 1 := hl
    match e : cs.toList, hl' with
    | [c0], _ =>
      have hcs : cs = #[c0] := by apply Array.toList_inj.1; exact e
      subst hcs
      have g0 : DataW.trod enc Try.prog w base spare held n 22 [c0] = some y0 := by simpa [hC1, Value.cells] using hf 0 _ rfl
      obtain ⟨l, a, cap, e, h1, h2, h3, h4⟩ := open_SysN _ _ _ g0
      simp only [List.cons.injEq, and_true] at e
      subst e
      refine ⟨l, ⟨a, cap, rfl, h1, h2, h3⟩, ?_⟩
      have hd : d = .agg [y0.1] := congrArg Prod.fst hx
      rw [hd]; simp only [Rows.uptoBulk, Rows.uptoBulkAll]; omega
set_option maxRecDepth 100000 in
theorem open_Ts (fuel : Nat) (cs : List Value) (x : DataW H × List MemPlace) (h : DataW.trod enc Try.prog w base spare held fuel 25 cs = some x) :
    ∃ (l : List T) (a : Option Addr) (c : Nat), cs = [.slice a l.length c] ∧ l.length ≤ c ∧ c ≤ maxLen ∧ IsTs w l a 0 ∧ T.sizeL l ≤ Rows.uptoBulk x.1 := by
  obtain ⟨l, a, c, ds, sp, rfl, h1, h2, h3, h4, h5, h6⟩ := open_row Try.underlying25 (k := 2) (by kernel_rfl) (by omega) h (R := fun w t cs => ∃ u v, cs = [u, v] ∧ IsT w t (.agg #[u, v])) (S := fun t d => t.size ≤ Rows.uptoBulk d) (fun n cs x hx => by
    obtain ⟨t, u, v, h1, h2, h3⟩ := open_T _ _ _ hx
    exact ⟨t, ⟨u, v, h1, h2⟩, h3⟩)
  refine ⟨l, a, c, rfl, h1, h2, IsTs.of_at fun k hk => ?_, ?_⟩
  · obtain ⟨b, o, cs, e1, _, e3, u, v, rfl, e4⟩ := h3 k hk
    have c0 := e3 0 (by omega)
    have c1 := e3 1 (by omega)
    simp only [List.getElem?_cons_zero, List.getElem?_cons_succ, Nat.add_zero] at c0 c1
    exact ⟨b, o, u, v, e1, (by first | exact c0 | simpa using c0), (by first | exact c1 | simpa using c1), e4⟩
  · have := sizeL_le_bulk h4.symm h6
    rcases h5 with ⟨_, rfl, _⟩ | e
    · simp [T.sizeL]
    · rw [e]
      simp only [Rows.uptoBulk]
      omega
set_option maxRecDepth 100000 in
theorem arg_Ts {r : Reach} {b : Nat} {v : Value} {d : DataW H} {p : List MemPlace} (h : Value.okWide Try.prog w r b 25 v) (ht : DataW.Trod enc Try.prog w base spare held 25 v d p) :
    ∃ (l : List T) (a : Option Addr) (c : Nat), v = .slice a l.length c ∧ l.length ≤ c ∧ c ≤ maxLen ∧ IsTs w l a 0 ∧ T.sizeL l ≤ Rows.uptoBulk d := by
  obtain ⟨a, n, c, rfl⟩ := okWide_slice Try.underlying25 h
  obtain ⟨fuel, hf⟩ := ht
  obtain ⟨l, a', c', e, h1, h2, h3, h4⟩ := open_Ts _ _ _ hf
  have e' : Value.slice a n c = .slice a' l.length c' := by simpa [Value.cells] using e
  exact ⟨l, a', c', e', h1, h2, h3, h4⟩
end
end Go.Proofs.Ytbohlpfndiiimaa
