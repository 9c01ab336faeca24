/- Terms compared and found the same: the document's way. -/
import Derived.Test.YtbohlpfndiiimaaBKPg
import Derived.Test.YtbohlpfndiiimaaBKPa
import Derived.Test.YtbohlpfndiiimaaBKPb
import Derived.Test.YtbohlpfndiiimaaBKPf

/- A term is put at a place in another one: the program and the document. -/
namespace Go.Proofs.Ytbohlpfndiiimaa
open Go.RowKit Go
set_option linter.unusedVariables false
set_option linter.unusedSimpArgs false
/-- What stands where something else is put. -/
def T.putAt (s : T) : List Int → T → Option T
 | [], _ => some s
 | p :: r, .mk f l => if p < 0 ∨ (l.length : Int) ≤ p then none else (T.putAt s r (tget l p.toNat)).map fun x => .mk f (l.set p.toNat x)
/-- Numbers in memory. -/
def PIs (w : World) (p : List Int) (a : Option Addr) (c : Nat) : Prop := p.length ≤ c ∧ ∃ b o : Nat, (∀ k, k < p.length → a = some ⟨b, o, none⟩) ∧ ∀ k, k < p.length → w.cell? ⟨b, o + k, none⟩ = some (.int .i64 (p.getD k 0))
theorem PIs.below {w w' : World} {p : List Int} {a : Option Addr} {c : Nat} (h : PIs w p a c) (hb : Below w.heap.size w w') : PIs w' p a c := by
 obtain ⟨h0, b, o, h1, h2⟩ := h
 exact ⟨h0, b, o, h1, fun k hk => bkeeps hb _ _ (h2 k hk)⟩
theorem PIs.tail {w : World} {x : Int} {p : List Int} {a : Option Addr} {c : Nat} (h : PIs w (x :: p) a c) : PIs w p (slA a 1 1 c) (c - 1) := by
 obtain ⟨h0, b, o, h1, h2⟩ := h
 simp only [List.length_cons] at h0 h1 h2
 refine ⟨by omega, b, o + 1, fun k hk => ?_, fun k hk => ?_⟩
 ·rw [h1 0 (by omega), slA_some (by omega)]
 ·have z := h2 (k + 1) (by omega)
  rw [show o + 1 + k = o + (k + 1) by omega, z]; simp
theorem PIs.hd {w : World} {x : Int} {p : List Int} {a : Option Addr} {c : Nat} (h : PIs w (x :: p) a c) : ∃ b o : Nat, a = some ⟨b, o, none⟩ ∧ w.cell? ⟨b, o, none⟩ = some (.int .i64 x) := by
 obtain ⟨h0, b, o, h1, h2⟩ := h
 exact ⟨b, o, h1 0 (by simp), by have z := h2 0 (by simp); simpa using z⟩
section
variable {w w' : World} {B e n : Nat} {a : Option Addr} {c : Nat} {l : List T}
theorem RowE.rowD {α : Type} {E : Elt α} {l : List α} (h : RowE E w B e a c n l) : RowD E (fun b => B ≤ b ∧ obk a n c ≠ some b) w e a c n l ∧ ∀ b, obk a n c = some b → B ≤ b := by
 obtain ⟨⟨xs, h1, h2⟩, h3⟩ := h
 exact ⟨⟨⟨xs, (Own.of h1).1, h2⟩, h3, fun b q => q.2⟩, fun b q => (h1.lt b q).1⟩
theorem MRow.rowD {g : Nat} {D : List Value} (h : MRow eltT w B g e n D l) (hl : l.length = n) (hm : n ≤ maxLen) : RowD eltT (fun b => B ≤ b ∧ obk (some ⟨g, 0, none⟩) n n ≠ some b) w e (some ⟨g, 0, none⟩) n n l := by
 obtain ⟨⟨xs, h1, h2⟩, h3, h4, h5⟩ := h
 have hx := h2.len
 have e2 : eltT.k = 2 := rfl
 rw [e2] at hx h3
 have hd : D.drop xs.length = [] := List.drop_of_length_le (by omega)
 rw [hd, List.append_nil] at h1
 refine ⟨⟨xs, ⟨by rw [e2, hx, hl], .inr ⟨g, n, xs.toArray, rfl, Nat.zero_le _, h1, Nat.le_refl _, hm, by simp [e2, hx, hl], ?_⟩⟩, h2.mono (fun b hb _ => ⟨hb.1, fun q => hb.2 ?_⟩)⟩, hl.symm, fun b q => q.2⟩
 ·rw [e2]; simp only [List.take_of_length_le (show xs.length ≤ n * 2 by omega)]
 ·simpa [obk, Value.ownBlock] using q.symm
theorem Elts.setT {S : Nat → Prop} {x : T} {u v : Value} (hx : InT S w x (.agg #[u, v])) : ∀ {l : List T} {xs : List Value} {i : Nat} (hi : i < l.length), Elts eltT S w l xs → Elts eltT S w (l.set i x) ((xs.set (i * 2) u).set (i * 2 + 1) v)
 | [], _, i, hi, _ => by simp at hi
 | y :: l, _, 0, hi, ⟨cs, r, e, h1, h2⟩ => by
  have hl := eltT.len h1
  have e2 : eltT.k = 2 := rfl
  rw [e2] at hl
  match cs, hl with
  | [c0, c1], _ => exact ⟨[u, v], r, by rw [e]; rfl, ⟨u, v, rfl, hx⟩, h2⟩
 | y :: l, _, i + 1, hi, ⟨cs, r, e, h1, h2⟩ => by
  have hl := eltT.len h1
  have e2 : eltT.k = 2 := rfl
  rw [e2] at hl
  refine ⟨cs, (r.set (i * 2) u).set (i * 2 + 1) v, ?_, h1, Elts.setT hx (by simpa using hi) h2⟩
  rw [e, List.set_append, if_neg (by omega), List.set_append, if_neg (by omega), hl, show (i + 1) * 2 - 2 = i * 2 by omega, show (i + 1) * 2 + 1 - 2 = i * 2 + 1 by omega]
theorem RowD.blkT {S : Nat → Prop} (h : RowD eltT S w e a c n l) (hn : 0 < n) : ∃ (g : Nat) (cs : Array Value), a = some ⟨g, 0, none⟩ ∧ obk a n c = some g ∧ Blk w g e cs ∧ ∀ i, i < n → 0 + i * 2 + 1 < cs.size := by
 obtain ⟨⟨xs, h1, h2⟩, h3, h4⟩ := h
 rcases h1.2 with ⟨e1, _⟩ | ⟨g, cap, cur, e1, _, hb, hc, hm, hs, hx⟩
 ·simp only [Value.slice.injEq] at e1; omega
 ·have e2 := e1
  simp only [Value.slice.injEq, true_and] at e2
  obtain ⟨rfl, rfl⟩ := e2
  have e3 : eltT.k = 2 := rfl
  rw [e3] at hs
  exact ⟨g, cur, rfl, rfl, hb, fun i hi => by omega⟩
/-- An element is written over. -/
theorem RowD.setT {S : Nat → Prop} {g i : Nat} {x : T} {u v : Value} (h : RowD eltT S w e (some ⟨g, 0, none⟩) c n l) (hi : i < n) (hx : InT S w x (.agg #[u, v])) : RowD eltT S ((w.setCell ⟨g, 0 + i * 2, none⟩ u).setCell ⟨g, 0 + i * 2 + 1, none⟩ v) e (some ⟨g, 0, none⟩) c n (l.set i x) := by
 obtain ⟨⟨xs, h1, h2⟩, rfl, h4⟩ := h
 have hu : Upd g w ((w.setCell ⟨g, 0 + i * 2, none⟩ u).setCell ⟨g, 0 + i * 2 + 1, none⟩ v) := (Upd.at_ _ _ _ _).trans (Upd.at_ _ _ _ _)
 rcases h1.2 with ⟨e1, _⟩ | ⟨g', cap, cur, e1, _, hb, hc, hm, hs, hxs⟩
 ·simp only [Value.slice.injEq] at e1; omega
 ·have e2 := e1
  simp only [Value.slice.injEq, true_and, Option.some.injEq, Addr.mk.injEq, and_true] at e2
  obtain ⟨rfl, rfl⟩ := e2
  have e3 : eltT.k = 2 := rfl
  have hB2 := (Blk.set_ (show Blk w g e cur from hb) (0 + i * 2) u).set_ (0 + i * 2 + 1) v
  refine ⟨⟨(xs.set (i * 2) u).set (i * 2 + 1) v, ⟨?_, .inr ⟨g, c, (cur.setIfInBounds (0 + i * 2) u).setIfInBounds (0 + i * 2 + 1) v, rfl, Nat.zero_le _, hB2, by simpa using hc, hm, by simpa using hs, ?_⟩⟩, ?_⟩, by simp, h4⟩
  ·have := h1.1; simpa using this
  ·rw [Nat.zero_add]; simp only [Array.toList_setIfInBounds, List.take_set, hxs, List.length_set]
  ·refine Elts.keep (w := w) (fun p y hp hy => ?_) (Elts.setT hx hi h2)
   have hne : p.block ≠ g := fun q => h4 _ hp (by rw [q]; rfl)
   unfold World.cell? at hy ⊢
   rw [hu.block _ hne]; exact hy
end
set_option maxRecDepth 100000 in
theorem rcopyD_any (t : T) (w : World) (v : Value) (hz : t.size ≤ 4294967296) (hv : IsT w t v) : Calls Try.prog 20 #[v] w (Ret fun v' w' => (∃ ra rc, v' = .agg #[.int .i64 t.f, .slice ra t.args.length rc] ∧ t.args.length ≤ rc ∧ rc ≤ maxLen ∧ RowD eltT (fun b => w.heap.size ≤ b ∧ obk ra t.args.length rc ≠ some b) w' 35 ra rc t.args.length t.args ∧ ∀ b, obk ra t.args.length rc = some b → w.heap.size ≤ b) ∧ Below w.heap.size w w') := by
 match t, hz, hv with
 | .mk f l, hz, hv =>
 have hlen := len_le_sizeL l
 have hz' := hz
 simp only [T.size] at hz'
 obtain ⟨hf, a, c, rfl, hc, hm, hl⟩ := hv
 simp only [T.f_mk, T.args_mk]
 refine Calls.walk (l := [.agg #[.int .i64 f, .slice a l.length c]]) Try.func20 rfl (by kernel_rfl) ?_
 refine WC.sub (K' := [(0, .agg #[.int .i64 f, .slice a l.length c])]) ⟨rfl, trivial⟩ ?_
 refine WC.seq (WC.region ?_)
 refine WL.step (post := NewBlk w 35 #[.int .i64 f, .slice a l.length c]) rfl rfl rfl (fun za zC zh zk => box_35 rfl (zh.ev rfl) (zk _ _ (newBlk _ _ _))) ?_
 rintro _ w1 ⟨g2, rfl, hg3, hB4, hb5, hz6⟩
 have hl7 : w.heap.size ≤ g2 := by omega
 refine WL.step (post := NewBlk w1 35 #[.int .i64 0, .slice none 0 0]) rfl rfl rfl (fun za zC zh zk => alloc_35 rfl (zk _ _ (newBlk _ _ _))) ?_
 rintro _ w8 ⟨g9, rfl, hg10, hB11, hb12, hz13⟩
 have hl14 : g2 < g9 := by have z1 := hB4.lt; omega
 have hl15 : w.heap.size ≤ g9 := by have z2 := (hb5).size; omega
 refine WL.nil (WE.next (WC.seq (WC.region ?_)))
 refine WL.val _ rfl rfl rfl (fun za zC zh zk => fld_35_0 rfl (zh.ev rfl) zk) ?_
 have hB16 := hB4.below hb12
 refine WL.val _ rfl rfl rfl (fun za zC zh zk => ld_3 rfl (zh.ev rfl) ((hB16.cell 0).trans rfl) zk) ?_
 refine WL.val (.agg #[.int .i64 f, .slice none 0 0]) rfl rfl rfl (fun za zC zh zk => build_35_0 rfl (zh.ev rfl) zk) ?_
 refine WL.step (post := NewBlk w8 35 #[.int .i64 0, .slice none 0 0]) rfl rfl rfl (fun za zC zh zk => alloc_35 rfl (zk _ _ (newBlk _ _ _))) ?_
 rintro _ w17 ⟨g18, rfl, hg19, hB20, hb21, hz22⟩
 have hl23 : g2 < g18 := by have z1 := hB16.lt; omega
 have hl24 : g9 < g18 := by have z1 := hB11.lt; omega
 have hb25 : Below w.heap.size w w8 := (bstep hb5 hb12)
 have hl26 : w.heap.size ≤ g18 := by have z2 := (hb25).size; omega
 refine WL.step (post := fun _ w' => Upd g18 w17 w' ∧ Blk w' g18 35 #[.int .i64 f, .slice none 0 0]) rfl rfl rfl (fun za zC zh zk => st_35 rfl (zh.ev rfl) (zh.ev rfl) rfl rfl hB20 (by first | decide | simp) (fun v => zk v _ ⟨(Upd.at_ _ _ _ _).trans (Upd.at_ _ _ _ _), (hB20.set_ 0 _).set_ 1 _⟩)) ?_
 rintro v30 w27 ⟨hu28, hB29⟩
 have hb31 : Below w.heap.size w w17 := (bstep hb25 hb21)
 have hb32 := upd_below hb31 hu28 (by omega)
 have hB33 := hB16.below hb21
 have hB34 := upd_blk hB33 hu28 (by omega)
 have hB35 := hB11.below hb21
 have hB36 := upd_blk hB35 hu28 (by omega)
 refine WL.nil (WE.next (WC.seq (WC.seq (WC.region (WL.asg rfl rfl rfl rfl rfl (WL.nil (WE.next (WC.block ?_))))))))
 have hl37 : g2 < w27.heap.size := by have z1 := hB34.lt; omega
 have hl38 : g9 < w27.heap.size := by have z1 := hB36.lt; omega
 have hl39 : g18 < w27.heap.size := by have z1 := hB29.lt; omega
 have hl40 : w.heap.size ≤ w27.heap.size := (hb32).size
 have hR41 : RowE eltT w27 w27.heap.size 35 none 0 0 [] := RowE.nil
 refine WC.loop (X := Option Addr × Nat × Nat) (fun x => l.length - x.2.2) (fun x => [(0, .agg #[.int .i64 f, .slice a l.length c]), (1, .pointer (some ⟨g2, 0, none⟩)), (2, .pointer (some ⟨g9, 0, none⟩)), (3, .pointer (some ⟨g18, 0, none⟩)), (4, .int .i64 (((x.2.2 : Nat) : Int)))]) (fun x w42 => x.2.2 ≤ l.length ∧ w27.heap.size ≤ (w42).heap.size ∧ Below w.heap.size w w42 ∧ Blk w42 g2 35 #[.int .i64 f, .slice a l.length c] ∧ Blk w42 g9 35 #[.int .i64 0, .slice none 0 0] ∧ Blk w42 g18 35 #[.int .i64 f, .slice x.1 x.2.2 x.2.1] ∧ RowE eltT (w42) w27.heap.size 35 x.1 x.2.1 x.2.2 (l.take x.2.2)) ((none, 0, 0)) ⟨rfl, rfl, rfl, rfl, rfl, trivial⟩ ?_ ?_
 ·exact ⟨Nat.zero_le _, Nat.le_refl _, hb32, hB34, hB36, hB29, (by simpa using hR41)⟩
 ·rintro x w42 ⟨hk, hBw, hb43, hB44, hB45, hB46, ho47⟩
  refine WC.seq (WC.seq (WC.region (WL.mv rfl rfl rfl rfl rfl ?_)))
  refine WL.val _ rfl rfl rfl (fun za zC zh zk => fld_35_1 rfl (zh.ev rfl) zk) ?_
  refine WL.val _ rfl rfl rfl (fun za zC zh zk => ld_25 rfl (zh.ev rfl) ((hB44.cell 1).trans rfl) zk) ?_
  refine WL.val (.int .i64 (((l.length : Nat) : Int))) rfl rfl rfl (fun za zC zh zk => len_25 rfl (zh.ev rfl) zk) ?_
  refine WL.val (.bool ((decide ((((x.2.2 : Nat) : Int) : Int) < (((l.length : Nat) : Int) : Int))))) rfl rfl rfl (fun za zC zh zk => lss_3 rfl (zh.ev rfl) (zh.ev rfl) zk) ?_
  refine WL.nil (WE.next ?_)
  refine WC.cond rfl (fun h48 => ?_) (fun h48 => ?_)
  ·have h48 : (((x.2.2 : Nat) : Int) : Int) < (((l.length : Nat) : Int) : Int) := by simpa using h48
   refine WC.skip (WE.next (WC.seq (WC.block ?_)))
   obtain ⟨b49, o50, A51, C52, ha53, hc54⟩ := IsTs.open hl
   have hSlt : ∀ b, (fun b => b = g18 ∨ (Value.slice x.1 x.2.2 x.2.1).ownBlock = some b) b → b < w42.heap.size := fun b h => h.elim (fun e => e ▸ hB46.lt) (fun h => (ho47.lt b h).2)
   have hSlo : ∀ b, (fun b => b = g18 ∨ (Value.slice x.1 x.2.2 x.2.1).ownBlock = some b) b → b = g18 ∨ (w27.heap.size ≤ b ∧ b < w42.heap.size) := fun b h => h.imp id (fun h => ho47.lt b h)
   have hBW : w27.heap.size ≤ w42.heap.size := by have z1 := hBw; omega
   have hlL : x.2.2 = ((l.take x.2.2)).length := ho47.len
   refine WC.tail2 (S := ((fun b => b = g18 ∨ (Value.slice x.1 x.2.2 x.2.1).ownBlock = some b))) [(true, .val (.pointer (some ⟨g18, 1, none⟩))), (true, .val (.slice x.1 x.2.2 x.2.1)), (true, .val (.pointer (some ⟨g2, 1, none⟩))), (true, .val (.slice a l.length c)), (true, .val (.int .i64 (((x.2.2 : Nat) : Int)))), (true, .val (.pointer (some ⟨b49, o50 + x.2.2 * 2, none⟩))), (true, .val (.agg #[.int .i64 ((tget l x.2.2).f), .slice ((A51 x.2.2)) ((tget l x.2.2).args.length) ((C52 x.2.2))])), (true, .mem (fun v w' => NewT w42 w' ((tget l x.2.2)) v) (fun v w w' hc h => InT.chg h hc (fun b hb hs => by have z := hSlt b hs; omega))), (true, .mem (fun v w' => OneRow eltT w42 35 ((tget l x.2.2)) v w') (fun v w w' hc h => h.chg hc hSlt)), (true, .val undef), (true, .val (.pointer (some ⟨g18, 1, none⟩))), (true, .val undef)] [(0, .agg #[.int .i64 f, .slice a l.length c]), (1, .pointer (some ⟨g2, 0, none⟩)), (2, .pointer (some ⟨g9, 0, none⟩)), (3, .pointer (some ⟨g18, 0, none⟩)), (4, .int .i64 (((x.2.2 : Nat) : Int))), (12, .bool ((decide ((((x.2.2 : Nat) : Int) : Int) < (((l.length : Nat) : Int) : Int)))))] 9 11 ((x.2.2 + 1)) 24 (fun ra rc wz => RowE eltT wz w27.heap.size 35 ra rc (x.2.2 + 1) ((l.take x.2.2 ++ [tget l x.2.2])) ∧ Blk wz g18 35 #[.int .i64 f, .slice x.1 x.2.2 x.2.1]) (fun ra rc wz => RowE eltT wz w27.heap.size 35 ra rc (x.2.2 + 1) ((l.take x.2.2 ++ [tget l x.2.2])) ∧ Blk wz g18 35 #[.int .i64 f, .slice ra ((x.2.2 + 1)) rc]) (by decide) (fun ra rc w w' hb h => ⟨h.1.below hb, h.2.below hb⟩) (fun ra rc w w' hb h => ⟨h.1.below hb, h.2.below hb⟩) ⟨rfl, rfl, rfl, rfl, rfl, rfl, trivial⟩ (by kernel_rfl) (by kernel_rfl) (by kernel_rfl) (by kernel_rfl) (by kernel_rfl) ?_ ?_
   ·refine ⟨.inl ⟨rfl, true, .none rfl, (fun gg b h => by cases h), fun h w => optUndef h, fun zβ za zw zc => ?_⟩, ?_⟩
    ·exact fld_35_1 rfl (zc.kn.ev rfl) ⟨_, rfl, Below.refl _ _, optDef zβ rfl⟩
    refine ⟨.inl ⟨rfl, true, .none rfl, (fun gg b h => by cases h), fun h w => optUndef h, fun zβ za zw zc => ?_⟩, ?_⟩
    ·exact ld_25 rfl ((evt za 15).trans (optSVal (zc.dep 0 15 (by kernel_rfl) (by decide)) rfl rfl)) (bkeeps (zc.early (by kernel_rfl)) _ _ ((hB46.cell 1).trans rfl)) ⟨_, rfl, Below.refl _ _, optDef zβ rfl⟩
    refine ⟨.inl ⟨rfl, true, .none rfl, (fun gg b h => by cases h), fun h w => optUndef h, fun zβ za zw zc => ?_⟩, ?_⟩
    ·exact fld_35_1 rfl (zc.kn.ev rfl) ⟨_, rfl, Below.refl _ _, optDef zβ rfl⟩
    refine ⟨.inl ⟨rfl, true, .none rfl, (fun gg b h => by cases h), fun h w => optUndef h, fun zβ za zw zc => ?_⟩, ?_⟩
    ·exact ld_25 rfl ((evt za 17).trans (optSVal (zc.dep 2 17 (by kernel_rfl) (by decide)) rfl rfl)) (bkeeps (zc.early (by kernel_rfl)) _ _ ((hB44.cell 1).trans rfl)) ⟨_, rfl, Below.refl _ _, optDef zβ rfl⟩
    refine ⟨.inl ⟨rfl, true, .none rfl, (fun gg b h => by cases h), fun h w => optUndef h, fun zβ za zw zc => ?_⟩, ?_⟩
    ·exact wp_move rfl (zc.kn.ev rfl) ⟨_, rfl, Below.refl _ _, optDef zβ rfl⟩
    refine ⟨.inl ⟨rfl, true, .none rfl, (fun gg b h => by cases h), fun h w => optUndef h, fun zβ za zw zc => ?_⟩, ?_⟩
    ·exact ix_25 (k := x.2.2) rfl ((evt za 18).trans (optSVal (zc.dep 3 18 (by kernel_rfl) (by decide)) rfl rfl)) (ha53 x.2.2 (by first | omega | (simp; omega))) ((evt za 19).trans (optSVal (zc.dep 4 19 (by kernel_rfl) (by decide)) rfl rfl)) (by first | omega | (simp; omega)) ⟨_, rfl, Below.refl _ _, optDef zβ rfl⟩
    refine ⟨.inl ⟨rfl, true, .none rfl, (fun gg b h => by cases h), fun h w => optUndef h, fun zβ za zw zc => ?_⟩, ?_⟩
    ·exact ld_35 rfl ((evt za 20).trans (optSVal (zc.dep 5 20 (by kernel_rfl) (by decide)) rfl rfl)) (bkeeps (bstep hb43 (zc.early (by kernel_rfl))) _ _ (hc54 x.2.2 (by first | omega | (simp; omega))).1) (bkeeps (bstep hb43 (zc.early (by kernel_rfl))) _ _ (hc54 x.2.2 (by first | omega | (simp; omega))).2.1) ⟨_, rfl, Below.refl _ _, optDef zβ rfl⟩
    refine ⟨.inl ⟨rfl, true, .none rfl, (fun gg b h => by cases h), fun h w => optUndef h, fun zβ za zw zc => ?_⟩, ?_⟩
    ·exact wp_call (by kernel_rfl) rfl (hv1 ((evt za 21).trans (optSVal (zc.dep 6 21 (by kernel_rfl) (by decide)) rfl rfl))) (rcopy_any (tget l x.2.2) _ _ (size_at (by omega) hz) (IsT.below (bstep hb43 (zc.early (by kernel_rfl))) (hc54 x.2.2 (by first | omega | (simp; omega))).2.2)) (fun v w' h => ⟨v, rfl, h.2, optDef zβ (InT.mono (fun b hb _ => Nat.le_trans (zc.early (by kernel_rfl)).size hb) h.1)⟩)
    refine ⟨.inl ⟨rfl, true, .none rfl, (fun gg b h => by cases h), fun h w => optUndef h, fun zβ za zw zc => ?_⟩, ?_⟩
    ·have zv := (optSMem (zc.dep 7 22 (by kernel_rfl) (by decide)) rfl rfl)
     obtain ⟨_, a1, c1, e1, _⟩ := zv.form
     rw [e1] at zv
     exact row_25_1 rfl ((evt za 22).trans e1) ⟨_, rfl, balloc _ _, optDef zβ ⟨_, _, rfl, zc.chg.size, Blk.new' rfl, _, _, rfl, zv.below (balloc _ _)⟩⟩
    refine ⟨.inr (.inl ⟨rfl, rfl, fun za zw zc => ?_⟩), ?_⟩
    ·obtain ⟨g1, cs, e1, hg1, hB1, hin⟩ := (optSMem (zc.dep 8 23 (by kernel_rfl) (by decide)) rfl rfl)
     exact wp_appE (E := eltT) (size := 2) (bytes := 32) (z := .agg #[.int .i64 0, .slice none 0 0]) rfl Try.underlying25 (by kernel_rfl) rfl (by decide) rfl ((evt za 16).trans (optSVal (zc.dep 1 16 (by kernel_rfl) (by decide)) rfl rfl)) ((evt za 23).trans e1) (ho47.below zc.below) hB1 (eltT.mono (fun b hb _ => ⟨by omega, fun e => by have z := (ho47.lt b e).2; omega⟩) hin) (by omega) (by omega) (by have z := zc.below.size; omega) (fun ra rc w' h1 h2 _ => ⟨ra, rc, rfl, ⟨h1, chg_blk (hB46.below zc.below) h2 (fun e => by have z := (ho47.lt _ e).1; omega)⟩, h2.mono (fun b hb => .inr hb)⟩)
    refine ⟨.inl ⟨rfl, true, .none rfl, (fun gg b h => by cases h), fun h w => optUndef h, fun zβ za zw zc => ?_⟩, ?_⟩
    ·exact fld_35_1 rfl (zc.kn.ev rfl) ⟨_, rfl, Below.refl _ _, optDef zβ rfl⟩
    refine ⟨.inr (.inr ⟨rfl, rfl, 24, by kernel_rfl, fun za zw ra rc zk zd zv zg => ?_⟩), ?_⟩
    ·exact st_25 rfl ((evt za 25).trans (optSVal (zd 10 25 (by kernel_rfl) (by decide)) rfl rfl)) ((evt za 24).trans zv) zg.2 (by first | decide | simp) (fun v => ⟨v, rfl, ⟨zg.1.upd (Upd.at_ _ _ _ _) (by omega), zg.2.set_ 1 _⟩, .ofUpd (Upd.at_ _ _ _ _) (.inl rfl)⟩)
    exact trivial
   ·intro za w55 ra58 rc59 zh zv hG56 hc57 zu
    have hb60 := chg_below hb43 hc57 (fun b hb => (fun h => by rcases hSlo _ h with h | h <;> omega))
    have hB61 := chg_blk hB44 hc57 (fun h => by rcases hSlo _ h with h | h <;> omega)
    have hB62 := chg_blk hB45 hc57 (fun h => by rcases hSlo _ h with h | h <;> omega)
    clear zu
    refine WE.go zh ?_
    refine WE.blockNormal (WE.next (WC.region (WL.mv rfl rfl rfl rfl rfl ?_)))
    refine WL.val (.int .i64 ((((x.2.2 + 1) : Nat) : Int))) rfl rfl rfl (fun za zC zh zk => addb_3 rfl (zh.ev rfl) (zh.ev rfl) (wrap_eq (by omega) (by omega) (by omega)) zk) ?_
    refine WL.asg rfl rfl rfl rfl rfl (WL.nil ?_)
    refine WE.round ((ra58, rc59, x.2.2 + 1)) ⟨rfl, rfl, rfl, rfl, rfl, trivial⟩ ?_ ?_
    ·exact ⟨by (try dsimp only at *); omega, (Nat.le_trans hBw hc57.size), hb60, hB61, hB62, hG56.2, (by rw [← take_snocT (by omega)]; exact hG56.1)⟩
    ·dsimp only; omega
  ·have h48 : ¬ ((((x.2.2 : Nat) : Int) : Int) < (((l.length : Nat) : Int) : Int)) := by simpa using h48
   refine WC.exit (WE.thenExit (WE.thenExit (WE.blockIs rfl (WE.next (WC.seq (WC.region ?_))))))
   refine WL.val _ rfl rfl rfl (fun za zC zh zk => ld_35 rfl (zh.ev rfl) ((hB46.cell 0).trans rfl) ((hB46.cell 1).trans rfl) zk) ?_
   refine WL.step (post := fun _ w' => Upd g9 w42 w' ∧ Blk w' g9 35 #[.int .i64 f, .slice x.1 x.2.2 x.2.1]) rfl rfl rfl (fun za zC zh zk => st_35 rfl (zh.ev rfl) (zh.ev rfl) rfl rfl hB45 (by first | decide | simp) (fun v => zk v _ ⟨(Upd.at_ _ _ _ _).trans (Upd.at_ _ _ _ _), (hB45.set_ 0 _).set_ 1 _⟩)) ?_
   rintro v66 w63 ⟨hu64, hB65⟩
   have hb67 := upd_below hb43 hu64 (by omega)
   have hB68 := upd_blk hB44 hu64 (by omega)
   have hB69 := upd_blk hB46 hu64 (by omega)
   have ho70 := ho47.upd hu64 (by omega)
   refine WL.nil (WE.next (WC.ret ?_))
   refine WE.retAny (v := .agg #[.int .i64 f, .slice x.1 x.2.2 x.2.1]) (fun za zh => ?_) ?_
   ·have z0 : za.tmps[2]?.getD undef = .pointer (some ⟨g9, 0, none⟩) := by rw [← Array.getD_eq_getD_getElem?]; exact zh.knows 2 _ rfl
    have y0 : w63.cell? ⟨g9, 0, none⟩ = some (.int .i64 f) := ((hB65.cell 0).trans rfl)
    have y1 : w63.cell? ⟨g9, 1, none⟩ = some (.slice x.1 x.2.2 x.2.1) := ((hB65.cell 1).trans rfl)
    simp [results, Try.results20, z0, y0, y1, go_sem]
   ·have z := ho70
    have hxl : x.2.2 = l.length := by omega
    rw [hxl, List.take_length] at z
    obtain ⟨z1, z2⟩ := z.rowD
    obtain ⟨_, _, z3, z4⟩ := z.inRow
    have hbz := (hb67).size
    rw [hxl]
    refine ⟨_, rfl, ⟨_, _, rfl, z3, z4, z1.mono (fun b q _ => ⟨by omega, q.2⟩) (fun b q => q.2), fun b q => ?_⟩, hb67⟩
    have z5 := z2 b q
    omega
set_option maxRecDepth 100000 in
theorem copyD_any (t : T) (w : World) (v : Value) (hz : t.size ≤ 4294967296) (hv : IsT w t v) : Calls Try.prog 63 #[v] w (Ret fun v' w' => (∃ ra rc, v' = .agg #[.int .i64 t.f, .slice ra t.args.length rc] ∧ t.args.length ≤ rc ∧ rc ≤ maxLen ∧ RowD eltT (fun b => w.heap.size ≤ b ∧ obk ra t.args.length rc ≠ some b) w' 35 ra rc t.args.length t.args ∧ ∀ b, obk ra t.args.length rc = some b → w.heap.size ≤ b) ∧ Below w.heap.size w w') := by
 match t, hz, hv with
 | .mk f l, hz, hv =>
 have hlen := len_le_sizeL l
 have hz' := hz
 simp only [T.size] at hz'
 obtain ⟨hf, a, c, rfl, hc, hm, hl⟩ := hv
 simp only [T.f_mk, T.args_mk]
 refine Calls.walk (l := [.agg #[.int .i64 f, .slice a l.length c]]) Try.func63 rfl (by kernel_rfl) ?_
 refine WC.sub (K' := [(0, .agg #[.int .i64 f, .slice a l.length c])]) ⟨rfl, trivial⟩ ?_
 refine WC.seq (WC.region ?_)
 refine WL.step (post := NewBlk w 35 #[.int .i64 f, .slice a l.length c]) rfl rfl rfl (fun za zC zh zk => box_35 rfl (zh.ev rfl) (zk _ _ (newBlk _ _ _))) ?_
 rintro _ w1 ⟨g2, rfl, hg3, hB4, hb5, hz6⟩
 have hl7 : w.heap.size ≤ g2 := by omega
 refine WL.step (post := NewBlk w1 35 #[.int .i64 0, .slice none 0 0]) rfl rfl rfl (fun za zC zh zk => alloc_35 rfl (zk _ _ (newBlk _ _ _))) ?_
 rintro _ w8 ⟨g9, rfl, hg10, hB11, hb12, hz13⟩
 have hl14 : g2 < g9 := by have z1 := hB4.lt; omega
 have hl15 : w.heap.size ≤ g9 := by have z2 := (hb5).size; omega
 refine WL.nil (WE.next (WC.seq (WC.region ?_)))
 refine WL.val _ rfl rfl rfl (fun za zC zh zk => fld_35_0 rfl (zh.ev rfl) zk) ?_
 have hB16 := hB4.below hb12
 refine WL.val _ rfl rfl rfl (fun za zC zh zk => ld_3 rfl (zh.ev rfl) ((hB16.cell 0).trans rfl) zk) ?_
 refine WL.val (.agg #[.int .i64 f, .slice none 0 0]) rfl rfl rfl (fun za zC zh zk => build_35_0 rfl (zh.ev rfl) zk) ?_
 refine WL.step (post := NewBlk w8 35 #[.int .i64 0, .slice none 0 0]) rfl rfl rfl (fun za zC zh zk => alloc_35 rfl (zk _ _ (newBlk _ _ _))) ?_
 rintro _ w17 ⟨g18, rfl, hg19, hB20, hb21, hz22⟩
 have hl23 : g2 < g18 := by have z1 := hB16.lt; omega
 have hl24 : g9 < g18 := by have z1 := hB11.lt; omega
 have hb25 : Below w.heap.size w w8 := (bstep hb5 hb12)
 have hl26 : w.heap.size ≤ g18 := by have z2 := (hb25).size; omega
 refine WL.step (post := fun _ w' => Upd g18 w17 w' ∧ Blk w' g18 35 #[.int .i64 f, .slice none 0 0]) rfl rfl rfl (fun za zC zh zk => st_35 rfl (zh.ev rfl) (zh.ev rfl) rfl rfl hB20 (by first | decide | simp) (fun v => zk v _ ⟨(Upd.at_ _ _ _ _).trans (Upd.at_ _ _ _ _), (hB20.set_ 0 _).set_ 1 _⟩)) ?_
 rintro v30 w27 ⟨hu28, hB29⟩
 have hb31 : Below w.heap.size w w17 := (bstep hb25 hb21)
 have hb32 := upd_below hb31 hu28 (by omega)
 have hB33 := hB16.below hb21
 have hB34 := upd_blk hB33 hu28 (by omega)
 have hB35 := hB11.below hb21
 have hB36 := upd_blk hB35 hu28 (by omega)
 refine WL.nil (WE.next (WC.seq (WC.seq (WC.region ?_))))
 refine WL.val _ rfl rfl rfl (fun za zC zh zk => fld_35_1 rfl (zh.ev rfl) zk) ?_
 refine WL.val _ rfl rfl rfl (fun za zC zh zk => ld_25 rfl (zh.ev rfl) ((hB34.cell 1).trans rfl) zk) ?_
 refine WL.val (.int .i64 (((l.length : Nat) : Int))) rfl rfl rfl (fun za zC zh zk => len_25 rfl (zh.ev rfl) zk) ?_
 refine WL.val (.bool ((decide ((0 : Int) < (((l.length : Nat) : Int) : Int))))) rfl rfl rfl (fun za zC zh zk => gtr_3 rfl (zh.ev rfl) (zh.ev rfl) zk) ?_
 refine WL.nil (WE.next ?_)
 refine WC.cond rfl (fun h37 => ?_) (fun h37 => ?_)
 ·have h37 : (0 : Int) < (((l.length : Nat) : Int) : Int) := by simpa using h37
  refine WC.region ?_
  refine WL.val _ rfl rfl rfl (fun za zC zh zk => fld_35_1 rfl (zh.ev rfl) zk) ?_
  refine WL.val _ rfl rfl rfl (fun za zC zh zk => ld_25 rfl (zh.ev rfl) ((hB34.cell 1).trans rfl) zk) ?_
  refine WL.val (.int .i64 (((l.length : Nat) : Int))) rfl rfl rfl (fun za zC zh zk => len_25 rfl (zh.ev rfl) zk) ?_
  refine WL.step (post := fun v w' => ∃ g, v = .slice (some ⟨g, 0, none⟩) l.length l.length ∧ w27.heap.size = g ∧ Blk w' g 35 (madeCells (Value.cells (.agg #[.int .i64 0, .slice none 0 0])) (l.length * 2)) ∧ Below w27.heap.size w27 w') rfl rfl rfl (fun za zC zh zk => wp_mkE (z := .agg #[.int .i64 0, .slice none 0 0]) (size := 2) (bytes := 32) Try.underlying25 (by kernel_rfl) (by decide) rfl (zh.ev rfl) (zh.ev rfl) (by omega) (zk _ _ ⟨_, rfl, rfl, Blk.new' rfl, balloc _ _⟩)) ?_
  rintro _ w38 ⟨g39, rfl, hg40, hB41, hb42⟩
  have hl44 : g2 < g39 := by have z1 := hB34.lt; omega
  have hl45 : g9 < g39 := by have z1 := hB36.lt; omega
  have hl46 : g18 < g39 := by have z1 := hB29.lt; omega
  have hl47 : w.heap.size ≤ g39 := by have z2 := (hb32).size; omega
  have hM43 : MRow eltT w38 g39 g39 35 l.length (madeCells (Value.cells (.agg #[.int .i64 0, .slice none 0 0])) (l.length * 2)).toList [] := MRow.startT hB41 (Nat.le_refl _)
  refine WL.val _ rfl rfl rfl (fun za zC zh zk => fld_35_1 rfl (zh.ev rfl) zk) ?_
  have hB48 := hB29.below hb42
  refine WL.step (post := fun _ w' => Upd g18 w38 w' ∧ Blk w' g18 35 #[.int .i64 f, .slice ((some ⟨g39, 0, none⟩)) l.length l.length]) rfl rfl rfl (fun za zC zh zk => st_25 rfl (zh.ev rfl) (zh.ev rfl) hB48 (by first | decide | simp) (fun v => zk v _ ⟨Upd.at_ _ _ _ _, hB48.set_ 1 _⟩)) ?_
  rintro v52 w49 ⟨hu50, hB51⟩
  have hb53 : Below w.heap.size w w38 := (bstep hb32 hb42)
  have hb54 := upd_below hb53 hu50 (by omega)
  have hB55 := hB34.below hb42
  have hB56 := upd_blk hB55 hu50 (by omega)
  have hB57 := hB36.below hb42
  have hB58 := upd_blk hB57 hu50 (by omega)
  have ho59 := hM43.upd hu50 (by omega)
  refine WL.nil (WE.next (WC.seq (WC.seq (WC.region ?_))))
  refine WL.val _ rfl rfl rfl (fun za zC zh zk => fld_35_1 rfl (zh.ev rfl) zk) ?_
  refine WL.val _ rfl rfl rfl (fun za zC zh zk => ld_25 rfl (zh.ev rfl) ((hB56.cell 1).trans rfl) zk) ?_
  refine WL.val (.int .i64 (((l.length : Nat) : Int))) rfl rfl rfl (fun za zC zh zk => len_25 rfl (zh.ev rfl) zk) ?_
  refine WL.mv rfl rfl rfl rfl rfl (WL.nil (WE.next (WC.block ?_)))
  refine WC.loop (X := Nat) (fun k => l.length - k) (fun k => [(0, .agg #[.int .i64 f, .slice a l.length c]), (1, .pointer (some ⟨g2, 0, none⟩)), (2, .pointer (some ⟨g9, 0, none⟩)), (3, .pointer (some ⟨g18, 0, none⟩)), (12, .bool ((decide ((0 : Int) < (((l.length : Nat) : Int) : Int))))), (19, .slice a l.length c), (20, .int .i64 (((l.length : Nat) : Int))), (21, .int .i64 (((k : Nat) : Int)))]) (fun k w60 => k ≤ l.length ∧ Below w.heap.size w w60 ∧ Blk w60 g2 35 #[.int .i64 f, .slice a l.length c] ∧ Blk w60 g9 35 #[.int .i64 0, .slice none 0 0] ∧ Blk w60 g18 35 #[.int .i64 f, .slice ((some ⟨g39, 0, none⟩)) l.length l.length] ∧ MRow eltT (w60) g39 g39 35 l.length (madeCells (Value.cells (.agg #[.int .i64 0, .slice none 0 0])) (l.length * 2)).toList (l.take k)) 0 ⟨rfl, rfl, rfl, rfl, rfl, rfl, rfl, rfl, trivial⟩ ?_ ?_
  ·exact ⟨Nat.zero_le _, hb54, hB56, hB58, hB51, ho59⟩
  ·rintro k w60 ⟨hk, hb61, hB62, hB63, hB64, ho65⟩
   have hgl := ho65.lt
   refine WC.seq (WC.region ?_)
   refine WL.val (.bool ((decide ((((k : Nat) : Int) : Int) < (((l.length : Nat) : Int) : Int))))) rfl rfl rfl (fun za zC zh zk => lss_3 rfl (zh.ev rfl) (zh.ev rfl) zk) ?_
   refine WL.nil (WE.next (WC.seq ?_))
   refine WC.cond rfl (fun h66 => ?_) (fun h66 => ?_)
   ·have h66 : (((k : Nat) : Int) : Int) < (((l.length : Nat) : Int) : Int) := by simpa using h66
    refine WC.skip (WE.next (WC.seq (WC.block (WC.seq (WC.region (WL.mv rfl rfl rfl rfl rfl ?_))))))
    obtain ⟨b67, o68, A69, C70, ha71, hc72⟩ := IsTs.open hl
    refine WL.val _ rfl rfl rfl (fun za zC zh zk => ix_25 (k := k) rfl (zh.ev rfl) (ha71 k (by first | omega | (simp; omega))) (zh.ev rfl) (by first | omega | (simp; omega)) zk) ?_
    refine WL.val _ rfl rfl rfl (fun za zC zh zk => ld_35 rfl (zh.ev rfl) (bkeeps hb61 _ _ (hc72 k (by first | omega | (simp; omega))).1) (bkeeps hb61 _ _ (hc72 k (by first | omega | (simp; omega))).2.1) zk) ?_
    refine WL.step (post := NewBlk w60 35 #[.int .i64 0, .slice none 0 0]) rfl rfl rfl (fun za zC zh zk => alloc_35 rfl (zk _ _ (newBlk _ _ _))) ?_
    rintro _ w73 ⟨g74, rfl, hg75, hB76, hb77, hz78⟩
    have hl79 : g2 < g74 := by have z1 := hB62.lt; omega
    have hl80 : g9 < g74 := by have z1 := hB63.lt; omega
    have hl81 : g18 < g74 := by have z1 := hB64.lt; omega
    have hl82 : w.heap.size ≤ g74 := by have z2 := (hb61).size; omega
    have hl83 : w60.heap.size ≤ g74 := by omega
    refine WL.asg rfl rfl rfl rfl rfl ?_
    refine WL.step (post := fun _ w' => Upd g74 w73 w' ∧ Blk w' g74 35 #[.int .i64 ((tget l k).f), .slice ((A69 k)) ((tget l k).args.length) ((C70 k))]) rfl rfl rfl (fun za zC zh zk => st_35 rfl (zh.ev rfl) (zh.ev rfl) rfl rfl hB76 (by first | decide | simp) (fun v => zk v _ ⟨(Upd.at_ _ _ _ _).trans (Upd.at_ _ _ _ _), (hB76.set_ 0 _).set_ 1 _⟩)) ?_
    rintro v87 w84 ⟨hu85, hB86⟩
    have hb88 : Below w.heap.size w w73 := (bstep hb61 hb77)
    have hb89 := upd_below hb88 hu85 (by omega)
    have hb90 := upd_below hb77 hu85 (by omega)
    have hB91 := hB62.below hb77
    have hB92 := upd_blk hB91 hu85 (by omega)
    have hB93 := hB63.below hb77
    have hB94 := upd_blk hB93 hu85 (by omega)
    have hB95 := hB64.below hb77
    have hB96 := upd_blk hB95 hu85 (by omega)
    refine WL.nil (WE.next ?_)
    have ho97 := ho65.below hb90
    have hSlt : ∀ b, (fun b => b = g39) b → b < w84.heap.size := fun b e => e ▸ ho97.lt
    have hgl : g39 < w84.heap.size := ho97.lt
    refine WC.tail1 (S := ((fun b => b = g39))) [(true, .val (.pointer (some ⟨g18, 1, none⟩))), (true, .val (.slice ((some ⟨g39, 0, none⟩)) l.length l.length)), (true, .val (.int .i64 (((k : Nat) : Int)))), (true, .val (.agg #[.int .i64 ((tget l k).f), .slice ((A69 k)) ((tget l k).args.length) ((C70 k))])), (true, .mem (fun v w' => NewT w84 w' ((tget l k)) v) (fun v w w' hc h => InT.chg h hc (fun b hb hs => by have z := hSlt b hs; omega))), (true, .val (.pointer (some ⟨g39, 0 + k * 2, none⟩))), (true, .val undef)] [(0, .agg #[.int .i64 f, .slice a l.length c]), (1, .pointer (some ⟨g2, 0, none⟩)), (2, .pointer (some ⟨g9, 0, none⟩)), (3, .pointer (some ⟨g18, 0, none⟩)), (4, .int .i64 (((k : Nat) : Int))), (5, .pointer (some ⟨g74, 0, none⟩)), (12, .bool ((decide ((0 : Int) < (((l.length : Nat) : Int) : Int))))), (19, .slice a l.length c), (20, .int .i64 (((l.length : Nat) : Int))), (21, .int .i64 (((k : Nat) : Int))), (22, .bool ((decide ((((k : Nat) : Int) : Int) < (((l.length : Nat) : Int) : Int)))))] 6 (fun wz => MRow eltT wz g39 g39 35 l.length (madeCells (Value.cells (.agg #[.int .i64 0, .slice none 0 0])) (l.length * 2)).toList ((l.take k ++ [tget l k]))) (fun w w' hb h => h.below hb) ⟨rfl, rfl, rfl, rfl, rfl, rfl, rfl, rfl, rfl, rfl, rfl, trivial⟩ (by kernel_rfl) (by kernel_rfl) (by kernel_rfl) (by kernel_rfl) ?_ ?_
    ·refine ⟨.inl ⟨rfl, true, .none rfl, (fun gg b h => by cases h), fun h w => optUndef h, fun zβ za zw zc => ?_⟩, ?_⟩
     ·exact fld_35_1 rfl (zc.kn.ev rfl) ⟨_, rfl, Below.refl _ _, optDef zβ rfl⟩
     refine ⟨.inl ⟨rfl, true, .none rfl, (fun gg b h => by cases h), fun h w => optUndef h, fun zβ za zw zc => ?_⟩, ?_⟩
     ·exact ld_25 rfl ((evt za 26).trans (optSVal (zc.dep 0 26 (by kernel_rfl) (by decide)) rfl rfl)) (bkeeps (zc.early (by kernel_rfl)) _ _ ((hB96.cell 1).trans rfl)) ⟨_, rfl, Below.refl _ _, optDef zβ rfl⟩
     refine ⟨.inl ⟨rfl, true, .none rfl, (fun gg b h => by cases h), fun h w => optUndef h, fun zβ za zw zc => ?_⟩, ?_⟩
     ·exact wp_move rfl (zc.kn.ev rfl) ⟨_, rfl, Below.refl _ _, optDef zβ rfl⟩
     refine ⟨.inl ⟨rfl, true, .none rfl, (fun gg b h => by cases h), fun h w => optUndef h, fun zβ za zw zc => ?_⟩, ?_⟩
     ·exact ld_35 rfl (zc.kn.ev rfl) (bkeeps (zc.early (by kernel_rfl)) _ _ ((hB86.cell 0).trans rfl)) (bkeeps (zc.early (by kernel_rfl)) _ _ ((hB86.cell 1).trans rfl)) ⟨_, rfl, Below.refl _ _, optDef zβ rfl⟩
     refine ⟨.inl ⟨rfl, true, .none rfl, (fun gg b h => by cases h), fun h w => optUndef h, fun zβ za zw zc => ?_⟩, ?_⟩
     ·exact wp_call (by kernel_rfl) rfl (hv1 ((evt za 29).trans (optSVal (zc.dep 3 29 (by kernel_rfl) (by decide)) rfl rfl))) (copy_any (tget l k) _ _ (size_at (by omega) hz) (IsT.below (bstep hb89 (zc.early (by kernel_rfl))) (hc72 k (by first | omega | (simp; omega))).2.2)) (fun v w' h => ⟨v, rfl, h.2, optDef zβ (InT.mono (fun b hb _ => Nat.le_trans (zc.early (by kernel_rfl)).size hb) h.1)⟩)
     refine ⟨.inl ⟨rfl, true, .none rfl, (fun gg b h => by cases h), fun h w => optUndef h, fun zβ za zw zc => ?_⟩, ?_⟩
     ·exact ix_25 (k := k) rfl ((evt za 27).trans (optSVal (zc.dep 1 27 (by kernel_rfl) (by decide)) rfl rfl)) rfl ((evt za 28).trans (optSVal (zc.dep 2 28 (by kernel_rfl) (by decide)) rfl rfl)) (by first | omega | (simp; omega)) ⟨_, rfl, Below.refl _ _, optDef zβ rfl⟩
     refine ⟨.inr ⟨rfl, rfl, fun za zw zc => ?_⟩, ?_⟩
     ·have zv := (optSMem (zc.dep 4 30 (by kernel_rfl) (by decide)) rfl rfl)
      obtain ⟨_, a1, c1, e1, _⟩ := zv.form
      rw [e1] at zv
      have zm := ho97.below zc.below
      obtain ⟨cs, hB, hsz⟩ := zm.blkT (k := k) (by simp; omega) (by omega)
      exact st_35 rfl ((evt za 31).trans (optSVal (zc.dep 5 31 (by kernel_rfl) (by decide)) rfl rfl)) ((evt za 30).trans e1) rfl rfl hB hsz (fun v => ⟨v, rfl, zm.storeT (k := k) (by simp; omega) (by omega) (zv.mono (fun b hb _ => by (try dsimp only at *); omega)), .ofUpd ((Upd.at_ _ _ _ _).trans (Upd.at_ _ _ _ _)) rfl⟩)
     exact trivial
    ·intro za w98 zh hG99 hc100 zu
     have hb101 := chg_below hb89 hc100 (fun b hb => (by (try dsimp only at *); omega))
     have hB102 := chg_blk hB92 hc100 (by (try dsimp only at *); omega)
     have hB103 := chg_blk hB94 hc100 (by (try dsimp only at *); omega)
     have hB104 := chg_blk hB96 hc100 (by (try dsimp only at *); omega)
     have hB105 := chg_blk hB86 hc100 (by (try dsimp only at *); omega)
     clear zu
     refine WE.go zh ?_
     refine WE.blockNormal (WE.next (WC.region ?_))
     refine WL.val (.int .i64 ((((k + 1) : Nat) : Int))) rfl rfl rfl (fun za zC zh zk => addb_3 rfl (zh.ev rfl) (zh.ev rfl) (wrap_eq (by omega) (by omega) (by omega)) zk) ?_
     refine WL.mv rfl rfl rfl rfl rfl (WL.nil ?_)
     refine WE.round (k + 1) ⟨rfl, rfl, rfl, rfl, rfl, rfl, rfl, rfl, trivial⟩ ?_ ?_
     ·exact ⟨by omega, hb101, hB102, hB103, hB104, (by rw [← take_snocT (by omega)]; exact hG99)⟩
     ·omega
   ·have h66 : ¬ ((((k : Nat) : Int) : Int) < (((l.length : Nat) : Int) : Int)) := by simpa using h66
    refine WC.exit (WE.thenExit (WE.thenExit (WE.blockIs rfl (WE.next (WC.seq (WC.region ?_))))))
    refine WL.val _ rfl rfl rfl (fun za zC zh zk => ld_35 rfl (zh.ev rfl) ((hB64.cell 0).trans rfl) ((hB64.cell 1).trans rfl) zk) ?_
    refine WL.step (post := fun _ w' => Upd g9 w60 w' ∧ Blk w' g9 35 #[.int .i64 f, .slice ((some ⟨g39, 0, none⟩)) l.length l.length]) rfl rfl rfl (fun za zC zh zk => st_35 rfl (zh.ev rfl) (zh.ev rfl) rfl rfl hB63 (by first | decide | simp) (fun v => zk v _ ⟨(Upd.at_ _ _ _ _).trans (Upd.at_ _ _ _ _), (hB63.set_ 0 _).set_ 1 _⟩)) ?_
    rintro v109 w106 ⟨hu107, hB108⟩
    have hb110 := upd_below hb61 hu107 (by omega)
    have hB111 := upd_blk hB62 hu107 (by omega)
    have hB112 := upd_blk hB64 hu107 (by omega)
    have ho113 := ho65.upd hu107 (by omega)
    refine WL.nil (WE.next (WC.ret ?_))
    refine WE.retAny (v := .agg #[.int .i64 f, .slice ((some ⟨g39, 0, none⟩)) l.length l.length]) (fun za zh => ?_) ?_
    ·have z0 : za.tmps[2]?.getD undef = .pointer (some ⟨g9, 0, none⟩) := by rw [← Array.getD_eq_getD_getElem?]; exact zh.knows 2 _ rfl
     have y0 : w106.cell? ⟨g9, 0, none⟩ = some (.int .i64 f) := ((hB108.cell 0).trans rfl)
     have y1 : w106.cell? ⟨g9, 1, none⟩ = some (.slice ((some ⟨g39, 0, none⟩)) l.length l.length) := ((hB108.cell 1).trans rfl)
     simp [results, Try.results63, z0, y0, y1, go_sem]
    ·have z := ho113
     rw [List.take_of_length_le (by omega)] at z
     have hgz := (hb110).size
     have hgg := z.base
     refine ⟨_, rfl, ⟨_, _, rfl, Nat.le_refl _, by unfold maxLen; omega, (z.rowD rfl (by unfold maxLen; omega)).mono (fun b q _ => ⟨by omega, q.2⟩) (fun b q => q.2), fun b q => ?_⟩, hb110⟩
     have z2 : g39 = b := by simpa [obk, Value.ownBlock] using q
     omega
 ·have h37 : ¬ ((0 : Int) < (((l.length : Nat) : Int) : Int)) := by simpa using h37
  refine WC.skip (WE.next (WC.seq (WC.seq (WC.region ?_))))
  refine WL.val _ rfl rfl rfl (fun za zC zh zk => fld_35_1 rfl (zh.ev rfl) zk) ?_
  refine WL.val _ rfl rfl rfl (fun za zC zh zk => ld_25 rfl (zh.ev rfl) ((hB34.cell 1).trans rfl) zk) ?_
  refine WL.val (.int .i64 (((l.length : Nat) : Int))) rfl rfl rfl (fun za zC zh zk => len_25 rfl (zh.ev rfl) zk) ?_
  refine WL.mv rfl rfl rfl rfl rfl (WL.nil (WE.next (WC.block ?_)))
  refine WC.loop (X := Unit) (fun _ => 0) (fun _ => [(0, .agg #[.int .i64 f, .slice a l.length c]), (1, .pointer (some ⟨g2, 0, none⟩)), (2, .pointer (some ⟨g9, 0, none⟩)), (3, .pointer (some ⟨g18, 0, none⟩)), (12, .bool ((decide ((0 : Int) < (((l.length : Nat) : Int) : Int))))), (19, .slice a l.length c), (20, .int .i64 (((l.length : Nat) : Int))), (21, .int .i64 0)]) (fun _ w114 => True ∧ Below w.heap.size w w114 ∧ Blk w114 g2 35 #[.int .i64 f, .slice a l.length c] ∧ Blk w114 g9 35 #[.int .i64 0, .slice none 0 0] ∧ Blk w114 g18 35 #[.int .i64 f, .slice none 0 0]) (()) ⟨rfl, rfl, rfl, rfl, rfl, rfl, rfl, rfl, trivial⟩ ?_ ?_
  ·exact ⟨trivial, hb32, hB34, hB36, hB29⟩
  ·rintro _ w114 ⟨_, hb115, hB116, hB117, hB118⟩
   refine WC.seq (WC.region ?_)
   refine WL.val (.bool ((decide ((0 : Int) < (((l.length : Nat) : Int) : Int))))) rfl rfl rfl (fun za zC zh zk => lss_3 rfl (zh.ev rfl) (zh.ev rfl) zk) ?_
   refine WL.nil (WE.next (WC.seq ?_))
   refine WC.condF rfl (decide_eq_false (by omega)) ?_
   refine WC.exit (WE.thenExit (WE.thenExit (WE.blockIs rfl (WE.next (WC.seq (WC.region ?_))))))
   refine WL.val _ rfl rfl rfl (fun za zC zh zk => ld_35 rfl (zh.ev rfl) ((hB118.cell 0).trans rfl) ((hB118.cell 1).trans rfl) zk) ?_
   refine WL.step (post := fun _ w' => Upd g9 w114 w' ∧ Blk w' g9 35 #[.int .i64 f, .slice none 0 0]) rfl rfl rfl (fun za zC zh zk => st_35 rfl (zh.ev rfl) (zh.ev rfl) rfl rfl hB117 (by first | decide | simp) (fun v => zk v _ ⟨(Upd.at_ _ _ _ _).trans (Upd.at_ _ _ _ _), (hB117.set_ 0 _).set_ 1 _⟩)) ?_
   rintro v122 w119 ⟨hu120, hB121⟩
   have hb123 := upd_below hb115 hu120 (by omega)
   have hB124 := upd_blk hB116 hu120 (by omega)
   have hB125 := upd_blk hB118 hu120 (by omega)
   refine WL.nil (WE.next (WC.ret ?_))
   refine WE.retAny (v := .agg #[.int .i64 f, .slice none 0 0]) (fun za zh => ?_) ?_
   ·have z0 : za.tmps[2]?.getD undef = .pointer (some ⟨g9, 0, none⟩) := by rw [← Array.getD_eq_getD_getElem?]; exact zh.knows 2 _ rfl
    have y0 : w119.cell? ⟨g9, 0, none⟩ = some (.int .i64 f) := ((hB121.cell 0).trans rfl)
    have y1 : w119.cell? ⟨g9, 1, none⟩ = some (.slice none 0 0) := ((hB121.cell 1).trans rfl)
    simp [results, Try.results63, z0, y0, y1, go_sem]
   ·have e : l = [] := List.length_eq_zero_iff.1 (by omega)
    subst e
    exact ⟨_, rfl, ⟨_, _, rfl, Nat.le_refl _, Nat.zero_le _, RowD.nil, fun b q => nomatch q⟩, hb123⟩
theorem RowD.rowEB {S : Nat → Prop} {w : World} {B e n c : Nat} {a : Option Addr} {l : List T} (h : RowD eltT S w e a c n l) (hS : ∀ b, S b → B ≤ b) (hO : ∀ b, obk a n c = some b → B ≤ b) : RowE eltT w B e a c n l := by
 obtain ⟨⟨xs, h1, h2⟩, h3, h4⟩ := h
 exact ⟨⟨xs, Own.to (S := fun b => B ≤ b) ⟨h1, hO⟩ (fun b q => q), h2.mono (fun b q _ => ⟨hS b q, h4 b q⟩)⟩, h3⟩
def putOk (q : T) (p : List Int) (t : T) : Bool := (T.putAt q p t).isSome
abbrev putX (q : T) (p : List Int) (t : T) : T := (T.putAt q p t).getD (.mk 0 [])
theorem putX_size (q : T) : ∀ (p : List Int) (t : T), (putX q p t).size ≤ t.size + q.size
 | [], t => by unfold putX; rw [T.putAt]; simp
 | p0 :: p, .mk f l => by
  have hq : 1 ≤ q.size := by cases q; rw [T.size]; omega
  unfold putX
  rw [T.putAt]
  split
  ·rw [T.size]; simp [T.size, T.sizeL]; omega
  ·rename_i c
   have hk : p0.toNat < l.length := by omega
   have ih := putX_size q p (tget l p0.toNat)
   unfold putX at ih
   cases hx : T.putAt q p (tget l p0.toNat) with
   | none => simp [T.size, T.sizeL]; omega
   | some x =>
    rw [hx] at ih
    simp only [Option.map_some, Option.getD_some] at ih ⊢
    rw [T.size, T.size]
    have aux : ∀ (l : List T) (i : Nat) (hi : i < l.length), T.sizeL (l.set i x) + (tget l i).size = T.sizeL l + x.size := by
     intro l
     induction l with
     | nil => intro i hi; simp at hi
     | cons y r ihr =>
      intro i hi
      cases i with
      | zero => simp only [List.set_cons_zero, T.sizeL, tget, List.getD_cons_zero]; omega
      | succ i =>
       have z := ihr i (by simpa using hi)
       simp only [List.set_cons_succ, T.sizeL]
       have e : tget (y :: r) (i + 1) = tget r i := by simp [tget]
       rw [e]; omega
    have := aux l p0.toNat hk
    omega
set_option maxRecDepth 100000 in
theorem rput_nil (q t : T) (hq : q.size ≤ 4294967296) (w : World) (v vq : Value) (pa : Option Addr) (pc : Nat) (hv : IsT w t v) (hvq : IsT w q vq) :
  Calls Try.prog 48 #[v, .slice pa 0 pc, vq] w (Ret fun v' w' => (∃ u, v' = .tuple #[u, .bool (putOk q [] t)] ∧ NewT w w' (putX q [] t) u) ∧ Below w.heap.size w w') := by
 have hv0 := hv
 have hvq0 := hvq
 obtain ⟨_, ta, tc, rfl, _, _, _⟩ := hv.form
 obtain ⟨_, qa, qc, rfl, _, _, _⟩ := hvq.form
 refine Calls.walk (l := [.agg #[.int .i64 t.f, .slice ta t.args.length tc], .slice pa 0 pc, .agg #[.int .i64 q.f, .slice qa q.args.length qc]]) Try.func48 rfl (by kernel_rfl) ?_
 refine WC.sub (K' := [(0, .agg #[.int .i64 t.f, .slice ta t.args.length tc]), (1, .slice pa 0 pc), (2, .agg #[.int .i64 q.f, .slice qa q.args.length qc])]) ⟨rfl, rfl, rfl, trivial⟩ ?_
 refine WC.seq (WC.region ?_)
 refine WL.step (post := NewBlk w 35 #[.int .i64 t.f, .slice ta t.args.length tc]) rfl rfl rfl (fun za zC zh zk => box_35 rfl (zh.ev rfl) (zk _ _ (newBlk _ _ _))) ?_
 rintro _ w1 ⟨g2, rfl, hg3, hB4, hb5, hz6⟩
 have hl7 : w.heap.size ≤ g2 := by omega
 refine WL.step (post := NewBlk w1 35 #[.int .i64 q.f, .slice qa q.args.length qc]) rfl rfl rfl (fun za zC zh zk => box_35 rfl (zh.ev rfl) (zk _ _ (newBlk _ _ _))) ?_
 rintro _ w8 ⟨g9, rfl, hg10, hB11, hb12, hz13⟩
 have hl14 : g2 < g9 := by have z1 := hB4.lt; omega
 have hl15 : w.heap.size ≤ g9 := by have z2 := (hb5).size; omega
 refine WL.step (post := NewBlk w8 35 #[.int .i64 0, .slice none 0 0]) rfl rfl rfl (fun za zC zh zk => alloc_35 rfl (zk _ _ (newBlk _ _ _))) ?_
 rintro _ w16 ⟨g17, rfl, hg18, hB19, hb20, hz21⟩
 have hl22 : g2 < g17 := by have z1 := hB4.lt; have z2 := (hb12).size; omega
 have hl23 : g9 < g17 := by have z1 := hB11.lt; omega
 have hb24 : Below w.heap.size w w8 := (bstep hb5 hb12)
 have hl25 : w.heap.size ≤ g17 := by have z2 := (hb24).size; omega
 refine WL.asg rfl rfl rfl rfl rfl (WL.nil (WE.next (WC.seq (WC.seq (WC.region (WL.mv rfl rfl rfl rfl rfl ?_))))))
 refine WL.val (.int .i64 0) rfl rfl rfl (fun za zC zh zk => len_53 rfl (zh.ev rfl) zk) ?_
 refine WL.val (.bool true) rfl rfl rfl (fun za zC zh zk => eql_3 rfl (zh.ev rfl) (zh.ev rfl) zk) ?_
 refine WL.nil (WE.next ?_)
 refine WC.condT rfl rfl ?_
 refine WC.seq (WC.region ?_)
 have hB26 := hB11.below hb20
 refine WL.val _ rfl rfl rfl (fun za zC zh zk => ld_35 rfl (zh.ev rfl) ((hB26.cell 0).trans rfl) ((hB26.cell 1).trans rfl) zk) ?_
 have hb27 : Below w.heap.size w w16 := (bstep hb24 hb20)
 have hb32 : Below w1.heap.size w1 w16 := (bstep hb12 hb20)
 have hl31 : g2 < w16.heap.size := by have z1 := hB4.lt; have z2 := (hb32).size; omega
 have hl33 : g9 < w16.heap.size := by have z1 := hB26.lt; omega
 have hl34 : g17 < w16.heap.size := by have z1 := hB19.lt; omega
 have hl35 : w.heap.size ≤ w16.heap.size := (hb27).size
 refine WL.call rfl rfl rfl (fun za zh zC => wp_call (by kernel_rfl) rfl (hv1 (zh.ev rfl))) (rcopy_any q _ _ hq (IsT.below hb27 hvq0)) ?_
 rintro v28 w36 ⟨hn29, hb30⟩
 obtain ⟨_, a37, c38, rfl, _, _, _⟩ := hn29.form
 have hB39 := hB19.below hb30
 refine WL.step (post := fun _ w' => Upd g17 w36 w' ∧ Blk w' g17 35 #[.int .i64 q.f, .slice a37 q.args.length c38]) rfl rfl rfl (fun za zC zh zk => st_35 rfl (zh.ev rfl) (zh.ev rfl) rfl rfl hB39 (by first | decide | simp) (fun v => zk v _ ⟨(Upd.at_ _ _ _ _).trans (Upd.at_ _ _ _ _), (hB39.set_ 0 _).set_ 1 _⟩)) ?_
 rintro v43 w40 ⟨hu41, hB42⟩
 have hb44 : Below w.heap.size w w36 := (bstep hb27 hb30)
 have hb45 := upd_below hb44 hu41 (by omega)
 have hb47 : Below w1.heap.size w1 w36 := (bstep hb32 hb30)
 have hB46 := hB4.below hb47
 have hB48 := upd_blk hB46 hu41 (by omega)
 have hB49 := hB26.below hb30
 have hB50 := upd_blk hB49 hu41 (by omega)
 have ho51 := hn29.upd hu41 (by omega)
 refine WL.asg rfl rfl rfl rfl rfl (WL.nil (WE.next (WC.ret (WE.thenRet ?_))))
 refine WE.retAny (v := .tuple #[.agg #[.int .i64 q.f, .slice a37 q.args.length c38], .bool true]) (fun za zh => ?_) ?_
 ·have z0 : za.tmps[6]?.getD undef = .pointer (some ⟨g17, 0, none⟩) := by rw [← Array.getD_eq_getD_getElem?]; exact zh.knows 6 _ rfl
  have y0_0 : w40.cell? ⟨g17, 0, none⟩ = some (.int .i64 q.f) := ((hB42.cell 0).trans rfl)
  have y0_1 : w40.cell? ⟨g17, 1, none⟩ = some (.slice a37 q.args.length c38) := ((hB42.cell 1).trans rfl)
  have z1 : za.tmps[7]?.getD undef = .bool true := by rw [← Array.getD_eq_getD_getElem?]; exact zh.knows 7 _ rfl
  simp [results, Try.results48, z0, y0_0, y0_1, z1, go_sem]
 ·exact ⟨_, rfl, ⟨_, rfl, InT.mono (fun b hb _ => Nat.le_trans hb27.size hb) ho51⟩, hb45⟩
set_option maxRecDepth 100000 in
theorem rput_cons (q : T) (hq : q.size ≤ 4294967296) (p0 : Int) (p : List Int) (ih : ∀ (t : T) (w : World) (v vq : Value) (pa : Option Addr) (pc : Nat), t.size ≤ 4294967296 → pc ≤ maxLen → IsT w t v → PIs w p pa pc → IsT w q vq → Calls Try.prog 48 #[v, .slice pa p.length pc, vq] w (Ret fun v' w' => (∃ u, v' = .tuple #[u, .bool (putOk q p t)] ∧ NewT w w' (putX q p t) u) ∧ Below w.heap.size w w'))
  (f : Int) (l : List T) (w : World) (v vq : Value) (pa : Option Addr) (pc : Nat) (hz : (T.mk f l).size ≤ 4294967296) (hm : pc ≤ maxLen) (hv : IsT w (.mk f l) v) (hp : PIs w (p0 :: p) pa pc) (hvq : IsT w q vq) :
  Calls Try.prog 48 #[v, .slice pa (p.length + 1) pc, vq] w (Ret fun v' w' => (∃ u, v' = .tuple #[u, .bool (putOk q (p0 :: p) (.mk f l))] ∧ NewT w w' (putX q (p0 :: p) (.mk f l)) u) ∧ Below w.heap.size w w') := by
 have hv0 := hv
 have hvq0 := hvq
 have hlen := len_le_sizeL l
 have hz' := hz
 simp only [T.size] at hz'
 have hpl := hp.1
 have hpt := hp.tail
 simp only [List.length_cons] at hpl
 unfold maxLen at hm
 obtain ⟨hf, ta, tc, rfl, hc, hmc, hl⟩ := hv
 obtain ⟨_, qa, qc, rfl, _, _, _⟩ := hvq.form
 obtain ⟨pb, po, rfl, hpc⟩ := hp.hd
 refine Calls.walk (l := [.agg #[.int .i64 f, .slice ta l.length tc], .slice ((some ⟨pb, po, none⟩)) ((p.length + 1)) pc, .agg #[.int .i64 q.f, .slice qa q.args.length qc]]) Try.func48 rfl (by kernel_rfl) ?_
 refine WC.sub (K' := [(0, .agg #[.int .i64 f, .slice ta l.length tc]), (1, .slice ((some ⟨pb, po, none⟩)) ((p.length + 1)) pc), (2, .agg #[.int .i64 q.f, .slice qa q.args.length qc])]) ⟨rfl, rfl, rfl, trivial⟩ ?_
 refine WC.seq (WC.region ?_)
 refine WL.step (post := NewBlk w 35 #[.int .i64 f, .slice ta l.length tc]) rfl rfl rfl (fun za zC zh zk => box_35 rfl (zh.ev rfl) (zk _ _ (newBlk _ _ _))) ?_
 rintro _ w1 ⟨g2, rfl, hg3, hB4, hb5, hz6⟩
 have hl7 : w.heap.size ≤ g2 := by omega
 refine WL.step (post := NewBlk w1 35 #[.int .i64 q.f, .slice qa q.args.length qc]) rfl rfl rfl (fun za zC zh zk => box_35 rfl (zh.ev rfl) (zk _ _ (newBlk _ _ _))) ?_
 rintro _ w8 ⟨g9, rfl, hg10, hB11, hb12, hz13⟩
 have hl14 : g2 < g9 := by have z1 := hB4.lt; omega
 have hl15 : w.heap.size ≤ g9 := by have z2 := (hb5).size; omega
 refine WL.step (post := NewBlk w8 35 #[.int .i64 0, .slice none 0 0]) rfl rfl rfl (fun za zC zh zk => alloc_35 rfl (zk _ _ (newBlk _ _ _))) ?_
 rintro _ w16 ⟨g17, rfl, hg18, hB19, hb20, hz21⟩
 have hl22 : g2 < g17 := by have z1 := hB4.lt; have z2 := (hb12).size; omega
 have hl23 : g9 < g17 := by have z1 := hB11.lt; omega
 have hb24 : Below w.heap.size w w8 := (bstep hb5 hb12)
 have hl25 : w.heap.size ≤ g17 := by have z2 := (hb24).size; omega
 refine WL.asg rfl rfl rfl rfl rfl (WL.nil (WE.next (WC.seq (WC.seq (WC.region (WL.mv rfl rfl rfl rfl rfl ?_))))))
 refine WL.val (.int .i64 ((((p.length + 1) : Nat) : Int))) rfl rfl rfl (fun za zC zh zk => len_53 rfl (zh.ev rfl) zk) ?_
 refine WL.val (.bool ((((((p.length + 1) : Nat) : Int) : Int) == (0 : Int)))) rfl rfl rfl (fun za zC zh zk => eql_3 rfl (zh.ev rfl) (zh.ev rfl) zk) ?_
 refine WL.nil (WE.next ?_)
 refine WC.condF rfl ((by simp; omega)) ?_
 refine WC.skip (WE.next (WC.seq (WC.seq ?_)))
 have hb27 : Below w.heap.size w w16 := (bstep hb24 hb20)
 have hc26 := bkeeps hb27 _ _ hpc
 have hc28 := bkeeps hb27 _ _ hpc
 have hb30 : Below w1.heap.size w1 w16 := (bstep hb12 hb20)
 have hB29 := hB4.below hb30
 refine WC.opt [(true, .val (.slice ((some ⟨pb, po, none⟩)) ((p.length + 1)) pc)), (true, .val (.pointer (some ⟨pb, po + 0, none⟩))), (true, .val (.int .i64 p0)), (true, .val (.bool ((decide ((p0 : Int) < (0 : Int)))))), (true, .val (.bool ((decide ((p0 : Int) < (0 : Int)))))), ((true && !(decide ((p0 : Int) < (0 : Int)))), .val (.slice ((some ⟨pb, po, none⟩)) ((p.length + 1)) pc)), ((true && !(decide ((p0 : Int) < (0 : Int)))), .val (.pointer (some ⟨pb, po + 0, none⟩))), ((true && !(decide ((p0 : Int) < (0 : Int)))), .val (.int .i64 p0)), ((true && !(decide ((p0 : Int) < (0 : Int)))), .val (.pointer (some ⟨g2, 1, none⟩))), ((true && !(decide ((p0 : Int) < (0 : Int)))), .val (.slice ta l.length tc)), ((true && !(decide ((p0 : Int) < (0 : Int)))), .val (.int .i64 (((l.length : Nat) : Int)))), ((true && !(decide ((p0 : Int) < (0 : Int)))), .val (.bool ((decide ((((l.length : Nat) : Int) : Int) ≤ (p0 : Int)))))), (true, .val (.bool (((decide ((p0 : Int) < (0 : Int))) || (decide ((((l.length : Nat) : Int) : Int) ≤ (p0 : Int)))))))] [(0, .agg #[.int .i64 f, .slice ta l.length tc]), (1, .slice ((some ⟨pb, po, none⟩)) ((p.length + 1)) pc), (2, .agg #[.int .i64 q.f, .slice qa q.args.length qc]), (3, .pointer (some ⟨g2, 0, none⟩)), (5, .pointer (some ⟨g9, 0, none⟩)), (6, .pointer (some ⟨g17, 0, none⟩)), (7, .bool false), (13, .bool ((((((p.length + 1) : Nat) : Int) : Int) == (0 : Int))))] ⟨rfl, rfl, rfl, rfl, rfl, rfl, rfl, rfl, trivial⟩ (by kernel_rfl) (by kernel_rfl) (by kernel_rfl) ?_ ?_
 ·refine ⟨⟨true, .none rfl, fun h w => optUndef h, fun zβ za zw zc => ?_⟩, ?_⟩
  ·exact wp_move rfl (zc.kn.ev rfl) ⟨_, rfl, Below.refl _ _, optDef zβ rfl⟩
  refine ⟨⟨true, .none rfl, fun h w => optUndef h, fun zβ za zw zc => ?_⟩, ?_⟩
  ·exact ix_53 (k := 0) rfl ((evt za 16).trans (optVal (zc.dep 0 16 (by kernel_rfl)) rfl rfl)) rfl (zc.kn.ev rfl) (by first | omega | (simp; omega)) ⟨_, rfl, Below.refl _ _, optDef zβ rfl⟩
  refine ⟨⟨true, .none rfl, fun h w => optUndef h, fun zβ za zw zc => ?_⟩, ?_⟩
  ·exact ld_3 rfl ((evt za 17).trans (optVal (zc.dep 1 17 (by kernel_rfl)) rfl rfl)) (bkeeps zc.below _ _ hc26) ⟨_, rfl, Below.refl _ _, optDef zβ rfl⟩
  refine ⟨⟨true, .none rfl, fun h w => optUndef h, fun zβ za zw zc => ?_⟩, ?_⟩
  ·exact lss_3 rfl ((evt za 18).trans (optVal (zc.dep 2 18 (by kernel_rfl)) rfl rfl)) (zc.kn.ev rfl) ⟨_, rfl, Below.refl _ _, optDef zβ rfl⟩
  refine ⟨⟨true, .none rfl, fun h w => optUndef h, fun zβ za zw zc => ?_⟩, ?_⟩
  ·exact wp_move rfl ((evt za 19).trans (optVal (zc.dep 3 19 (by kernel_rfl)) rfl rfl)) ⟨_, rfl, Below.refl _ _, optDef zβ rfl⟩
  refine ⟨⟨_, .no (d := true) rfl (fun v w h => h), fun h w => optUndef h, fun zβ za zw zc => ?_⟩, ?_⟩
  ·exact wp_move rfl (zc.kn.ev rfl) ⟨_, rfl, Below.refl _ _, optDef zβ rfl⟩
  refine ⟨⟨_, .no (d := true) rfl (fun v w h => h), fun h w => optUndef h, fun zβ za zw zc => ?_⟩, ?_⟩
  ·exact ix_53 (k := 0) rfl ((evt za 21).trans (optVal (zc.dep 5 21 (by kernel_rfl)) rfl zβ)) rfl (zc.kn.ev rfl) (by first | omega | (have zz := zβ; simp only [Bool.and_eq_true, Bool.or_eq_true, Bool.true_and, Bool.not_eq_true', Bool.or_eq_false_iff, Bool.and_eq_false_iff, beq_eq_false_iff_ne, ne_eq, beq_iff_eq, decide_eq_true_eq, decide_eq_false_iff_not, bne_iff_ne, bne_eq_false_iff_eq] at zz; omega)) ⟨_, rfl, Below.refl _ _, optDef zβ rfl⟩
  refine ⟨⟨_, .no (d := true) rfl (fun v w h => h), fun h w => optUndef h, fun zβ za zw zc => ?_⟩, ?_⟩
  ·exact ld_3 rfl ((evt za 22).trans (optVal (zc.dep 6 22 (by kernel_rfl)) rfl zβ)) (bkeeps zc.below _ _ hc28) ⟨_, rfl, Below.refl _ _, optDef zβ rfl⟩
  refine ⟨⟨_, .no (d := true) rfl (fun v w h => h), fun h w => optUndef h, fun zβ za zw zc => ?_⟩, ?_⟩
  ·exact fld_35_1 rfl (zc.kn.ev rfl) ⟨_, rfl, Below.refl _ _, optDef zβ rfl⟩
  refine ⟨⟨_, .no (d := true) rfl (fun v w h => h), fun h w => optUndef h, fun zβ za zw zc => ?_⟩, ?_⟩
  ·exact ld_25 rfl ((evt za 24).trans (optVal (zc.dep 8 24 (by kernel_rfl)) rfl zβ)) (bkeeps zc.below _ _ ((hB29.cell 1).trans rfl)) ⟨_, rfl, Below.refl _ _, optDef zβ rfl⟩
  refine ⟨⟨_, .no (d := true) rfl (fun v w h => h), fun h w => optUndef h, fun zβ za zw zc => ?_⟩, ?_⟩
  ·exact len_25 rfl ((evt za 25).trans (optVal (zc.dep 9 25 (by kernel_rfl)) rfl zβ)) ⟨_, rfl, Below.refl _ _, optDef zβ rfl⟩
  refine ⟨⟨_, .no (d := true) rfl (fun v w h => h), fun h w => optUndef h, fun zβ za zw zc => ?_⟩, ?_⟩
  ·exact geq_3 rfl ((evt za 23).trans (optVal (zc.dep 7 23 (by kernel_rfl)) rfl zβ)) ((evt za 26).trans (optVal (zc.dep 10 26 (by kernel_rfl)) rfl zβ)) ⟨_, rfl, Below.refl _ _, optDef zβ rfl⟩
  refine ⟨⟨true, .none rfl, fun h w => optUndef h, fun zβ za zw zc => ?_⟩, ?_⟩
  ·exact wp_or rfl ((evt za 20).trans (optVal (zc.dep 4 20 (by kernel_rfl)) rfl rfl)) (fun hp => ((evt za 27).trans (optVal (zc.dep 11 27 (by kernel_rfl)) rfl (bMkN zβ hp)))) ⟨_, rfl, Below.refl _ _, optDef zβ rfl⟩
  exact trivial
 ·intro za w31 zh hb32 zu
  have zh := zh.cons (d := 28) (v := .bool (((decide ((p0 : Int) < (0 : Int))) || (decide ((((l.length : Nat) : Int) : Int) ≤ (p0 : Int)))))) (optVal (zu 12 28 (by kernel_rfl)) rfl rfl)
  clear zu
  refine WE.go zh ?_
  refine WE.next ?_
  refine WC.cond rfl (fun h33 => ?_) (fun h33 => ?_)
  ·have h33 : ((p0 : Int) < (0 : Int)) ∨ ((((l.length : Nat) : Int) : Int) ≤ (p0 : Int)) := by simpa using h33
   have hp1 : p0 < 0 ∨ (l.length : Int) ≤ p0 := by have z := h33; omega
   refine WC.seq (WC.region ?_)
   refine WL.val (.agg #[.int .i64 0, .slice none 0 0]) rfl rfl rfl (fun za zC zh zk => build_35_ rfl  zk) ?_
   have hB34 := hB19.below hb32
   refine WL.step (post := fun _ w' => Upd g17 w31 w' ∧ Blk w' g17 35 #[.int .i64 0, .slice none 0 0]) rfl rfl rfl (fun za zC zh zk => st_35 rfl (zh.ev rfl) (zh.ev rfl) rfl rfl hB34 (by first | decide | simp) (fun v => zk v _ ⟨(Upd.at_ _ _ _ _).trans (Upd.at_ _ _ _ _), (hB34.set_ 0 _).set_ 1 _⟩)) ?_
   rintro v38 w35 ⟨hu36, hB37⟩
   have hb39 : Below w.heap.size w w31 := (bstep hb27 hb32)
   have hb40 := upd_below hb39 hu36 (by omega)
   have hB41 := hB29.below hb32
   have hB42 := upd_blk hB41 hu36 (by omega)
   have hb44 : Below w8.heap.size w8 w31 := (bstep hb20 hb32)
   have hB43 := hB11.below hb44
   have hB45 := upd_blk hB43 hu36 (by omega)
   refine WL.asg rfl rfl rfl rfl rfl (WL.nil (WE.next (WC.ret (WE.thenRet ?_))))
   refine WE.retAny (v := .tuple #[.agg #[.int .i64 0, .slice none 0 0], .bool false]) (fun za zh => ?_) ?_
   ·have z0 : za.tmps[6]?.getD undef = .pointer (some ⟨g17, 0, none⟩) := by rw [← Array.getD_eq_getD_getElem?]; exact zh.knows 6 _ rfl
    have y0_0 : w35.cell? ⟨g17, 0, none⟩ = some (.int .i64 0) := ((hB37.cell 0).trans rfl)
    have y0_1 : w35.cell? ⟨g17, 1, none⟩ = some (.slice none 0 0) := ((hB37.cell 1).trans rfl)
    have z1 : za.tmps[7]?.getD undef = .bool false := by rw [← Array.getD_eq_getD_getElem?]; exact zh.knows 7 _ rfl
    simp [results, Try.results48, z0, y0_0, y0_1, z1, go_sem]
   ·have hpn : T.putAt q (p0 :: p) (.mk f l) = none := by rw [T.putAt, if_pos hp1]
    unfold putX putOk
    rw [hpn]
    exact ⟨_, rfl, ⟨_, rfl, newT_leaf (by unfold I64; omega)⟩, hb40⟩
  ·have h33 : ¬ (((p0 : Int) < (0 : Int)) ∨ ((((l.length : Nat) : Int) : Int) ≤ (p0 : Int))) := by simpa using h33
   have hp1 : ¬ (p0 < 0 ∨ (l.length : Int) ≤ p0) := by have z := h33; omega
   have hi0 : p0.toNat < l.length := by omega
   have hpc2 : w.cell? ⟨pb, po, none⟩ = some (.int .i64 ((p0.toNat : Nat) : Int)) := by rw [show ((p0.toNat : Nat) : Int) = p0 by omega]; exact hpc
   refine WC.skip (WE.next (WC.seq ?_))
   have hB46 := hB29.below hb32
   have hl47 := hB46.lt
   have hb49 : Below w8.heap.size w8 w31 := (bstep hb20 hb32)
   have hB48 := hB11.below hb49
   have hl50 := hB48.lt
   have hB51 := hB19.below hb32
   have hl52 := hB51.lt
   have hb54 : Below w.heap.size w w31 := (bstep hb24 hb49)
   have hc53 := bkeeps hb54 _ _ hpc2
   obtain ⟨b55, o56, A57, C58, ha59, hc60⟩ := IsTs.open hl
   refine WC.boxV (fun zq => match zq with | 0 => fun zS zw zv => ∃ zu, zv = .tuple #[zu, .bool ((putOk q p (tget l p0.toNat)))] ∧ InT zS zw ((putX q p (tget l p0.toNat))) zu | 1 => fun zS zw zv => ∃ zu, zv = .tuple #[zu, .bool ((putOk q p (tget l p0.toNat)))] ∧ InT zS zw ((putX q p (tget l p0.toNat))) zu | _ + 2 => fun zS zw zv => InT zS zw ((putX q p (tget l p0.toNat))) zv) (fun zq => match zq with | 0 => fun zv => ∃ zu, zv = .tuple #[zu, .bool ((putOk q p (tget l p0.toNat)))] | 1 => fun zv => ∃ zu, zv = .tuple #[zu, .bool ((putOk q p (tget l p0.toNat)))] | _ + 2 => fun zv => True) (fun zq _ _ _ _ hk h => match zq, h with | 0, h => by obtain ⟨u, e, h1⟩ := h; exact ⟨u, e, InT.keep hk h1⟩ | 1, h => by obtain ⟨u, e, h1⟩ := h; exact ⟨u, e, InT.keep hk h1⟩ | _ + 2, h => InT.keep hk h) (fun zq _ _ _ _ hk h => match zq, h with | 0, h => by obtain ⟨u, e, h1⟩ := h; exact ⟨u, e, InT.mono hk h1⟩ | 1, h => by obtain ⟨u, e, h1⟩ := h; exact ⟨u, e, InT.mono hk h1⟩ | _ + 2, h => InT.mono hk h) [(true, .pointer (some ⟨g2, 1, none⟩)), (true, .slice ta l.length tc), (true, .slice ((some ⟨pb, po, none⟩)) ((p.length + 1)) pc), (true, .pointer (some ⟨pb, po + 0, none⟩)), (true, .int .i64 (((p0.toNat : Nat) : Int))), (true, .pointer (some ⟨b55, o56 + p0.toNat * 2, none⟩)), (true, .agg #[.int .i64 ((tget l p0.toNat).f), .slice ((A57 p0.toNat)) ((tget l p0.toNat).args.length) ((C58 p0.toNat))]), (true, .slice ((some ⟨pb, po, none⟩)) ((p.length + 1)) pc), (true, .slice ((slA ((some ⟨pb, po, none⟩)) 1 1 pc)) (((p.length + 1) - 1)) ((pc - 1))), (true, .agg #[.int .i64 q.f, .slice qa q.args.length qc]), (true, undef), (true, undef), (true, undef), (true, .bool ((putOk q p (tget l p0.toNat)))), (true, undef), (true, undef), (true, .bool ((putOk q p (tget l p0.toNat))))] [(0, .agg #[.int .i64 f, .slice ta l.length tc]), (1, .slice ((some ⟨pb, po, none⟩)) ((p.length + 1)) pc), (2, .agg #[.int .i64 q.f, .slice qa q.args.length qc]), (3, .pointer (some ⟨g2, 0, none⟩)), (5, .pointer (some ⟨g9, 0, none⟩)), (6, .pointer (some ⟨g17, 0, none⟩)), (7, .bool false), (13, .bool ((((((p.length + 1) : Nat) : Int) : Int) == (0 : Int)))), (28, .bool (((decide ((p0 : Int) < (0 : Int))) || (decide ((((l.length : Nat) : Int) : Int) ≤ (p0 : Int))))))] (t := 35) (z := #[.int .i64 0, .slice none 0 0]) [10, 11, 12] 2 14 15 8 (by decide) (by decide) (by kernel_rfl) rfl ⟨rfl, rfl, rfl, rfl, rfl, rfl, rfl, rfl, rfl, trivial⟩ (by kernel_rfl) (by kernel_rfl) (by kernel_rfl) ?_ ?_
   ·refine ⟨.inl ⟨rfl, rfl, fun za zw zS zc => ?_⟩, ?_⟩
    ·exact fld_35_1 rfl (zc.kn.ev rfl) ⟨_, rfl, Below.refl _ _, fun _ => rfl⟩
    refine ⟨.inl ⟨rfl, rfl, fun za zw zS zc => ?_⟩, ?_⟩
    ·exact ld_25 rfl ((evt za 31).trans (valVal1 (zc.dep 0 31 (by kernel_rfl) (by decide)) rfl rfl)) (bkeeps zc.below _ _ ((hB46.cell 1).trans rfl)) ⟨_, rfl, Below.refl _ _, fun _ => rfl⟩
    refine ⟨.inl ⟨rfl, rfl, fun za zw zS zc => ?_⟩, ?_⟩
    ·exact wp_move rfl (zc.kn.ev rfl) ⟨_, rfl, Below.refl _ _, fun _ => rfl⟩
    refine ⟨.inl ⟨rfl, rfl, fun za zw zS zc => ?_⟩, ?_⟩
    ·exact ix_53 (k := 0) rfl ((evt za 33).trans (valVal1 (zc.dep 2 33 (by kernel_rfl) (by decide)) rfl rfl)) rfl (zc.kn.ev rfl) (by first | omega | (simp; omega)) ⟨_, rfl, Below.refl _ _, fun _ => rfl⟩
    refine ⟨.inl ⟨rfl, rfl, fun za zw zS zc => ?_⟩, ?_⟩
    ·exact ld_3 rfl ((evt za 34).trans (valVal1 (zc.dep 3 34 (by kernel_rfl) (by decide)) rfl rfl)) (bkeeps zc.below _ _ hc53) ⟨_, rfl, Below.refl _ _, fun _ => rfl⟩
    refine ⟨.inl ⟨rfl, rfl, fun za zw zS zc => ?_⟩, ?_⟩
    ·exact ix_25 (k := p0.toNat) rfl ((evt za 32).trans (valVal1 (zc.dep 1 32 (by kernel_rfl) (by decide)) rfl rfl)) (ha59 p0.toNat (by first | omega | (simp; omega))) ((evt za 35).trans (valVal1 (zc.dep 4 35 (by kernel_rfl) (by decide)) rfl rfl)) (by first | omega | (simp; omega)) ⟨_, rfl, Below.refl _ _, fun _ => rfl⟩
    refine ⟨.inl ⟨rfl, rfl, fun za zw zS zc => ?_⟩, ?_⟩
    ·exact ld_35 rfl ((evt za 36).trans (valVal1 (zc.dep 5 36 (by kernel_rfl) (by decide)) rfl rfl)) (bkeeps (bstep hb54 zc.below) _ _ (hc60 p0.toNat (by first | omega | (simp; omega))).1) (bkeeps (bstep hb54 zc.below) _ _ (hc60 p0.toNat (by first | omega | (simp; omega))).2.1) ⟨_, rfl, Below.refl _ _, fun _ => rfl⟩
    refine ⟨.inl ⟨rfl, rfl, fun za zw zS zc => ?_⟩, ?_⟩
    ·exact wp_move rfl (zc.kn.ev rfl) ⟨_, rfl, Below.refl _ _, fun _ => rfl⟩
    refine ⟨.inl ⟨rfl, rfl, fun za zw zS zc => ?_⟩, ?_⟩
    ·exact slo_53 (k := 1) rfl ((evt za 38).trans (valVal1 (zc.dep 7 38 (by kernel_rfl) (by decide)) rfl rfl)) (zc.kn.ev rfl) (by omega) (by omega) ⟨_, rfl, Below.refl _ _, fun _ => rfl⟩
    refine ⟨.inl ⟨rfl, rfl, fun za zw zS zc => ?_⟩, ?_⟩
    ·exact ld_35 rfl (zc.kn.ev rfl) (bkeeps zc.below _ _ ((hB48.cell 0).trans rfl)) (bkeeps zc.below _ _ ((hB48.cell 1).trans rfl)) ⟨_, rfl, Below.refl _ _, fun _ => rfl⟩
    refine ⟨.inr (.inl ⟨0, rfl, rfl, by kernel_rfl, fun za zw zS zc => ?_⟩), ?_⟩
    ·exact wp_call (by kernel_rfl) rfl (hv3 ((evt za 37).trans (valVal1 (zc.dep 6 37 (by kernel_rfl) (by decide)) rfl rfl)) ((evt za 39).trans (valVal1 (zc.dep 8 39 (by kernel_rfl) (by decide)) rfl rfl)) ((evt za 40).trans (valVal1 (zc.dep 9 40 (by kernel_rfl) (by decide)) rfl rfl))) (ih (tget l p0.toNat) _ _ _ _ _ (size_at hi0 hz) (by unfold maxLen; omega) (IsT.below (bstep hb54 zc.below) (hc60 p0.toNat (by first | omega | (simp; omega))).2.2) (PIs.below hpt (bstep hb54 zc.below)) (IsT.below (bstep hb54 zc.below) hvq0)) (fun v w' h => by obtain ⟨⟨u, e, h1⟩, h2⟩ := h; exact ⟨v, rfl, h2, ⟨u, e, InT.mono (fun b hb _ => .inr hb) h1⟩, ⟨u, e⟩⟩)
    refine ⟨.inr (.inl ⟨1, rfl, rfl, by kernel_rfl, fun za zw zS zc => ?_⟩), ?_⟩
    ·obtain ⟨u, e, h1⟩ := (zc.made 0 10 41 rfl (by kernel_rfl) (by kernel_rfl))
     exact wp_move rfl ((evt za 41).trans e) ⟨_, rfl, Below.refl _ _, ⟨u, rfl, InT.mono (fun b hb _ => .inl hb) h1⟩, ⟨u, rfl⟩⟩
    refine ⟨.inr (.inl ⟨2, rfl, rfl, by kernel_rfl, fun za zw zS zc => ?_⟩), ?_⟩
    ·obtain ⟨u, e, h1⟩ := (zc.made 1 11 30 rfl (by kernel_rfl) (by kernel_rfl))
     exact ext2_0 rfl ((evt za 30).trans e) ⟨u, rfl, Below.refl _ _, InT.mono (fun b hb _ => .inl hb) h1, trivial⟩
    refine ⟨.inl ⟨rfl, rfl, fun za zw zS zc => ?_⟩, ?_⟩
    ·obtain ⟨u, e⟩ := (zc.told 1 11 30 rfl (by kernel_rfl))
     exact ext2_1 rfl ((evt za 30).trans e) ⟨_, rfl, Below.refl _ _, fun _ => rfl⟩
    refine ⟨.inr (.inr (.inl ⟨rfl, rfl, fun za zw zS zc => ?_⟩)), ?_⟩
    ·exact alloc_35 rfl ⟨rfl, rfl⟩
    refine ⟨.inr (.inr (.inr ⟨rfl, rfl, 8, 42, 12, by kernel_rfl, rfl, by kernel_rfl, fun za zw g zS zc z1 zB zP => ?_⟩)), ?_⟩
    ·obtain ⟨_, a1, c1, e1, _⟩ := InT.form zP
     rw [e1]
     exact st_35 rfl ((evt za 8).trans z1) ((evt za 42).trans e1) rfl rfl zB (by first | decide | simp) (fun v => ⟨v, rfl, (Upd.at_ _ _ _ _).trans (Upd.at_ _ _ _ _), (zB.set_ 0 _).set_ 1 _⟩)
    refine ⟨.inl ⟨rfl, rfl, fun za zw zS zc => ?_⟩, ?_⟩
    ·exact wp_assign rfl ((evt za 43).trans (valVal1 (zc.dep 13 43 (by kernel_rfl) (by decide)) rfl rfl)) ⟨_, rfl, Below.refl _ _, fun _ => rfl⟩
    exact trivial
   ·intro za w61 g62 vy63 zh hb64 hg65 hB66 hP67 hp68 zu
    have hl69 : g2 < g62 := by have z1 := hB46.lt; omega
    have hl70 : g9 < g62 := by have z1 := hB48.lt; omega
    have hl71 : g17 < g62 := by have z1 := hB51.lt; omega
    obtain ⟨_, a72, c73, rfl, _, _, _⟩ := InT.form hP67
    have hB74 : Blk w61 g62 35 #[.int .i64 (((putX q p (tget l p0.toNat))).f), .slice a72 (((putX q p (tget l p0.toNat))).args.length) c73] := hB66
    have zh := zh.cons (d := 8) hp68
    have zh := zh.cons (d := 9) (v := .bool ((putOk q p (tget l p0.toNat)))) (valVal1 (zu 16 9 (by kernel_rfl) (by decide)) rfl rfl)
    clear zu
    have hP75 : InT (fun b => w31.heap.size ≤ b ∧ b ≠ g62) w61 ((putX q p (tget l p0.toNat))) (.agg #[.int .i64 (((putX q p (tget l p0.toNat))).f), .slice a72 (((putX q p (tget l p0.toNat))).args.length) c73]) := hP67
    have hw5 : w.heap.size ≤ w31.heap.size := hb54.size
    refine WE.go zh ?_
    refine WE.next (WC.seq (WC.seq (WC.region (WL.mv rfl rfl rfl rfl rfl ?_))))
    refine WL.val (.bool ((!(putOk q p (tget l p0.toNat))))) rfl rfl rfl (fun za zC zh zk => wp_not rfl (zh.ev rfl) zk) ?_
    refine WL.nil (WE.next ?_)
    refine WC.cond rfl (fun h76 => ?_) (fun h76 => ?_)
    ·have h76 : ¬ ((putOk q p (tget l p0.toNat)) = true) := by simpa using h76
     have hso : putOk q p (tget l p0.toNat) = false := by
      cases hh9 : putOk q p (tget l p0.toNat) with
      | false => rfl
      | true => rw [hh9] at h76; simp at h76
     refine WC.seq (WC.region ?_)
     refine WL.val (.agg #[.int .i64 0, .slice none 0 0]) rfl rfl rfl (fun za zC zh zk => build_35_ rfl  zk) ?_
     have hB77 := hB51.below hb64
     refine WL.step (post := fun _ w' => Upd g17 w61 w' ∧ Blk w' g17 35 #[.int .i64 0, .slice none 0 0]) rfl rfl rfl (fun za zC zh zk => st_35 rfl (zh.ev rfl) (zh.ev rfl) rfl rfl hB77 (by first | decide | simp) (fun v => zk v _ ⟨(Upd.at_ _ _ _ _).trans (Upd.at_ _ _ _ _), (hB77.set_ 0 _).set_ 1 _⟩)) ?_
     rintro v81 w78 ⟨hu79, hB80⟩
     have hb82 : Below w.heap.size w w61 := (bstep hb54 hb64)
     have hb83 := upd_below hb82 hu79 (by omega)
     have hB84 := hB46.below hb64
     have hB85 := upd_blk hB84 hu79 (by omega)
     have hB86 := hB48.below hb64
     have hB87 := upd_blk hB86 hu79 (by omega)
     have hB88 := upd_blk hB74 hu79 (by omega)
     refine WL.asg rfl rfl rfl rfl rfl (WL.nil (WE.next (WC.ret (WE.thenRet ?_))))
     refine WE.retAny (v := .tuple #[.agg #[.int .i64 0, .slice none 0 0], .bool false]) (fun za zh => ?_) ?_
     ·have z0 : za.tmps[6]?.getD undef = .pointer (some ⟨g17, 0, none⟩) := by rw [← Array.getD_eq_getD_getElem?]; exact zh.knows 6 _ rfl
      have y0_0 : w78.cell? ⟨g17, 0, none⟩ = some (.int .i64 0) := ((hB80.cell 0).trans rfl)
      have y0_1 : w78.cell? ⟨g17, 1, none⟩ = some (.slice none 0 0) := ((hB80.cell 1).trans rfl)
      have z1 : za.tmps[7]?.getD undef = .bool false := by rw [← Array.getD_eq_getD_getElem?]; exact zh.knows 7 _ rfl
      simp [results, Try.results48, z0, y0_0, y0_1, z1, go_sem]
     ·have hpn : T.putAt q (p0 :: p) (.mk f l) = none := by rw [T.putAt, if_neg hp1]; cases hq9 : T.putAt q p (tget l p0.toNat) with | none => rfl | some y => unfold putOk at hso; rw [hq9] at hso; cases hso
      unfold putX putOk
      rw [hpn]
      exact ⟨_, rfl, ⟨_, rfl, newT_leaf (by unfold I64; omega)⟩, hb83⟩
    ·have h76 : ¬ (¬ ((putOk q p (tget l p0.toNat)) = true)) := by simpa using h76
     have hso : putOk q p (tget l p0.toNat) = true := by
      cases hh9 : putOk q p (tget l p0.toNat) with
      | true => rfl
      | false => rw [hh9] at h76; simp at h76
     refine WC.skip (WE.next (WC.seq (WC.region ?_)))
     have hB89 := hB46.below hb64
     refine WL.val _ rfl rfl rfl (fun za zC zh zk => ld_35 rfl (zh.ev rfl) ((hB89.cell 0).trans rfl) ((hB89.cell 1).trans rfl) zk) ?_
     have hw9 : w.heap.size ≤ w61.heap.size := (Nat.le_trans hb54.size hb64.size)
     have hx9 : InT (fun b => w31.heap.size ≤ b ∧ b < w61.heap.size) w61 (putX q p (tget l p0.toNat)) (.agg #[.int .i64 (putX q p (tget l p0.toNat)).f, .slice a72 (putX q p (tget l p0.toNat)).args.length c73]) := InT.mono (fun b hb hlt => ⟨hb.1, hlt⟩) hP75
     have hw59 : w31.heap.size ≤ w61.heap.size := hb64.size
     have hl97 := hB89.lt
     have hB98 := hB48.below hb64
     have hl99 := hB98.lt
     have hB100 := hB51.below hb64
     have hl101 := hB100.lt
     have hl102 := hB74.lt
     have hb103 : Below w.heap.size w w61 := (bstep hb54 hb64)
     refine WL.call rfl rfl rfl (fun za zh zC => wp_call (by kernel_rfl) rfl (hv1 (zh.ev rfl))) (rcopyD_any (.mk f l) _ _ hz (IsT.below hb103 hv0)) ?_
     rintro _ w104 ⟨⟨ra90, rc91, rfl, h92, h93, hd94, ho95⟩, hb96⟩
     simp only [T.f_mk, T.args_mk] at h92 h93 hd94 ho95
     have hlt9 := hd94.lt
     have hd9 : RowD eltT (fun b => w31.heap.size ≤ b ∧ obk ra90 l.length rc91 ≠ some b) w104 35 ra90 rc91 l.length l := hd94.mono (fun b q _ => ⟨by omega, q.2⟩) (fun b q => q.2)
     refine WL.step (post := NewBlk w104 35 #[.int .i64 0, .slice none 0 0]) rfl rfl rfl (fun za zC zh zk => alloc_35 rfl (zk _ _ (newBlk _ _ _))) ?_
     rintro _ w105 ⟨g106, rfl, hg107, hB108, hb109, hz110⟩
     have hl111 : g2 < g106 := by have z1 := hB89.lt; have z2 := (hb96).size; omega
     have hl112 : g9 < g106 := by have z1 := hB98.lt; have z2 := (hb96).size; omega
     have hl113 : g17 < g106 := by have z1 := hB100.lt; have z2 := (hb96).size; omega
     have hl114 : g62 < g106 := by have z1 := hB74.lt; have z2 := (hb96).size; omega
     have hb115 : Below w.heap.size w w104 := (bstep hb103 hb96)
     have hl116 : w.heap.size ≤ g106 := by have z2 := (hb115).size; omega
     have hl117 : w61.heap.size ≤ g106 := by have z2 := (hb96).size; omega
     have hl118 : w104.heap.size ≤ g106 := by omega
     refine WL.step (post := fun _ w' => Upd g106 w105 w' ∧ Blk w' g106 35 #[.int .i64 f, .slice ra90 l.length rc91]) rfl rfl rfl (fun za zC zh zk => st_35 rfl (zh.ev rfl) (zh.ev rfl) rfl rfl hB108 (by first | decide | simp) (fun v => zk v _ ⟨(Upd.at_ _ _ _ _).trans (Upd.at_ _ _ _ _), (hB108.set_ 0 _).set_ 1 _⟩)) ?_
     rintro v122 w119 ⟨hu120, hB121⟩
     have hb123 : Below w.heap.size w w105 := (bstep hb115 hb109)
     have hb124 : Below w61.heap.size w61 w105 := (bstep hb96 hb109)
     have hb125 := upd_below hb123 hu120 (by omega)
     have hb126 := upd_below hb124 hu120 (by omega)
     have hb127 := upd_below hb109 hu120 (by omega)
     have hB128 := hB89.below hb124
     have hB129 := upd_blk hB128 hu120 (by omega)
     have hB130 := hB98.below hb124
     have hB131 := upd_blk hB130 hu120 (by omega)
     have hB132 := hB100.below hb124
     have hB133 := upd_blk hB132 hu120 (by omega)
     have hB134 := hB74.below hb124
     have hB135 := upd_blk hB134 hu120 (by omega)
     refine WL.nil (WE.sub (K' := [(0, .agg #[.int .i64 f, .slice ta l.length tc]), (1, .slice ((some ⟨pb, po, none⟩)) ((p.length + 1)) pc), (2, .agg #[.int .i64 q.f, .slice qa q.args.length qc]), (3, .pointer (some ⟨g2, 0, none⟩)), (5, .pointer (some ⟨g9, 0, none⟩)), (6, .pointer (some ⟨g17, 0, none⟩)), (7, .bool false), (8, .pointer (some ⟨g62, 0, none⟩)), (9, .bool ((putOk q p (tget l p0.toNat)))), (10, .pointer (some ⟨g106, 0, none⟩)), (13, .bool ((((((p.length + 1) : Nat) : Int) : Int) == (0 : Int)))), (28, .bool (((decide ((p0 : Int) < (0 : Int))) || (decide ((((l.length : Nat) : Int) : Int) ≤ (p0 : Int)))))), (45, .bool ((!(putOk q p (tget l p0.toNat)))))]) ⟨rfl, rfl, rfl, rfl, rfl, rfl, rfl, rfl, rfl, rfl, rfl, rfl, rfl, trivial⟩ ?_)
     refine WE.next (WC.seq ?_)
     have ho136 := hd9.below hb127
     obtain ⟨gz9, cs9, e9, ho9, hB9, hsz9⟩ := RowD.blkT ho136 (by omega)
     have hg9a := ho95 gz9 ho9
     have hg9b := hlt9 gz9 ho9
     have ho137 := hx9.below hb126
     have hc138 := bkeeps hb125 _ _ hpc2
     have hSlt : ∀ b, b = gz9 → b < w119.heap.size := fun b e => e ▸ hB9.lt
     refine WC.tail1 (S := ((fun b => b = gz9))) [(true, .val (.pointer (some ⟨g106, 1, none⟩))), (true, .val (.slice ra90 l.length rc91)), (true, .val (.slice ((some ⟨pb, po, none⟩)) ((p.length + 1)) pc)), (true, .val (.pointer (some ⟨pb, po + 0, none⟩))), (true, .val (.int .i64 (((p0.toNat : Nat) : Int)))), (true, .val (.agg #[.int .i64 (((putX q p (tget l p0.toNat))).f), .slice a72 (((putX q p (tget l p0.toNat))).args.length) c73])), (true, .val (.pointer (some ⟨gz9, 0 + p0.toNat * 2, none⟩))), (true, .val undef)] [(0, .agg #[.int .i64 f, .slice ta l.length tc]), (1, .slice ((some ⟨pb, po, none⟩)) ((p.length + 1)) pc), (2, .agg #[.int .i64 q.f, .slice qa q.args.length qc]), (3, .pointer (some ⟨g2, 0, none⟩)), (5, .pointer (some ⟨g9, 0, none⟩)), (6, .pointer (some ⟨g17, 0, none⟩)), (7, .bool false), (8, .pointer (some ⟨g62, 0, none⟩)), (9, .bool ((putOk q p (tget l p0.toNat)))), (10, .pointer (some ⟨g106, 0, none⟩)), (13, .bool ((((((p.length + 1) : Nat) : Int) : Int) == (0 : Int)))), (28, .bool (((decide ((p0 : Int) < (0 : Int))) || (decide ((((l.length : Nat) : Int) : Int) ≤ (p0 : Int)))))), (45, .bool ((!(putOk q p (tget l p0.toNat)))))] 7 (fun wz => RowD eltT (fun b => w31.heap.size ≤ b ∧ obk ra90 l.length rc91 ≠ some b) wz 35 ra90 rc91 l.length (l.set p0.toNat (putX q p (tget l p0.toNat)))) (fun w w' hb h => h.below hb) ⟨rfl, rfl, rfl, rfl, rfl, rfl, rfl, rfl, rfl, rfl, rfl, rfl, rfl, trivial⟩ (by kernel_rfl) (by kernel_rfl) (by kernel_rfl) (by kernel_rfl) ?_ ?_
     ·refine ⟨.inl ⟨rfl, true, .none rfl, (fun gg b h => by cases h), fun h w => optUndef h, fun zβ za zw zc => ?_⟩, ?_⟩
      ·exact fld_35_1 rfl (zc.kn.ev rfl) ⟨_, rfl, Below.refl _ _, optDef zβ rfl⟩
      refine ⟨.inl ⟨rfl, true, .none rfl, (fun gg b h => by cases h), fun h w => optUndef h, fun zβ za zw zc => ?_⟩, ?_⟩
      ·exact ld_25 rfl ((evt za 49).trans (optSVal (zc.dep 0 49 (by kernel_rfl) (by decide)) rfl rfl)) (bkeeps (zc.early (by kernel_rfl)) _ _ ((hB121.cell 1).trans rfl)) ⟨_, rfl, Below.refl _ _, optDef zβ rfl⟩
      refine ⟨.inl ⟨rfl, true, .none rfl, (fun gg b h => by cases h), fun h w => optUndef h, fun zβ za zw zc => ?_⟩, ?_⟩
      ·exact wp_move rfl (zc.kn.ev rfl) ⟨_, rfl, Below.refl _ _, optDef zβ rfl⟩
      refine ⟨.inl ⟨rfl, true, .none rfl, (fun gg b h => by cases h), fun h w => optUndef h, fun zβ za zw zc => ?_⟩, ?_⟩
      ·exact ix_53 (k := 0) rfl ((evt za 51).trans (optSVal (zc.dep 2 51 (by kernel_rfl) (by decide)) rfl rfl)) rfl (zc.kn.ev rfl) (by first | omega | (simp; omega)) ⟨_, rfl, Below.refl _ _, optDef zβ rfl⟩
      refine ⟨.inl ⟨rfl, true, .none rfl, (fun gg b h => by cases h), fun h w => optUndef h, fun zβ za zw zc => ?_⟩, ?_⟩
      ·exact ld_3 rfl ((evt za 52).trans (optSVal (zc.dep 3 52 (by kernel_rfl) (by decide)) rfl rfl)) (bkeeps (zc.early (by kernel_rfl)) _ _ hc138) ⟨_, rfl, Below.refl _ _, optDef zβ rfl⟩
      refine ⟨.inl ⟨rfl, true, .none rfl, (fun gg b h => by cases h), fun h w => optUndef h, fun zβ za zw zc => ?_⟩, ?_⟩
      ·exact ld_35 rfl (zc.kn.ev rfl) (bkeeps (zc.early (by kernel_rfl)) _ _ ((hB135.cell 0).trans rfl)) (bkeeps (zc.early (by kernel_rfl)) _ _ ((hB135.cell 1).trans rfl)) ⟨_, rfl, Below.refl _ _, optDef zβ rfl⟩
      refine ⟨.inl ⟨rfl, true, .none rfl, (fun gg b h => by cases h), fun h w => optUndef h, fun zβ za zw zc => ?_⟩, ?_⟩
      ·exact ix_25 (k := p0.toNat) rfl ((evt za 50).trans (optSVal (zc.dep 1 50 (by kernel_rfl) (by decide)) rfl rfl)) e9 ((evt za 53).trans (optSVal (zc.dep 4 53 (by kernel_rfl) (by decide)) rfl rfl)) (by first | omega | (simp; omega)) ⟨_, rfl, Below.refl _ _, optDef zβ rfl⟩
      refine ⟨.inr ⟨rfl, rfl, fun za zw zc => ?_⟩, ?_⟩
      ·have zv := InT.below zc.below ho137
       have zd := RowD.below ho136 zc.below
       rw [e9] at zd
       exact st_35 rfl ((evt za 55).trans (optSVal (zc.dep 6 55 (by kernel_rfl) (by decide)) rfl rfl)) ((evt za 54).trans (optSVal (zc.dep 5 54 (by kernel_rfl) (by decide)) rfl rfl)) rfl rfl (hB9.below zc.below) (hsz9 _ hi0) (fun v => ⟨v, rfl, (by rw [e9]; exact RowD.setT zd hi0 (zv.mono (fun b hb _ => ⟨hb.1, fun q => by have z := ho95 b (by rw [e9]; exact q); omega⟩))), .ofUpd ((Upd.at_ _ _ _ _).trans (Upd.at_ _ _ _ _)) rfl⟩)
      exact trivial
     ·intro za w139 zh hG140 hc141 zu
      have hb142 := chg_below hb125 hc141 (fun b hb => (by omega))
      have hB143 := chg_blk hB129 hc141 (by omega)
      have hB144 := chg_blk hB131 hc141 (by omega)
      have hB145 := chg_blk hB133 hc141 (by omega)
      have hB146 := chg_blk hB135 hc141 (by omega)
      have hB147 := chg_blk hB121 hc141 (by omega)
      clear zu
      refine WE.go zh ?_
      refine WE.next (WC.seq (WC.region ?_))
      refine WL.val _ rfl rfl rfl (fun za zC zh zk => ld_35 rfl (zh.ev rfl) ((hB147.cell 0).trans rfl) ((hB147.cell 1).trans rfl) zk) ?_
      refine WL.step (post := fun _ w' => Upd g17 w139 w' ∧ Blk w' g17 35 #[.int .i64 f, .slice ra90 l.length rc91]) rfl rfl rfl (fun za zC zh zk => st_35 rfl (zh.ev rfl) (zh.ev rfl) rfl rfl hB145 (by first | decide | simp) (fun v => zk v _ ⟨(Upd.at_ _ _ _ _).trans (Upd.at_ _ _ _ _), (hB145.set_ 0 _).set_ 1 _⟩)) ?_
      rintro v151 w148 ⟨hu149, hB150⟩
      have hb152 := upd_below hb142 hu149 (by omega)
      have hB153 := upd_blk hB143 hu149 (by omega)
      have hB154 := upd_blk hB144 hu149 (by omega)
      have hB155 := upd_blk hB146 hu149 (by omega)
      have hB156 := upd_blk hB147 hu149 (by omega)
      have hd157 := RowD.chg (Z := fun b => b = g17) hG140 (.ofUpd hu149 rfl) (fun b q e => by have z := ho95 b q; have z2 : b = g17 := e; omega) (fun b q e => by have z := q.1; have z2 : b = g17 := e; omega)
      refine WL.asg rfl rfl rfl rfl rfl (WL.nil (WE.next (WC.ret ?_)))
      refine WE.retAny (v := .tuple #[.agg #[.int .i64 f, .slice ra90 l.length rc91], .bool true]) (fun za zh => ?_) ?_
      ·have z0 : za.tmps[6]?.getD undef = .pointer (some ⟨g17, 0, none⟩) := by rw [← Array.getD_eq_getD_getElem?]; exact zh.knows 6 _ rfl
       have y0_0 : w148.cell? ⟨g17, 0, none⟩ = some (.int .i64 f) := ((hB150.cell 0).trans rfl)
       have y0_1 : w148.cell? ⟨g17, 1, none⟩ = some (.slice ra90 l.length rc91) := ((hB150.cell 1).trans rfl)
       have z1 : za.tmps[7]?.getD undef = .bool true := by rw [← Array.getD_eq_getD_getElem?]; exact zh.knows 7 _ rfl
       simp [results, Try.results48, z0, y0_0, y0_1, z1, go_sem]
      ·have hpn : T.putAt q (p0 :: p) (.mk f l) = some (.mk f (l.set p0.toNat (putX q p (tget l p0.toNat)))) := by
        rw [T.putAt, if_neg hp1]
        unfold putX
        cases hq9 : T.putAt q p (tget l p0.toNat) with
        | none => unfold putOk at hso; rw [hq9] at hso; cases hso
        | some y => rfl
       have hre := RowD.rowEB (B := w.heap.size) hd157 (fun b q => Nat.le_trans hw5 q.1) (fun b q => by have z := ho95 b q; omega)
       have hpx : putX q (p0 :: p) (.mk f l) = .mk f (l.set p0.toNat (putX q p (tget l p0.toNat))) := by
        show (T.putAt q (p0 :: p) (.mk f l)).getD _ = _
        rw [hpn]; rfl
       unfold putOk
       rw [hpx, hpn]
       exact ⟨_, rfl, ⟨_, rfl, newT_row (w0 := w) hf hre (Nat.le_refl _)⟩, hb152⟩
theorem rput_any (q : T) (hq : q.size ≤ 4294967296) : ∀ (p : List Int) (t : T) (w : World) (v vq : Value) (pa : Option Addr) (pc : Nat), t.size ≤ 4294967296 → pc ≤ maxLen → IsT w t v → PIs w p pa pc → IsT w q vq →
  Calls Try.prog 48 #[v, .slice pa p.length pc, vq] w (Ret fun v' w' => (∃ u, v' = .tuple #[u, .bool (putOk q p t)] ∧ NewT w w' (putX q p t) u) ∧ Below w.heap.size w w')
 | [], t, w, v, vq, pa, pc, hz, hm, hv, hp, hvq => rput_nil q t hq w v vq pa pc hv hvq
 | p0 :: p, .mk f l, w, v, vq, pa, pc, hz, hm, hv, hp, hvq => rput_cons q hq p0 p (rput_any q hq p) f l w v vq pa pc hz hm hv hp hvq
set_option maxRecDepth 100000 in
theorem tput_nil (q t : T) (hq : q.size ≤ 4294967296) (w : World) (v vq : Value) (pa : Option Addr) (pc : Nat) (hv : IsT w t v) (hvq : IsT w q vq) :
  Calls Try.prog 47 #[v, .slice pa 0 pc, vq] w (Ret fun v' w' => (∃ u, v' = .tuple #[u, .bool (putOk q [] t)] ∧ NewT w w' (putX q [] t) u) ∧ Below w.heap.size w w') := by
 have hv0 := hv
 have hvq0 := hvq
 obtain ⟨_, ta, tc, rfl, _, _, _⟩ := hv.form
 obtain ⟨_, qa, qc, rfl, _, _, _⟩ := hvq.form
 refine Calls.walk (l := [.agg #[.int .i64 t.f, .slice ta t.args.length tc], .slice pa 0 pc, .agg #[.int .i64 q.f, .slice qa q.args.length qc]]) Try.func47 rfl (by kernel_rfl) ?_
 refine WC.sub (K' := [(0, .agg #[.int .i64 t.f, .slice ta t.args.length tc]), (1, .slice pa 0 pc), (2, .agg #[.int .i64 q.f, .slice qa q.args.length qc])]) ⟨rfl, rfl, rfl, trivial⟩ ?_
 refine WC.seq (WC.region ?_)
 refine WL.step (post := NewBlk w 35 #[.int .i64 t.f, .slice ta t.args.length tc]) rfl rfl rfl (fun za zC zh zk => box_35 rfl (zh.ev rfl) (zk _ _ (newBlk _ _ _))) ?_
 rintro _ w1 ⟨g2, rfl, hg3, hB4, hb5, hz6⟩
 have hl7 : w.heap.size ≤ g2 := by omega
 refine WL.step (post := NewBlk w1 35 #[.int .i64 q.f, .slice qa q.args.length qc]) rfl rfl rfl (fun za zC zh zk => box_35 rfl (zh.ev rfl) (zk _ _ (newBlk _ _ _))) ?_
 rintro _ w8 ⟨g9, rfl, hg10, hB11, hb12, hz13⟩
 have hl14 : g2 < g9 := by have z1 := hB4.lt; omega
 have hl15 : w.heap.size ≤ g9 := by have z2 := (hb5).size; omega
 refine WL.step (post := NewBlk w8 35 #[.int .i64 0, .slice none 0 0]) rfl rfl rfl (fun za zC zh zk => alloc_35 rfl (zk _ _ (newBlk _ _ _))) ?_
 rintro _ w16 ⟨g17, rfl, hg18, hB19, hb20, hz21⟩
 have hl22 : g2 < g17 := by have z1 := hB4.lt; have z2 := (hb12).size; omega
 have hl23 : g9 < g17 := by have z1 := hB11.lt; omega
 have hb24 : Below w.heap.size w w8 := (bstep hb5 hb12)
 have hl25 : w.heap.size ≤ g17 := by have z2 := (hb24).size; omega
 refine WL.asg rfl rfl rfl rfl rfl (WL.nil (WE.next (WC.seq (WC.seq (WC.region (WL.mv rfl rfl rfl rfl rfl ?_))))))
 refine WL.val (.int .i64 0) rfl rfl rfl (fun za zC zh zk => len_53 rfl (zh.ev rfl) zk) ?_
 refine WL.val (.bool true) rfl rfl rfl (fun za zC zh zk => eql_3 rfl (zh.ev rfl) (zh.ev rfl) zk) ?_
 refine WL.nil (WE.next ?_)
 refine WC.condT rfl rfl ?_
 refine WC.seq (WC.region ?_)
 have hB26 := hB11.below hb20
 refine WL.val _ rfl rfl rfl (fun za zC zh zk => ld_35 rfl (zh.ev rfl) ((hB26.cell 0).trans rfl) ((hB26.cell 1).trans rfl) zk) ?_
 have hb27 : Below w.heap.size w w16 := (bstep hb24 hb20)
 have hb32 : Below w1.heap.size w1 w16 := (bstep hb12 hb20)
 have hl31 : g2 < w16.heap.size := by have z1 := hB4.lt; have z2 := (hb32).size; omega
 have hl33 : g9 < w16.heap.size := by have z1 := hB26.lt; omega
 have hl34 : g17 < w16.heap.size := by have z1 := hB19.lt; omega
 have hl35 : w.heap.size ≤ w16.heap.size := (hb27).size
 refine WL.call rfl rfl rfl (fun za zh zC => wp_call (by kernel_rfl) rfl (hv1 (zh.ev rfl))) (copy_any q _ _ hq (IsT.below hb27 hvq0)) ?_
 rintro v28 w36 ⟨hn29, hb30⟩
 obtain ⟨_, a37, c38, rfl, _, _, _⟩ := hn29.form
 have hB39 := hB19.below hb30
 refine WL.step (post := fun _ w' => Upd g17 w36 w' ∧ Blk w' g17 35 #[.int .i64 q.f, .slice a37 q.args.length c38]) rfl rfl rfl (fun za zC zh zk => st_35 rfl (zh.ev rfl) (zh.ev rfl) rfl rfl hB39 (by first | decide | simp) (fun v => zk v _ ⟨(Upd.at_ _ _ _ _).trans (Upd.at_ _ _ _ _), (hB39.set_ 0 _).set_ 1 _⟩)) ?_
 rintro v43 w40 ⟨hu41, hB42⟩
 have hb44 : Below w.heap.size w w36 := (bstep hb27 hb30)
 have hb45 := upd_below hb44 hu41 (by omega)
 have hb47 : Below w1.heap.size w1 w36 := (bstep hb32 hb30)
 have hB46 := hB4.below hb47
 have hB48 := upd_blk hB46 hu41 (by omega)
 have hB49 := hB26.below hb30
 have hB50 := upd_blk hB49 hu41 (by omega)
 have ho51 := hn29.upd hu41 (by omega)
 refine WL.asg rfl rfl rfl rfl rfl (WL.nil (WE.next (WC.ret (WE.thenRet ?_))))
 refine WE.retAny (v := .tuple #[.agg #[.int .i64 q.f, .slice a37 q.args.length c38], .bool true]) (fun za zh => ?_) ?_
 ·have z0 : za.tmps[6]?.getD undef = .pointer (some ⟨g17, 0, none⟩) := by rw [← Array.getD_eq_getD_getElem?]; exact zh.knows 6 _ rfl
  have y0_0 : w40.cell? ⟨g17, 0, none⟩ = some (.int .i64 q.f) := ((hB42.cell 0).trans rfl)
  have y0_1 : w40.cell? ⟨g17, 1, none⟩ = some (.slice a37 q.args.length c38) := ((hB42.cell 1).trans rfl)
  have z1 : za.tmps[7]?.getD undef = .bool true := by rw [← Array.getD_eq_getD_getElem?]; exact zh.knows 7 _ rfl
  simp [results, Try.results47, z0, y0_0, y0_1, z1, go_sem]
 ·exact ⟨_, rfl, ⟨_, rfl, InT.mono (fun b hb _ => Nat.le_trans hb27.size hb) ho51⟩, hb45⟩
set_option maxRecDepth 100000 in
theorem tput_cons (q : T) (hq : q.size ≤ 4294967296) (p0 : Int) (p : List Int) (ih : ∀ (t : T) (w : World) (v vq : Value) (pa : Option Addr) (pc : Nat), t.size ≤ 4294967296 → pc ≤ maxLen → IsT w t v → PIs w p pa pc → IsT w q vq → Calls Try.prog 47 #[v, .slice pa p.length pc, vq] w (Ret fun v' w' => (∃ u, v' = .tuple #[u, .bool (putOk q p t)] ∧ NewT w w' (putX q p t) u) ∧ Below w.heap.size w w'))
  (f : Int) (l : List T) (w : World) (v vq : Value) (pa : Option Addr) (pc : Nat) (hz : (T.mk f l).size ≤ 4294967296) (hm : pc ≤ maxLen) (hv : IsT w (.mk f l) v) (hp : PIs w (p0 :: p) pa pc) (hvq : IsT w q vq) :
  Calls Try.prog 47 #[v, .slice pa (p.length + 1) pc, vq] w (Ret fun v' w' => (∃ u, v' = .tuple #[u, .bool (putOk q (p0 :: p) (.mk f l))] ∧ NewT w w' (putX q (p0 :: p) (.mk f l)) u) ∧ Below w.heap.size w w') := by
 have hv0 := hv
 have hvq0 := hvq
 have hlen := len_le_sizeL l
 have hz' := hz
 simp only [T.size] at hz'
 have hpl := hp.1
 have hpt := hp.tail
 simp only [List.length_cons] at hpl
 unfold maxLen at hm
 obtain ⟨hf, ta, tc, rfl, hc, hmc, hl⟩ := hv
 obtain ⟨_, qa, qc, rfl, _, _, _⟩ := hvq.form
 obtain ⟨pb, po, rfl, hpc⟩ := hp.hd
 refine Calls.walk (l := [.agg #[.int .i64 f, .slice ta l.length tc], .slice ((some ⟨pb, po, none⟩)) ((p.length + 1)) pc, .agg #[.int .i64 q.f, .slice qa q.args.length qc]]) Try.func47 rfl (by kernel_rfl) ?_
 refine WC.sub (K' := [(0, .agg #[.int .i64 f, .slice ta l.length tc]), (1, .slice ((some ⟨pb, po, none⟩)) ((p.length + 1)) pc), (2, .agg #[.int .i64 q.f, .slice qa q.args.length qc])]) ⟨rfl, rfl, rfl, trivial⟩ ?_
 refine WC.seq (WC.region ?_)
 refine WL.step (post := NewBlk w 35 #[.int .i64 f, .slice ta l.length tc]) rfl rfl rfl (fun za zC zh zk => box_35 rfl (zh.ev rfl) (zk _ _ (newBlk _ _ _))) ?_
 rintro _ w1 ⟨g2, rfl, hg3, hB4, hb5, hz6⟩
 have hl7 : w.heap.size ≤ g2 := by omega
 refine WL.step (post := NewBlk w1 35 #[.int .i64 q.f, .slice qa q.args.length qc]) rfl rfl rfl (fun za zC zh zk => box_35 rfl (zh.ev rfl) (zk _ _ (newBlk _ _ _))) ?_
 rintro _ w8 ⟨g9, rfl, hg10, hB11, hb12, hz13⟩
 have hl14 : g2 < g9 := by have z1 := hB4.lt; omega
 have hl15 : w.heap.size ≤ g9 := by have z2 := (hb5).size; omega
 refine WL.step (post := NewBlk w8 35 #[.int .i64 0, .slice none 0 0]) rfl rfl rfl (fun za zC zh zk => alloc_35 rfl (zk _ _ (newBlk _ _ _))) ?_
 rintro _ w16 ⟨g17, rfl, hg18, hB19, hb20, hz21⟩
 have hl22 : g2 < g17 := by have z1 := hB4.lt; have z2 := (hb12).size; omega
 have hl23 : g9 < g17 := by have z1 := hB11.lt; omega
 have hb24 : Below w.heap.size w w8 := (bstep hb5 hb12)
 have hl25 : w.heap.size ≤ g17 := by have z2 := (hb24).size; omega
 refine WL.asg rfl rfl rfl rfl rfl (WL.nil (WE.next (WC.seq (WC.seq (WC.region (WL.mv rfl rfl rfl rfl rfl ?_))))))
 refine WL.val (.int .i64 ((((p.length + 1) : Nat) : Int))) rfl rfl rfl (fun za zC zh zk => len_53 rfl (zh.ev rfl) zk) ?_
 refine WL.val (.bool ((((((p.length + 1) : Nat) : Int) : Int) == (0 : Int)))) rfl rfl rfl (fun za zC zh zk => eql_3 rfl (zh.ev rfl) (zh.ev rfl) zk) ?_
 refine WL.nil (WE.next ?_)
 refine WC.condF rfl ((by simp; omega)) ?_
 refine WC.skip (WE.next (WC.seq (WC.seq ?_)))
 have hb27 : Below w.heap.size w w16 := (bstep hb24 hb20)
 have hc26 := bkeeps hb27 _ _ hpc
 have hc28 := bkeeps hb27 _ _ hpc
 have hb30 : Below w1.heap.size w1 w16 := (bstep hb12 hb20)
 have hB29 := hB4.below hb30
 refine WC.opt [(true, .val (.slice ((some ⟨pb, po, none⟩)) ((p.length + 1)) pc)), (true, .val (.pointer (some ⟨pb, po + 0, none⟩))), (true, .val (.int .i64 p0)), (true, .val (.bool ((decide ((p0 : Int) < (0 : Int)))))), (true, .val (.bool ((decide ((p0 : Int) < (0 : Int)))))), ((true && !(decide ((p0 : Int) < (0 : Int)))), .val (.slice ((some ⟨pb, po, none⟩)) ((p.length + 1)) pc)), ((true && !(decide ((p0 : Int) < (0 : Int)))), .val (.pointer (some ⟨pb, po + 0, none⟩))), ((true && !(decide ((p0 : Int) < (0 : Int)))), .val (.int .i64 p0)), ((true && !(decide ((p0 : Int) < (0 : Int)))), .val (.pointer (some ⟨g2, 1, none⟩))), ((true && !(decide ((p0 : Int) < (0 : Int)))), .val (.slice ta l.length tc)), ((true && !(decide ((p0 : Int) < (0 : Int)))), .val (.int .i64 (((l.length : Nat) : Int)))), ((true && !(decide ((p0 : Int) < (0 : Int)))), .val (.bool ((decide ((((l.length : Nat) : Int) : Int) ≤ (p0 : Int)))))), (true, .val (.bool (((decide ((p0 : Int) < (0 : Int))) || (decide ((((l.length : Nat) : Int) : Int) ≤ (p0 : Int)))))))] [(0, .agg #[.int .i64 f, .slice ta l.length tc]), (1, .slice ((some ⟨pb, po, none⟩)) ((p.length + 1)) pc), (2, .agg #[.int .i64 q.f, .slice qa q.args.length qc]), (3, .pointer (some ⟨g2, 0, none⟩)), (5, .pointer (some ⟨g9, 0, none⟩)), (6, .pointer (some ⟨g17, 0, none⟩)), (7, .bool false), (13, .bool ((((((p.length + 1) : Nat) : Int) : Int) == (0 : Int))))] ⟨rfl, rfl, rfl, rfl, rfl, rfl, rfl, rfl, trivial⟩ (by kernel_rfl) (by kernel_rfl) (by kernel_rfl) ?_ ?_
 ·refine ⟨⟨true, .none rfl, fun h w => optUndef h, fun zβ za zw zc => ?_⟩, ?_⟩
  ·exact wp_move rfl (zc.kn.ev rfl) ⟨_, rfl, Below.refl _ _, optDef zβ rfl⟩
  refine ⟨⟨true, .none rfl, fun h w => optUndef h, fun zβ za zw zc => ?_⟩, ?_⟩
  ·exact ix_53 (k := 0) rfl ((evt za 16).trans (optVal (zc.dep 0 16 (by kernel_rfl)) rfl rfl)) rfl (zc.kn.ev rfl) (by first | omega | (simp; omega)) ⟨_, rfl, Below.refl _ _, optDef zβ rfl⟩
  refine ⟨⟨true, .none rfl, fun h w => optUndef h, fun zβ za zw zc => ?_⟩, ?_⟩
  ·exact ld_3 rfl ((evt za 17).trans (optVal (zc.dep 1 17 (by kernel_rfl)) rfl rfl)) (bkeeps zc.below _ _ hc26) ⟨_, rfl, Below.refl _ _, optDef zβ rfl⟩
  refine ⟨⟨true, .none rfl, fun h w => optUndef h, fun zβ za zw zc => ?_⟩, ?_⟩
  ·exact lss_3 rfl ((evt za 18).trans (optVal (zc.dep 2 18 (by kernel_rfl)) rfl rfl)) (zc.kn.ev rfl) ⟨_, rfl, Below.refl _ _, optDef zβ rfl⟩
  refine ⟨⟨true, .none rfl, fun h w => optUndef h, fun zβ za zw zc => ?_⟩, ?_⟩
  ·exact wp_move rfl ((evt za 19).trans (optVal (zc.dep 3 19 (by kernel_rfl)) rfl rfl)) ⟨_, rfl, Below.refl _ _, optDef zβ rfl⟩
  refine ⟨⟨_, .no (d := true) rfl (fun v w h => h), fun h w => optUndef h, fun zβ za zw zc => ?_⟩, ?_⟩
  ·exact wp_move rfl (zc.kn.ev rfl) ⟨_, rfl, Below.refl _ _, optDef zβ rfl⟩
  refine ⟨⟨_, .no (d := true) rfl (fun v w h => h), fun h w => optUndef h, fun zβ za zw zc => ?_⟩, ?_⟩
  ·exact ix_53 (k := 0) rfl ((evt za 21).trans (optVal (zc.dep 5 21 (by kernel_rfl)) rfl zβ)) rfl (zc.kn.ev rfl) (by first | omega | (have zz := zβ; simp only [Bool.and_eq_true, Bool.or_eq_true, Bool.true_and, Bool.not_eq_true', Bool.or_eq_false_iff, Bool.and_eq_false_iff, beq_eq_false_iff_ne, ne_eq, beq_iff_eq, decide_eq_true_eq, decide_eq_false_iff_not, bne_iff_ne, bne_eq_false_iff_eq] at zz; omega)) ⟨_, rfl, Below.refl _ _, optDef zβ rfl⟩
  refine ⟨⟨_, .no (d := true) rfl (fun v w h => h), fun h w => optUndef h, fun zβ za zw zc => ?_⟩, ?_⟩
  ·exact ld_3 rfl ((evt za 22).trans (optVal (zc.dep 6 22 (by kernel_rfl)) rfl zβ)) (bkeeps zc.below _ _ hc28) ⟨_, rfl, Below.refl _ _, optDef zβ rfl⟩
  refine ⟨⟨_, .no (d := true) rfl (fun v w h => h), fun h w => optUndef h, fun zβ za zw zc => ?_⟩, ?_⟩
  ·exact fld_35_1 rfl (zc.kn.ev rfl) ⟨_, rfl, Below.refl _ _, optDef zβ rfl⟩
  refine ⟨⟨_, .no (d := true) rfl (fun v w h => h), fun h w => optUndef h, fun zβ za zw zc => ?_⟩, ?_⟩
  ·exact ld_25 rfl ((evt za 24).trans (optVal (zc.dep 8 24 (by kernel_rfl)) rfl zβ)) (bkeeps zc.below _ _ ((hB29.cell 1).trans rfl)) ⟨_, rfl, Below.refl _ _, optDef zβ rfl⟩
  refine ⟨⟨_, .no (d := true) rfl (fun v w h => h), fun h w => optUndef h, fun zβ za zw zc => ?_⟩, ?_⟩
  ·exact len_25 rfl ((evt za 25).trans (optVal (zc.dep 9 25 (by kernel_rfl)) rfl zβ)) ⟨_, rfl, Below.refl _ _, optDef zβ rfl⟩
  refine ⟨⟨_, .no (d := true) rfl (fun v w h => h), fun h w => optUndef h, fun zβ za zw zc => ?_⟩, ?_⟩
  ·exact geq_3 rfl ((evt za 23).trans (optVal (zc.dep 7 23 (by kernel_rfl)) rfl zβ)) ((evt za 26).trans (optVal (zc.dep 10 26 (by kernel_rfl)) rfl zβ)) ⟨_, rfl, Below.refl _ _, optDef zβ rfl⟩
  refine ⟨⟨true, .none rfl, fun h w => optUndef h, fun zβ za zw zc => ?_⟩, ?_⟩
  ·exact wp_or rfl ((evt za 20).trans (optVal (zc.dep 4 20 (by kernel_rfl)) rfl rfl)) (fun hp => ((evt za 27).trans (optVal (zc.dep 11 27 (by kernel_rfl)) rfl (bMkN zβ hp)))) ⟨_, rfl, Below.refl _ _, optDef zβ rfl⟩
  exact trivial
 ·intro za w31 zh hb32 zu
  have zh := zh.cons (d := 28) (v := .bool (((decide ((p0 : Int) < (0 : Int))) || (decide ((((l.length : Nat) : Int) : Int) ≤ (p0 : Int)))))) (optVal (zu 12 28 (by kernel_rfl)) rfl rfl)
  clear zu
  refine WE.go zh ?_
  refine WE.next ?_
  refine WC.cond rfl (fun h33 => ?_) (fun h33 => ?_)
  ·have h33 : ((p0 : Int) < (0 : Int)) ∨ ((((l.length : Nat) : Int) : Int) ≤ (p0 : Int)) := by simpa using h33
   have hp1 : p0 < 0 ∨ (l.length : Int) ≤ p0 := by have z := h33; omega
   refine WC.seq (WC.region ?_)
   refine WL.val (.agg #[.int .i64 0, .slice none 0 0]) rfl rfl rfl (fun za zC zh zk => build_35_ rfl  zk) ?_
   have hB34 := hB19.below hb32
   refine WL.step (post := fun _ w' => Upd g17 w31 w' ∧ Blk w' g17 35 #[.int .i64 0, .slice none 0 0]) rfl rfl rfl (fun za zC zh zk => st_35 rfl (zh.ev rfl) (zh.ev rfl) rfl rfl hB34 (by first | decide | simp) (fun v => zk v _ ⟨(Upd.at_ _ _ _ _).trans (Upd.at_ _ _ _ _), (hB34.set_ 0 _).set_ 1 _⟩)) ?_
   rintro v38 w35 ⟨hu36, hB37⟩
   have hb39 : Below w.heap.size w w31 := (bstep hb27 hb32)
   have hb40 := upd_below hb39 hu36 (by omega)
   have hB41 := hB29.below hb32
   have hB42 := upd_blk hB41 hu36 (by omega)
   have hb44 : Below w8.heap.size w8 w31 := (bstep hb20 hb32)
   have hB43 := hB11.below hb44
   have hB45 := upd_blk hB43 hu36 (by omega)
   refine WL.asg rfl rfl rfl rfl rfl (WL.nil (WE.next (WC.ret (WE.thenRet ?_))))
   refine WE.retAny (v := .tuple #[.agg #[.int .i64 0, .slice none 0 0], .bool false]) (fun za zh => ?_) ?_
   ·have z0 : za.tmps[6]?.getD undef = .pointer (some ⟨g17, 0, none⟩) := by rw [← Array.getD_eq_getD_getElem?]; exact zh.knows 6 _ rfl
    have y0_0 : w35.cell? ⟨g17, 0, none⟩ = some (.int .i64 0) := ((hB37.cell 0).trans rfl)
    have y0_1 : w35.cell? ⟨g17, 1, none⟩ = some (.slice none 0 0) := ((hB37.cell 1).trans rfl)
    have z1 : za.tmps[7]?.getD undef = .bool false := by rw [← Array.getD_eq_getD_getElem?]; exact zh.knows 7 _ rfl
    simp [results, Try.results47, z0, y0_0, y0_1, z1, go_sem]
   ·have hpn : T.putAt q (p0 :: p) (.mk f l) = none := by rw [T.putAt, if_pos hp1]
    unfold putX putOk
    rw [hpn]
    exact ⟨_, rfl, ⟨_, rfl, newT_leaf (by unfold I64; omega)⟩, hb40⟩
  ·have h33 : ¬ (((p0 : Int) < (0 : Int)) ∨ ((((l.length : Nat) : Int) : Int) ≤ (p0 : Int))) := by simpa using h33
   have hp1 : ¬ (p0 < 0 ∨ (l.length : Int) ≤ p0) := by have z := h33; omega
   have hi0 : p0.toNat < l.length := by omega
   have hpc2 : w.cell? ⟨pb, po, none⟩ = some (.int .i64 ((p0.toNat : Nat) : Int)) := by rw [show ((p0.toNat : Nat) : Int) = p0 by omega]; exact hpc
   refine WC.skip (WE.next (WC.seq ?_))
   have hB46 := hB29.below hb32
   have hl47 := hB46.lt
   have hb49 : Below w8.heap.size w8 w31 := (bstep hb20 hb32)
   have hB48 := hB11.below hb49
   have hl50 := hB48.lt
   have hB51 := hB19.below hb32
   have hl52 := hB51.lt
   have hb54 : Below w.heap.size w w31 := (bstep hb24 hb49)
   have hc53 := bkeeps hb54 _ _ hpc2
   obtain ⟨b55, o56, A57, C58, ha59, hc60⟩ := IsTs.open hl
   refine WC.boxV (fun zq => match zq with | 0 => fun zS zw zv => ∃ zu, zv = .tuple #[zu, .bool ((putOk q p (tget l p0.toNat)))] ∧ InT zS zw ((putX q p (tget l p0.toNat))) zu | 1 => fun zS zw zv => ∃ zu, zv = .tuple #[zu, .bool ((putOk q p (tget l p0.toNat)))] ∧ InT zS zw ((putX q p (tget l p0.toNat))) zu | _ + 2 => fun zS zw zv => InT zS zw ((putX q p (tget l p0.toNat))) zv) (fun zq => match zq with | 0 => fun zv => ∃ zu, zv = .tuple #[zu, .bool ((putOk q p (tget l p0.toNat)))] | 1 => fun zv => ∃ zu, zv = .tuple #[zu, .bool ((putOk q p (tget l p0.toNat)))] | _ + 2 => fun zv => True) (fun zq _ _ _ _ hk h => match zq, h with | 0, h => by obtain ⟨u, e, h1⟩ := h; exact ⟨u, e, InT.keep hk h1⟩ | 1, h => by obtain ⟨u, e, h1⟩ := h; exact ⟨u, e, InT.keep hk h1⟩ | _ + 2, h => InT.keep hk h) (fun zq _ _ _ _ hk h => match zq, h with | 0, h => by obtain ⟨u, e, h1⟩ := h; exact ⟨u, e, InT.mono hk h1⟩ | 1, h => by obtain ⟨u, e, h1⟩ := h; exact ⟨u, e, InT.mono hk h1⟩ | _ + 2, h => InT.mono hk h) [(true, .pointer (some ⟨g2, 1, none⟩)), (true, .slice ta l.length tc), (true, .slice ((some ⟨pb, po, none⟩)) ((p.length + 1)) pc), (true, .pointer (some ⟨pb, po + 0, none⟩)), (true, .int .i64 (((p0.toNat : Nat) : Int))), (true, .pointer (some ⟨b55, o56 + p0.toNat * 2, none⟩)), (true, .agg #[.int .i64 ((tget l p0.toNat).f), .slice ((A57 p0.toNat)) ((tget l p0.toNat).args.length) ((C58 p0.toNat))]), (true, .slice ((some ⟨pb, po, none⟩)) ((p.length + 1)) pc), (true, .slice ((slA ((some ⟨pb, po, none⟩)) 1 1 pc)) (((p.length + 1) - 1)) ((pc - 1))), (true, .agg #[.int .i64 q.f, .slice qa q.args.length qc]), (true, undef), (true, undef), (true, undef), (true, .bool ((putOk q p (tget l p0.toNat)))), (true, undef), (true, undef), (true, .bool ((putOk q p (tget l p0.toNat))))] [(0, .agg #[.int .i64 f, .slice ta l.length tc]), (1, .slice ((some ⟨pb, po, none⟩)) ((p.length + 1)) pc), (2, .agg #[.int .i64 q.f, .slice qa q.args.length qc]), (3, .pointer (some ⟨g2, 0, none⟩)), (5, .pointer (some ⟨g9, 0, none⟩)), (6, .pointer (some ⟨g17, 0, none⟩)), (7, .bool false), (13, .bool ((((((p.length + 1) : Nat) : Int) : Int) == (0 : Int)))), (28, .bool (((decide ((p0 : Int) < (0 : Int))) || (decide ((((l.length : Nat) : Int) : Int) ≤ (p0 : Int))))))] (t := 35) (z := #[.int .i64 0, .slice none 0 0]) [10, 11, 12] 2 14 15 8 (by decide) (by decide) (by kernel_rfl) rfl ⟨rfl, rfl, rfl, rfl, rfl, rfl, rfl, rfl, rfl, trivial⟩ (by kernel_rfl) (by kernel_rfl) (by kernel_rfl) ?_ ?_
   ·refine ⟨.inl ⟨rfl, rfl, fun za zw zS zc => ?_⟩, ?_⟩
    ·exact fld_35_1 rfl (zc.kn.ev rfl) ⟨_, rfl, Below.refl _ _, fun _ => rfl⟩
    refine ⟨.inl ⟨rfl, rfl, fun za zw zS zc => ?_⟩, ?_⟩
    ·exact ld_25 rfl ((evt za 31).trans (valVal1 (zc.dep 0 31 (by kernel_rfl) (by decide)) rfl rfl)) (bkeeps zc.below _ _ ((hB46.cell 1).trans rfl)) ⟨_, rfl, Below.refl _ _, fun _ => rfl⟩
    refine ⟨.inl ⟨rfl, rfl, fun za zw zS zc => ?_⟩, ?_⟩
    ·exact wp_move rfl (zc.kn.ev rfl) ⟨_, rfl, Below.refl _ _, fun _ => rfl⟩
    refine ⟨.inl ⟨rfl, rfl, fun za zw zS zc => ?_⟩, ?_⟩
    ·exact ix_53 (k := 0) rfl ((evt za 33).trans (valVal1 (zc.dep 2 33 (by kernel_rfl) (by decide)) rfl rfl)) rfl (zc.kn.ev rfl) (by first | omega | (simp; omega)) ⟨_, rfl, Below.refl _ _, fun _ => rfl⟩
    refine ⟨.inl ⟨rfl, rfl, fun za zw zS zc => ?_⟩, ?_⟩
    ·exact ld_3 rfl ((evt za 34).trans (valVal1 (zc.dep 3 34 (by kernel_rfl) (by decide)) rfl rfl)) (bkeeps zc.below _ _ hc53) ⟨_, rfl, Below.refl _ _, fun _ => rfl⟩
    refine ⟨.inl ⟨rfl, rfl, fun za zw zS zc => ?_⟩, ?_⟩
    ·exact ix_25 (k := p0.toNat) rfl ((evt za 32).trans (valVal1 (zc.dep 1 32 (by kernel_rfl) (by decide)) rfl rfl)) (ha59 p0.toNat (by first | omega | (simp; omega))) ((evt za 35).trans (valVal1 (zc.dep 4 35 (by kernel_rfl) (by decide)) rfl rfl)) (by first | omega | (simp; omega)) ⟨_, rfl, Below.refl _ _, fun _ => rfl⟩
    refine ⟨.inl ⟨rfl, rfl, fun za zw zS zc => ?_⟩, ?_⟩
    ·exact ld_35 rfl ((evt za 36).trans (valVal1 (zc.dep 5 36 (by kernel_rfl) (by decide)) rfl rfl)) (bkeeps (bstep hb54 zc.below) _ _ (hc60 p0.toNat (by first | omega | (simp; omega))).1) (bkeeps (bstep hb54 zc.below) _ _ (hc60 p0.toNat (by first | omega | (simp; omega))).2.1) ⟨_, rfl, Below.refl _ _, fun _ => rfl⟩
    refine ⟨.inl ⟨rfl, rfl, fun za zw zS zc => ?_⟩, ?_⟩
    ·exact wp_move rfl (zc.kn.ev rfl) ⟨_, rfl, Below.refl _ _, fun _ => rfl⟩
    refine ⟨.inl ⟨rfl, rfl, fun za zw zS zc => ?_⟩, ?_⟩
    ·exact slo_53 (k := 1) rfl ((evt za 38).trans (valVal1 (zc.dep 7 38 (by kernel_rfl) (by decide)) rfl rfl)) (zc.kn.ev rfl) (by omega) (by omega) ⟨_, rfl, Below.refl _ _, fun _ => rfl⟩
    refine ⟨.inl ⟨rfl, rfl, fun za zw zS zc => ?_⟩, ?_⟩
    ·exact ld_35 rfl (zc.kn.ev rfl) (bkeeps zc.below _ _ ((hB48.cell 0).trans rfl)) (bkeeps zc.below _ _ ((hB48.cell 1).trans rfl)) ⟨_, rfl, Below.refl _ _, fun _ => rfl⟩
    refine ⟨.inr (.inl ⟨0, rfl, rfl, by kernel_rfl, fun za zw zS zc => ?_⟩), ?_⟩
    ·exact wp_call (by kernel_rfl) rfl (hv3 ((evt za 37).trans (valVal1 (zc.dep 6 37 (by kernel_rfl) (by decide)) rfl rfl)) ((evt za 39).trans (valVal1 (zc.dep 8 39 (by kernel_rfl) (by decide)) rfl rfl)) ((evt za 40).trans (valVal1 (zc.dep 9 40 (by kernel_rfl) (by decide)) rfl rfl))) (ih (tget l p0.toNat) _ _ _ _ _ (size_at hi0 hz) (by unfold maxLen; omega) (IsT.below (bstep hb54 zc.below) (hc60 p0.toNat (by first | omega | (simp; omega))).2.2) (PIs.below hpt (bstep hb54 zc.below)) (IsT.below (bstep hb54 zc.below) hvq0)) (fun v w' h => by obtain ⟨⟨u, e, h1⟩, h2⟩ := h; exact ⟨v, rfl, h2, ⟨u, e, InT.mono (fun b hb _ => .inr hb) h1⟩, ⟨u, e⟩⟩)
    refine ⟨.inr (.inl ⟨1, rfl, rfl, by kernel_rfl, fun za zw zS zc => ?_⟩), ?_⟩
    ·obtain ⟨u, e, h1⟩ := (zc.made 0 10 41 rfl (by kernel_rfl) (by kernel_rfl))
     exact wp_move rfl ((evt za 41).trans e) ⟨_, rfl, Below.refl _ _, ⟨u, rfl, InT.mono (fun b hb _ => .inl hb) h1⟩, ⟨u, rfl⟩⟩
    refine ⟨.inr (.inl ⟨2, rfl, rfl, by kernel_rfl, fun za zw zS zc => ?_⟩), ?_⟩
    ·obtain ⟨u, e, h1⟩ := (zc.made 1 11 30 rfl (by kernel_rfl) (by kernel_rfl))
     exact ext2_0 rfl ((evt za 30).trans e) ⟨u, rfl, Below.refl _ _, InT.mono (fun b hb _ => .inl hb) h1, trivial⟩
    refine ⟨.inl ⟨rfl, rfl, fun za zw zS zc => ?_⟩, ?_⟩
    ·obtain ⟨u, e⟩ := (zc.told 1 11 30 rfl (by kernel_rfl))
     exact ext2_1 rfl ((evt za 30).trans e) ⟨_, rfl, Below.refl _ _, fun _ => rfl⟩
    refine ⟨.inr (.inr (.inl ⟨rfl, rfl, fun za zw zS zc => ?_⟩)), ?_⟩
    ·exact alloc_35 rfl ⟨rfl, rfl⟩
    refine ⟨.inr (.inr (.inr ⟨rfl, rfl, 8, 42, 12, by kernel_rfl, rfl, by kernel_rfl, fun za zw g zS zc z1 zB zP => ?_⟩)), ?_⟩
    ·obtain ⟨_, a1, c1, e1, _⟩ := InT.form zP
     rw [e1]
     exact st_35 rfl ((evt za 8).trans z1) ((evt za 42).trans e1) rfl rfl zB (by first | decide | simp) (fun v => ⟨v, rfl, (Upd.at_ _ _ _ _).trans (Upd.at_ _ _ _ _), (zB.set_ 0 _).set_ 1 _⟩)
    refine ⟨.inl ⟨rfl, rfl, fun za zw zS zc => ?_⟩, ?_⟩
    ·exact wp_assign rfl ((evt za 43).trans (valVal1 (zc.dep 13 43 (by kernel_rfl) (by decide)) rfl rfl)) ⟨_, rfl, Below.refl _ _, fun _ => rfl⟩
    exact trivial
   ·intro za w61 g62 vy63 zh hb64 hg65 hB66 hP67 hp68 zu
    have hl69 : g2 < g62 := by have z1 := hB46.lt; omega
    have hl70 : g9 < g62 := by have z1 := hB48.lt; omega
    have hl71 : g17 < g62 := by have z1 := hB51.lt; omega
    obtain ⟨_, a72, c73, rfl, _, _, _⟩ := InT.form hP67
    have hB74 : Blk w61 g62 35 #[.int .i64 (((putX q p (tget l p0.toNat))).f), .slice a72 (((putX q p (tget l p0.toNat))).args.length) c73] := hB66
    have zh := zh.cons (d := 8) hp68
    have zh := zh.cons (d := 9) (v := .bool ((putOk q p (tget l p0.toNat)))) (valVal1 (zu 16 9 (by kernel_rfl) (by decide)) rfl rfl)
    clear zu
    have hP75 : InT (fun b => w31.heap.size ≤ b ∧ b ≠ g62) w61 ((putX q p (tget l p0.toNat))) (.agg #[.int .i64 (((putX q p (tget l p0.toNat))).f), .slice a72 (((putX q p (tget l p0.toNat))).args.length) c73]) := hP67
    have hw5 : w.heap.size ≤ w31.heap.size := hb54.size
    refine WE.go zh ?_
    refine WE.next (WC.seq (WC.seq (WC.region (WL.mv rfl rfl rfl rfl rfl ?_))))
    refine WL.val (.bool ((!(putOk q p (tget l p0.toNat))))) rfl rfl rfl (fun za zC zh zk => wp_not rfl (zh.ev rfl) zk) ?_
    refine WL.nil (WE.next ?_)
    refine WC.cond rfl (fun h76 => ?_) (fun h76 => ?_)
    ·have h76 : ¬ ((putOk q p (tget l p0.toNat)) = true) := by simpa using h76
     have hso : putOk q p (tget l p0.toNat) = false := by
      cases hh9 : putOk q p (tget l p0.toNat) with
      | false => rfl
      | true => rw [hh9] at h76; simp at h76
     refine WC.seq (WC.region ?_)
     refine WL.val (.agg #[.int .i64 0, .slice none 0 0]) rfl rfl rfl (fun za zC zh zk => build_35_ rfl  zk) ?_
     have hB77 := hB51.below hb64
     refine WL.step (post := fun _ w' => Upd g17 w61 w' ∧ Blk w' g17 35 #[.int .i64 0, .slice none 0 0]) rfl rfl rfl (fun za zC zh zk => st_35 rfl (zh.ev rfl) (zh.ev rfl) rfl rfl hB77 (by first | decide | simp) (fun v => zk v _ ⟨(Upd.at_ _ _ _ _).trans (Upd.at_ _ _ _ _), (hB77.set_ 0 _).set_ 1 _⟩)) ?_
     rintro v81 w78 ⟨hu79, hB80⟩
     have hb82 : Below w.heap.size w w61 := (bstep hb54 hb64)
     have hb83 := upd_below hb82 hu79 (by omega)
     have hB84 := hB46.below hb64
     have hB85 := upd_blk hB84 hu79 (by omega)
     have hB86 := hB48.below hb64
     have hB87 := upd_blk hB86 hu79 (by omega)
     have hB88 := upd_blk hB74 hu79 (by omega)
     refine WL.asg rfl rfl rfl rfl rfl (WL.nil (WE.next (WC.ret (WE.thenRet ?_))))
     refine WE.retAny (v := .tuple #[.agg #[.int .i64 0, .slice none 0 0], .bool false]) (fun za zh => ?_) ?_
     ·have z0 : za.tmps[6]?.getD undef = .pointer (some ⟨g17, 0, none⟩) := by rw [← Array.getD_eq_getD_getElem?]; exact zh.knows 6 _ rfl
      have y0_0 : w78.cell? ⟨g17, 0, none⟩ = some (.int .i64 0) := ((hB80.cell 0).trans rfl)
      have y0_1 : w78.cell? ⟨g17, 1, none⟩ = some (.slice none 0 0) := ((hB80.cell 1).trans rfl)
      have z1 : za.tmps[7]?.getD undef = .bool false := by rw [← Array.getD_eq_getD_getElem?]; exact zh.knows 7 _ rfl
      simp [results, Try.results47, z0, y0_0, y0_1, z1, go_sem]
     ·have hpn : T.putAt q (p0 :: p) (.mk f l) = none := by rw [T.putAt, if_neg hp1]; cases hq9 : T.putAt q p (tget l p0.toNat) with | none => rfl | some y => unfold putOk at hso; rw [hq9] at hso; cases hso
      unfold putX putOk
      rw [hpn]
      exact ⟨_, rfl, ⟨_, rfl, newT_leaf (by unfold I64; omega)⟩, hb83⟩
    ·have h76 : ¬ (¬ ((putOk q p (tget l p0.toNat)) = true)) := by simpa using h76
     have hso : putOk q p (tget l p0.toNat) = true := by
      cases hh9 : putOk q p (tget l p0.toNat) with
      | true => rfl
      | false => rw [hh9] at h76; simp at h76
     refine WC.skip (WE.next (WC.seq (WC.region ?_)))
     have hB89 := hB46.below hb64
     refine WL.val _ rfl rfl rfl (fun za zC zh zk => ld_35 rfl (zh.ev rfl) ((hB89.cell 0).trans rfl) ((hB89.cell 1).trans rfl) zk) ?_
     have hw9 : w.heap.size ≤ w61.heap.size := (Nat.le_trans hb54.size hb64.size)
     have hx9 : InT (fun b => w31.heap.size ≤ b ∧ b < w61.heap.size) w61 (putX q p (tget l p0.toNat)) (.agg #[.int .i64 (putX q p (tget l p0.toNat)).f, .slice a72 (putX q p (tget l p0.toNat)).args.length c73]) := InT.mono (fun b hb hlt => ⟨hb.1, hlt⟩) hP75
     have hw59 : w31.heap.size ≤ w61.heap.size := hb64.size
     have hl97 := hB89.lt
     have hB98 := hB48.below hb64
     have hl99 := hB98.lt
     have hB100 := hB51.below hb64
     have hl101 := hB100.lt
     have hl102 := hB74.lt
     have hb103 : Below w.heap.size w w61 := (bstep hb54 hb64)
     refine WL.call rfl rfl rfl (fun za zh zC => wp_call (by kernel_rfl) rfl (hv1 (zh.ev rfl))) (copyD_any (.mk f l) _ _ hz (IsT.below hb103 hv0)) ?_
     rintro _ w104 ⟨⟨ra90, rc91, rfl, h92, h93, hd94, ho95⟩, hb96⟩
     simp only [T.f_mk, T.args_mk] at h92 h93 hd94 ho95
     have hlt9 := hd94.lt
     have hd9 : RowD eltT (fun b => w31.heap.size ≤ b ∧ obk ra90 l.length rc91 ≠ some b) w104 35 ra90 rc91 l.length l := hd94.mono (fun b q _ => ⟨by omega, q.2⟩) (fun b q => q.2)
     refine WL.step (post := NewBlk w104 35 #[.int .i64 0, .slice none 0 0]) rfl rfl rfl (fun za zC zh zk => alloc_35 rfl (zk _ _ (newBlk _ _ _))) ?_
     rintro _ w105 ⟨g106, rfl, hg107, hB108, hb109, hz110⟩
     have hl111 : g2 < g106 := by have z1 := hB89.lt; have z2 := (hb96).size; omega
     have hl112 : g9 < g106 := by have z1 := hB98.lt; have z2 := (hb96).size; omega
     have hl113 : g17 < g106 := by have z1 := hB100.lt; have z2 := (hb96).size; omega
     have hl114 : g62 < g106 := by have z1 := hB74.lt; have z2 := (hb96).size; omega
     have hb115 : Below w.heap.size w w104 := (bstep hb103 hb96)
     have hl116 : w.heap.size ≤ g106 := by have z2 := (hb115).size; omega
     have hl117 : w61.heap.size ≤ g106 := by have z2 := (hb96).size; omega
     have hl118 : w104.heap.size ≤ g106 := by omega
     refine WL.step (post := fun _ w' => Upd g106 w105 w' ∧ Blk w' g106 35 #[.int .i64 f, .slice ra90 l.length rc91]) rfl rfl rfl (fun za zC zh zk => st_35 rfl (zh.ev rfl) (zh.ev rfl) rfl rfl hB108 (by first | decide | simp) (fun v => zk v _ ⟨(Upd.at_ _ _ _ _).trans (Upd.at_ _ _ _ _), (hB108.set_ 0 _).set_ 1 _⟩)) ?_
     rintro v122 w119 ⟨hu120, hB121⟩
     have hb123 : Below w.heap.size w w105 := (bstep hb115 hb109)
     have hb124 : Below w61.heap.size w61 w105 := (bstep hb96 hb109)
     have hb125 := upd_below hb123 hu120 (by omega)
     have hb126 := upd_below hb124 hu120 (by omega)
     have hb127 := upd_below hb109 hu120 (by omega)
     have hB128 := hB89.below hb124
     have hB129 := upd_blk hB128 hu120 (by omega)
     have hB130 := hB98.below hb124
     have hB131 := upd_blk hB130 hu120 (by omega)
     have hB132 := hB100.below hb124
     have hB133 := upd_blk hB132 hu120 (by omega)
     have hB134 := hB74.below hb124
     have hB135 := upd_blk hB134 hu120 (by omega)
     refine WL.nil (WE.sub (K' := [(0, .agg #[.int .i64 f, .slice ta l.length tc]), (1, .slice ((some ⟨pb, po, none⟩)) ((p.length + 1)) pc), (2, .agg #[.int .i64 q.f, .slice qa q.args.length qc]), (3, .pointer (some ⟨g2, 0, none⟩)), (5, .pointer (some ⟨g9, 0, none⟩)), (6, .pointer (some ⟨g17, 0, none⟩)), (7, .bool false), (8, .pointer (some ⟨g62, 0, none⟩)), (9, .bool ((putOk q p (tget l p0.toNat)))), (10, .pointer (some ⟨g106, 0, none⟩)), (13, .bool ((((((p.length + 1) : Nat) : Int) : Int) == (0 : Int)))), (28, .bool (((decide ((p0 : Int) < (0 : Int))) || (decide ((((l.length : Nat) : Int) : Int) ≤ (p0 : Int)))))), (45, .bool ((!(putOk q p (tget l p0.toNat)))))]) ⟨rfl, rfl, rfl, rfl, rfl, rfl, rfl, rfl, rfl, rfl, rfl, rfl, rfl, trivial⟩ ?_)
     refine WE.next (WC.seq ?_)
     have ho136 := hd9.below hb127
     obtain ⟨gz9, cs9, e9, ho9, hB9, hsz9⟩ := RowD.blkT ho136 (by omega)
     have hg9a := ho95 gz9 ho9
     have hg9b := hlt9 gz9 ho9
     have ho137 := hx9.below hb126
     have hc138 := bkeeps hb125 _ _ hpc2
     have hSlt : ∀ b, b = gz9 → b < w119.heap.size := fun b e => e ▸ hB9.lt
     refine WC.tail1 (S := ((fun b => b = gz9))) [(true, .val (.pointer (some ⟨g106, 1, none⟩))), (true, .val (.slice ra90 l.length rc91)), (true, .val (.slice ((some ⟨pb, po, none⟩)) ((p.length + 1)) pc)), (true, .val (.pointer (some ⟨pb, po + 0, none⟩))), (true, .val (.int .i64 (((p0.toNat : Nat) : Int)))), (true, .val (.agg #[.int .i64 (((putX q p (tget l p0.toNat))).f), .slice a72 (((putX q p (tget l p0.toNat))).args.length) c73])), (true, .val (.pointer (some ⟨gz9, 0 + p0.toNat * 2, none⟩))), (true, .val undef)] [(0, .agg #[.int .i64 f, .slice ta l.length tc]), (1, .slice ((some ⟨pb, po, none⟩)) ((p.length + 1)) pc), (2, .agg #[.int .i64 q.f, .slice qa q.args.length qc]), (3, .pointer (some ⟨g2, 0, none⟩)), (5, .pointer (some ⟨g9, 0, none⟩)), (6, .pointer (some ⟨g17, 0, none⟩)), (7, .bool false), (8, .pointer (some ⟨g62, 0, none⟩)), (9, .bool ((putOk q p (tget l p0.toNat)))), (10, .pointer (some ⟨g106, 0, none⟩)), (13, .bool ((((((p.length + 1) : Nat) : Int) : Int) == (0 : Int)))), (28, .bool (((decide ((p0 : Int) < (0 : Int))) || (decide ((((l.length : Nat) : Int) : Int) ≤ (p0 : Int)))))), (45, .bool ((!(putOk q p (tget l p0.toNat)))))] 7 (fun wz => RowD eltT (fun b => w31.heap.size ≤ b ∧ obk ra90 l.length rc91 ≠ some b) wz 35 ra90 rc91 l.length (l.set p0.toNat (putX q p (tget l p0.toNat)))) (fun w w' hb h => h.below hb) ⟨rfl, rfl, rfl, rfl, rfl, rfl, rfl, rfl, rfl, rfl, rfl, rfl, rfl, trivial⟩ (by kernel_rfl) (by kernel_rfl) (by kernel_rfl) (by kernel_rfl) ?_ ?_
     ·refine ⟨.inl ⟨rfl, true, .none rfl, (fun gg b h => by cases h), fun h w => optUndef h, fun zβ za zw zc => ?_⟩, ?_⟩
      ·exact fld_35_1 rfl (zc.kn.ev rfl) ⟨_, rfl, Below.refl _ _, optDef zβ rfl⟩
      refine ⟨.inl ⟨rfl, true, .none rfl, (fun gg b h => by cases h), fun h w => optUndef h, fun zβ za zw zc => ?_⟩, ?_⟩
      ·exact ld_25 rfl ((evt za 49).trans (optSVal (zc.dep 0 49 (by kernel_rfl) (by decide)) rfl rfl)) (bkeeps (zc.early (by kernel_rfl)) _ _ ((hB121.cell 1).trans rfl)) ⟨_, rfl, Below.refl _ _, optDef zβ rfl⟩
      refine ⟨.inl ⟨rfl, true, .none rfl, (fun gg b h => by cases h), fun h w => optUndef h, fun zβ za zw zc => ?_⟩, ?_⟩
      ·exact wp_move rfl (zc.kn.ev rfl) ⟨_, rfl, Below.refl _ _, optDef zβ rfl⟩
      refine ⟨.inl ⟨rfl, true, .none rfl, (fun gg b h => by cases h), fun h w => optUndef h, fun zβ za zw zc => ?_⟩, ?_⟩
      ·exact ix_53 (k := 0) rfl ((evt za 51).trans (optSVal (zc.dep 2 51 (by kernel_rfl) (by decide)) rfl rfl)) rfl (zc.kn.ev rfl) (by first | omega | (simp; omega)) ⟨_, rfl, Below.refl _ _, optDef zβ rfl⟩
      refine ⟨.inl ⟨rfl, true, .none rfl, (fun gg b h => by cases h), fun h w => optUndef h, fun zβ za zw zc => ?_⟩, ?_⟩
      ·exact ld_3 rfl ((evt za 52).trans (optSVal (zc.dep 3 52 (by kernel_rfl) (by decide)) rfl rfl)) (bkeeps (zc.early (by kernel_rfl)) _ _ hc138) ⟨_, rfl, Below.refl _ _, optDef zβ rfl⟩
      refine ⟨.inl ⟨rfl, true, .none rfl, (fun gg b h => by cases h), fun h w => optUndef h, fun zβ za zw zc => ?_⟩, ?_⟩
      ·exact ld_35 rfl (zc.kn.ev rfl) (bkeeps (zc.early (by kernel_rfl)) _ _ ((hB135.cell 0).trans rfl)) (bkeeps (zc.early (by kernel_rfl)) _ _ ((hB135.cell 1).trans rfl)) ⟨_, rfl, Below.refl _ _, optDef zβ rfl⟩
      refine ⟨.inl ⟨rfl, true, .none rfl, (fun gg b h => by cases h), fun h w => optUndef h, fun zβ za zw zc => ?_⟩, ?_⟩
      ·exact ix_25 (k := p0.toNat) rfl ((evt za 50).trans (optSVal (zc.dep 1 50 (by kernel_rfl) (by decide)) rfl rfl)) e9 ((evt za 53).trans (optSVal (zc.dep 4 53 (by kernel_rfl) (by decide)) rfl rfl)) (by first | omega | (simp; omega)) ⟨_, rfl, Below.refl _ _, optDef zβ rfl⟩
      refine ⟨.inr ⟨rfl, rfl, fun za zw zc => ?_⟩, ?_⟩
      ·have zv := InT.below zc.below ho137
       have zd := RowD.below ho136 zc.below
       rw [e9] at zd
       exact st_35 rfl ((evt za 55).trans (optSVal (zc.dep 6 55 (by kernel_rfl) (by decide)) rfl rfl)) ((evt za 54).trans (optSVal (zc.dep 5 54 (by kernel_rfl) (by decide)) rfl rfl)) rfl rfl (hB9.below zc.below) (hsz9 _ hi0) (fun v => ⟨v, rfl, (by rw [e9]; exact RowD.setT zd hi0 (zv.mono (fun b hb _ => ⟨hb.1, fun q => by have z := ho95 b (by rw [e9]; exact q); omega⟩))), .ofUpd ((Upd.at_ _ _ _ _).trans (Upd.at_ _ _ _ _)) rfl⟩)
      exact trivial
     ·intro za w139 zh hG140 hc141 zu
      have hb142 := chg_below hb125 hc141 (fun b hb => (by omega))
      have hB143 := chg_blk hB129 hc141 (by omega)
      have hB144 := chg_blk hB131 hc141 (by omega)
      have hB145 := chg_blk hB133 hc141 (by omega)
      have hB146 := chg_blk hB135 hc141 (by omega)
      have hB147 := chg_blk hB121 hc141 (by omega)
      clear zu
      refine WE.go zh ?_
      refine WE.next (WC.seq (WC.region ?_))
      refine WL.val _ rfl rfl rfl (fun za zC zh zk => ld_35 rfl (zh.ev rfl) ((hB147.cell 0).trans rfl) ((hB147.cell 1).trans rfl) zk) ?_
      refine WL.step (post := fun _ w' => Upd g17 w139 w' ∧ Blk w' g17 35 #[.int .i64 f, .slice ra90 l.length rc91]) rfl rfl rfl (fun za zC zh zk => st_35 rfl (zh.ev rfl) (zh.ev rfl) rfl rfl hB145 (by first | decide | simp) (fun v => zk v _ ⟨(Upd.at_ _ _ _ _).trans (Upd.at_ _ _ _ _), (hB145.set_ 0 _).set_ 1 _⟩)) ?_
      rintro v151 w148 ⟨hu149, hB150⟩
      have hb152 := upd_below hb142 hu149 (by omega)
      have hB153 := upd_blk hB143 hu149 (by omega)
      have hB154 := upd_blk hB144 hu149 (by omega)
      have hB155 := upd_blk hB146 hu149 (by omega)
      have hB156 := upd_blk hB147 hu149 (by omega)
      have hd157 := RowD.chg (Z := fun b => b = g17) hG140 (.ofUpd hu149 rfl) (fun b q e => by have z := ho95 b q; have z2 : b = g17 := e; omega) (fun b q e => by have z := q.1; have z2 : b = g17 := e; omega)
      refine WL.asg rfl rfl rfl rfl rfl (WL.nil (WE.next (WC.ret ?_)))
      refine WE.retAny (v := .tuple #[.agg #[.int .i64 f, .slice ra90 l.length rc91], .bool true]) (fun za zh => ?_) ?_
      ·have z0 : za.tmps[6]?.getD undef = .pointer (some ⟨g17, 0, none⟩) := by rw [← Array.getD_eq_getD_getElem?]; exact zh.knows 6 _ rfl
       have y0_0 : w148.cell? ⟨g17, 0, none⟩ = some (.int .i64 f) := ((hB150.cell 0).trans rfl)
       have y0_1 : w148.cell? ⟨g17, 1, none⟩ = some (.slice ra90 l.length rc91) := ((hB150.cell 1).trans rfl)
       have z1 : za.tmps[7]?.getD undef = .bool true := by rw [← Array.getD_eq_getD_getElem?]; exact zh.knows 7 _ rfl
       simp [results, Try.results47, z0, y0_0, y0_1, z1, go_sem]
      ·have hpn : T.putAt q (p0 :: p) (.mk f l) = some (.mk f (l.set p0.toNat (putX q p (tget l p0.toNat)))) := by
        rw [T.putAt, if_neg hp1]
        unfold putX
        cases hq9 : T.putAt q p (tget l p0.toNat) with
        | none => unfold putOk at hso; rw [hq9] at hso; cases hso
        | some y => rfl
       have hre := RowD.rowEB (B := w.heap.size) hd157 (fun b q => Nat.le_trans hw5 q.1) (fun b q => by have z := ho95 b q; omega)
       have hpx : putX q (p0 :: p) (.mk f l) = .mk f (l.set p0.toNat (putX q p (tget l p0.toNat))) := by
        show (T.putAt q (p0 :: p) (.mk f l)).getD _ = _
        rw [hpn]; rfl
       unfold putOk
       rw [hpx, hpn]
       exact ⟨_, rfl, ⟨_, rfl, newT_row (w0 := w) hf hre (Nat.le_refl _)⟩, hb152⟩
theorem tput_any (q : T) (hq : q.size ≤ 4294967296) : ∀ (p : List Int) (t : T) (w : World) (v vq : Value) (pa : Option Addr) (pc : Nat), t.size ≤ 4294967296 → pc ≤ maxLen → IsT w t v → PIs w p pa pc → IsT w q vq →
  Calls Try.prog 47 #[v, .slice pa p.length pc, vq] w (Ret fun v' w' => (∃ u, v' = .tuple #[u, .bool (putOk q p t)] ∧ NewT w w' (putX q p t) u) ∧ Below w.heap.size w w')
 | [], t, w, v, vq, pa, pc, hz, hm, hv, hp, hvq => tput_nil q t hq w v vq pa pc hv hvq
 | p0 :: p, .mk f l, w, v, vq, pa, pc, hz, hm, hv, hp, hvq => tput_cons q hq p0 p (tput_any q hq p) f l w v vq pa pc hz hm hv hp hvq
end Go.Proofs.Ytbohlpfndiiimaa

/- The document's bank: plain, and in memory. -/
namespace Go.Proofs.Ytbohlpfndiiimaa
open Go.RowKit Go
set_option linter.unusedVariables false
set_option linter.unusedSimpArgs false
theorem tms_len (N : List En) : (tms N).length = N.length := by unfold tms; simp
theorem tms_get {N : List En} {k : Nat} (h : k < N.length) : tget (tms N) k = tmE N k := by
  rw [tget_lt (by rw [tms_len]; exact h)]
  unfold tms
  simp
theorem tms_app {N : List En} {x : En} (h : BOk N) : tms (N ++ [x]) = tms N ++ [tmE (N ++ [x]) N.length] := by
  unfold tms
  rw [List.length_append, List.length_singleton, List.range_succ, List.map_append, List.map_singleton]
  congr 1
  exact mapmem (fun a ha => tmE_app h (List.mem_range.1 ha))
theorem tm_argk {N : List En} (h : BOk N) {n : Nat} (hn : n < N.length) : (tmE N n).args.length = (eget N n).args.length ∧ ∀ k, k < (eget N n).args.length → tget (tmE N n).args k = tmE N (aget (eget N n).args k) ∧ aget (eget N n).args k < n := by
  have e : (tmE N n).args = (eget N n).args.map (tmE N) := by rw [tmE_eq h hn]; rfl
  refine ⟨by rw [e, List.length_map], fun k hk => ⟨?_, h.args n hn _ (aget_mem hk)⟩⟩
  rw [e, tget_lt (by rw [List.length_map]; exact hk), List.getElem_map, aget_lt hk]
theorem bfind_same {N : List En} (h : BOk N) {t : T} {k : Nat} (hk : k < N.length) (e : T.same (tmE N k) t = true) : t.bfind N = some k := bfind_tm h hk ((T.same_iff _ _).1 e)
theorem bfind_nosame {N : List En} (h : BOk N) {t : T} (e : ∀ k, k < N.length → T.same (tmE N k) t = false) : t.bfind N = none := by
  cases hq : t.bfind N with
  | none => rfl
  | some n =>
    obtain ⟨h1, h2⟩ := bfind_some h hq
    have := e n h1
    rw [h2, T.same_refl] at this; cases this
theorem bput_idx {N : List En} (h : BOk N) (f : Int) (l : List T) : (T.mk f l).bfind (T.bputL l N).1 = idxE (T.bputL l N).1 ⟨f, (T.bputL l N).2⟩ := by
  obtain ⟨h1, h2, h3, _⟩ := bputL_ok l N h
  rw [T.bfind, bfindL_tm h1.ok h2 h3]; rfl
theorem bput_found {N : List En} (h : BOk N) {f : Int} {l : List T} {n : Nat} (e : (T.mk f l).bfind (T.bputL l N).1 = some n) : (T.mk f l).bput N = ((T.bputL l N).1, n) := by
  rw [bput_idx h] at e
  rw [T.bput]; unfold addE; rw [e]
theorem bput_new {N : List En} (h : BOk N) {f : Int} {l : List T} (e : (T.mk f l).bfind (T.bputL l N).1 = none) : (T.mk f l).bput N = ((T.bputL l N).1 ++ [⟨f, (T.bputL l N).2⟩], (T.bputL l N).1.length) ∧ tms ((T.mk f l).bput N).1 = tms (T.bputL l N).1 ++ [.mk f l] := by
  obtain ⟨h1, h2, h3, _⟩ := bputL_ok l N h
  have k := bput_ok (.mk f l) N h
  rw [bput_idx h] at e
  have e2 : (T.mk f l).bput N = ((T.bputL l N).1 ++ [⟨f, (T.bputL l N).2⟩], (T.bputL l N).1.length) := by rw [T.bput]; unfold addE; rw [e]
  refine ⟨e2, ?_⟩
  rw [e2] at k ⊢
  show tms ((T.bputL l N).1 ++ [⟨f, (T.bputL l N).2⟩]) = _
  rw [tms_app h1.ok, k.2.2.1]
theorem setLast {l : List T} {n : Nat} {x y : T} (h : l.length = n) : (l ++ [x]).set n y = l ++ [y] := by
  subst h
  rw [List.set_append_right _ _ (Nat.le_refl _), Nat.sub_self]; rfl
theorem bfind_getk {N : List En} {t : T} {j : Nat} (h : t.bfind N = some j) : (((t.bfind N).getD 0 : Nat) : Int) = (j : Int) ∧ (t.bfind N).isSome = true := by rw [h]; exact ⟨rfl, rfl⟩
/-- So far gone through, the users of 'k'. -/
def usersT (N : List En) (k i : Nat) : List Nat := (List.range i).filter (fun j => decide (k ∈ (eget N j).args))
theorem usersT_end (N : List En) (k : Nat) : usersT N k N.length = usersE N k := rfl
theorem usersT_yes {N : List En} {k i : Nat} (h : k ∈ (eget N i).args) : usersT N k (i + 1) = usersT N k i ++ [i] := by
  unfold usersT; rw [List.range_succ, List.filter_append, List.filter_cons, if_pos (by simpa using h)]; rfl
theorem usersT_no {N : List En} {k i : Nat} (h : ¬ k ∈ (eget N i).args) : usersT N k (i + 1) = usersT N k i := by
  unfold usersT; rw [List.range_succ, List.filter_append, List.filter_cons, if_neg (by simpa using h)]; simp
theorem usersT_len (N : List En) (k i : Nat) : (usersT N k i).length ≤ i := by
  unfold usersT
  have z := List.length_filter_le (fun j => decide (k ∈ (eget N j).args)) (List.range i)
  rwa [List.length_range] at z
theorem take_mem_succ {xs : List Nat} {y k : Nat} (h : y < xs.length) : decide (k ∈ xs.take (y + 1)) = (decide (k ∈ xs.take y) || decide (aget xs y = k)) := by
  rw [List.take_succ_eq_append_getElem h, aget_lt h, Bool.eq_iff_iff]
  simp only [List.mem_append, List.mem_singleton, Bool.or_eq_true, decide_eq_true_eq]
  exact or_congr Iff.rfl eq_comm
/-- Is there a term with that number? -/
def hasB (N : List En) (n : Int) : Bool := decide (0 ≤ n) && decide (n < (N.length : Int))
theorem hasB_yes {N : List En} {k : Nat} (h : k < N.length) : hasB N (k : Int) = true := by unfold hasB; simp; omega
theorem hasB_no {N : List En} {n : Int} (h : ¬ (0 ≤ n ∧ n < (N.length : Int))) : hasB N n = false := by unfold hasB; rw [Bool.and_eq_false_iff]; simp; omega
/-- The document's bank, whose blocks are of 'Y'. -/
structure RbO (w : World) (g : Nat) (sg : List Sy) (S : Nat → Prop) (sa : Option Addr) (sc : Nat) (ta : Option Addr) (tc : Nat) (Y : Nat → Prop) (N : List En) : Prop where
  blk : Blk w g 60 #[.slice sa sg.length sc, .slice ta N.length tc]
  sys : Own w (fun b => Y b ∧ b ≠ g ∧ ¬ S b ∧ obk ta N.length tc ≠ some b) 66 3 sa sc sg.length (syCells sg)
  wf : ∀ x ∈ sg, I64 x.ar ∧ x.name.size ≤ maxLen
  row : RowD eltT S w 35 ta tc N.length (tms N)
  sY : ∀ b, S b → Y b ∧ b ≠ g
  oY : ∀ b, obk ta N.length tc = some b → Y b ∧ b ≠ g
  gY : Y g
  lt : ∀ b, Y b → b < w.heap.size
  ok : NEk N
def RbS (w : World) (g : Nat) (sg : List Sy) (Y : Nat → Prop) (N : List En) : Prop := ∃ S sa sc ta tc, RbO w g sg S sa sc ta tc Y N
section
variable {w w' : World} {g B : Nat} {sg : List Sy} {S S' Y Z X X2 : Nat → Prop} {sa ta ra : Option Addr} {sc tc rc : Nat} {N : List En}
theorem RbO.chg (h : RbO w g sg S sa sc ta tc Y N) (hc : Chg X w w') (hX : ∀ b, Y b → ¬ X b) : RbO w' g sg S sa sc ta tc Y N :=
  ⟨chg_blk h.blk hc (hX _ h.gY), h.sys.chg hc (fun b q => hX b q.1), h.wf, h.row.chg hc (fun b q => hX b (h.oY b q).1) (fun b q => hX b (h.sY b q).1), h.sY, h.oY, h.gY, fun b q => Nat.lt_of_lt_of_le (h.lt b q) hc.size, h.ok⟩
theorem RbO.c0 (h : RbO w g sg S sa sc ta tc Y N) : w.cell? ⟨g, 0, none⟩ = some (.slice sa sg.length sc) := (h.blk.cell 0).trans rfl
theorem RbO.c1 (h : RbO w g sg S sa sc ta tc Y N) : w.cell? ⟨g, 1, none⟩ = some (.slice ta N.length tc) := (h.blk.cell 1).trans rfl
theorem RbO.sig (h : RbO w g sg S sa sc ta tc Y N) : IsSig w sg (.agg #[.slice sa sg.length sc]) := by
  obtain ⟨_, h1, h2, h3⟩ := sys_of_own h.sys.1 h.wf
  exact ⟨sa, sc, rfl, h1, h2, h3⟩
theorem RbO.ts (h : RbO w g sg S sa sc ta tc Y N) : IsTs w (tms N) ta 0 := InTs.isTs (InRow.ts (RowD.inRow h.row).1)
theorem RbO.cap (h : RbO w g sg S sa sc ta tc Y N) : N.length ≤ tc ∧ tc ≤ maxLen := ⟨(RowD.inRow h.row).2.1, (RowD.inRow h.row).2.2⟩
theorem RbS.chg (h : RbS w g sg Y N) (hc : Chg X w w') (hX : ∀ b, Y b → ¬ X b) : RbS w' g sg Y N := by
  obtain ⟨S, sa, sc, ta, tc, h⟩ := h
  exact ⟨S, sa, sc, ta, tc, h.chg hc hX⟩
theorem RbS.below (h : RbS w g sg Y N) (hb : Below w.heap.size w w') : RbS w' g sg Y N := h.chg (X := fun _ => False) (.ofBelow hb) (fun _ _ => id)
theorem RbS.lt (h : RbS w g sg Y N) : ∀ b, Y b → b < w.heap.size := by obtain ⟨S, sa, sc, ta, tc, h⟩ := h; exact h.lt
theorem RbS.ok (h : RbS w g sg Y N) : NEk N := by obtain ⟨S, sa, sc, ta, tc, h⟩ := h; exact h.ok
/-- A bank whose blocks are of 'Z', or came from 'B' on, and none of them of 'X'. -/
def RbJ (w : World) (B : Nat) (Z : Nat → Prop) (g : Nat) (sg : List Sy) (N : List En) (X : Nat → Prop) : Prop := ∃ Y, RbS w g sg Y N ∧ (∀ b, Y b → Z b ∨ B ≤ b) ∧ ∀ b, X b → ¬ Y b
/-- A term more has come. -/
theorem RbO.grown {x : En} {t : T} {u : World} (h : RbO w g sg S sa sc ta tc Y N) (hok : NEk (N ++ [x])) (ht : tms (N ++ [x]) = tms N ++ [t]) (hsz : w.heap.size ≤ u.heap.size)
    (hB : Blk u g 60 #[.slice sa sg.length sc, .slice ra (N.length + 1) rc]) (hr : RowD eltT (fun b => (S b ∨ w.heap.size ≤ b) ∧ obk ra (N.length + 1) rc ≠ some b) u 35 ra rc (N.length + 1) (tms N ++ [t])) (ho : ∀ b, obk ra (N.length + 1) rc = some b → obk ta N.length tc = some b ∨ w.heap.size ≤ b)
    (hc : Chg (fun b => b = g ∨ obk ta N.length tc = some b) w u) : RbO u g sg (fun b => ((S b ∨ w.heap.size ≤ b) ∧ obk ra (N.length + 1) rc ≠ some b) ∧ b < u.heap.size) sa sc ra rc (fun b => (Y b ∨ w.heap.size ≤ b) ∧ b < u.heap.size) (N ++ [x]) := by
  have hl : (N ++ [x]).length = N.length + 1 := by simp
  have hgl := h.blk.lt
  have hrl := hr.lt
  refine ⟨by rw [hl]; exact hB, ?_, h.wf, by rw [hl, ht]; exact hr.mono (fun b q hlt => ⟨q, hlt⟩) (fun b q => q.1.2), fun b q => ?_, fun b q => ?_, ⟨.inl h.gY, hB.lt⟩, fun b q => q.2, hok⟩
  · refine (h.sys.chg hc (fun b q k => k.elim q.2.1 q.2.2.2)).mono (fun b q hlt => ⟨⟨.inl q.1, hlt⟩, q.2.1, fun k => ?_, fun k => ?_⟩)
    · have := h.lt b q.1
      exact k.1.1.elim q.2.2.1 (fun z => by omega)
    · rw [hl] at k
      have := h.lt b q.1
      exact (ho b k).elim q.2.2.2 (fun z => by omega)
  · rcases q.1.1 with z | z
    · exact ⟨⟨.inl (h.sY b z).1, q.2⟩, (h.sY b z).2⟩
    · exact ⟨⟨.inr z, q.2⟩, by omega⟩
  · rw [hl] at q
    have hlt := hrl b q
    rcases ho b q with z | z
    · exact ⟨⟨.inl (h.oY b z).1, hlt⟩, (h.oY b z).2⟩
    · exact ⟨⟨.inr z, hlt⟩, by omega⟩
end
end Go.Proofs.Ytbohlpfndiiimaa

namespace Go.Proofs.Ytbohlpfndiiimaa
open Go.RowKit Go.Sort Go
set_option maxHeartbeats 400000 in
theorem compare_any (s : T) : ∀ (t : T) (w : World) (v u : Value), IsT w s v → IsT w t u →
    Calls Try.prog 32 #[v, u] w fun e w' => e = .returned (.int .i64 (T.cmp s t)) ∧ Below w.heap.size w w' := by
  induction s using T.ind with
  | h f l ih =>
  intro t w v u hv hu
  obtain ⟨g, q⟩ := t
  obtain ⟨⟨hf1, hf2⟩, a, c, rfl, hc, hm, hl⟩ := hv
  obtain ⟨⟨hg1, hg2⟩, a', c', rfl, hc', hm', hq⟩ := hu
  unfold maxLen at hm hm'
  by_cases hfg : f = g
  · have E := Lib.hid (show T.cmp (.mk f l) (.mk g q) = T.cmpL l q by rw [T.cmp, if_neg (by simpa using hfg)])
    have hne : (f != g) = false := by simpa using hfg
    subst hfg
    go_enter Try.func32, Try.ntmps32
    go_wp2_with fail
    go_loopw [5] (fun i wr => ∃ (k : Nat), k ≤ l.length ∧ k ≤ q.length ∧ i = .int .i64 k ∧ Hid (T.cmpL l q = T.cmpL (l.drop k) (q.drop k)) ∧ Below w.heap.size w wr ∧ Box wr w.heap.size [.int .i64 f, .slice a l.length c] ∧ Box wr (w.heap.size + 1) [.int .i64 f, .slice a' q.length c']) (fun i _ => l.length - (intOf i).toNat)
    case atStart => exact ⟨0, Nat.zero_le _, Nat.zero_le _, rfl, rfl, balloc2 _ _ _, (Box.new _ _ _).alloc _, by have := Box.new (w.alloc (.cells #[.int .i64 f, .slice a l.length c] 35)) [.int .i64 f, .slice a' q.length c'] 35; simpa using this⟩
    case round =>
      obtain ⟨k, hk, hkq, rfl, hx, hw, hB1, hB2⟩ := hrel
      obtain ⟨s0, s1⟩ := hB1.two
      obtain ⟨t0, t1⟩ := hB2.two
      by_cases hlt : k < l.length
      · by_cases hlq : k < q.length
        · obtain ⟨b1, o1, a1, c1, rfl, g1, g2, h3⟩ := hl.at_ hw k hlt
          obtain ⟨b2, o2, a2, c2, rfl, g3, g4, h4⟩ := hq.at_ hw k hlq
          have IH := fun w v u => ih l[k] (List.getElem_mem hlt) q[k] w v u
          have q5 := T.cmpL_drop l q k hlt hlq
          have k0 : (0 : Int) ≤ (k : Int) := by omega
          have k1 : (k : Int) < (l.length : Int) := by omega
          have k2 : (k : Int) < (q.length : Int) := by omega
          have r0 := cell_regrown s1
          have r1 := cell_regrown t1
          have r2 := cell_regrown g1
          have r3 := cell_regrown g2
          have r4 := cell_regrown g3
          have r5 := cell_regrown g4
          have Hh3 := Lib.hid h3
          have Hh4 := Lib.hid h4
          have HhB1 := Lib.hid hB1
          have HhB2 := Lib.hid hB2
          have Hhw := Lib.hid hw
          have Hq5 := Lib.hid q5
          have Hhx := Lib.hid hx
          clear h3 h4 hB1 hB2 hw q5 hx
          clear ih hl hq
          by_cases hz : T.cmp l[k] q[k] = 0
          · rw [hz] at IH
            have Hz := Lib.hid hz
            clear hz
            go_wp2_with fail
            refine wp_region_quiet_below (by kernel_rfl) (by kernel_rfl) ?_
            repeat (quiet_step (exact Calls.regrown_of (IH _ _ _ (Hh3.out.below (below_regrown _ _ _)) (Hh4.out.below (below_regrown _ _ _)))))
            refine wpQuiet_nil ?_
            intro _ hw'
            obtain ⟨⟨dq, osq⟩, hw''⟩ := hw'
            subst hw''
            have hbq := below_regrown wr dq osq
            generalize grow (redrawn wr dq) osq = wq at hbq ⊢
            go_wp2_with fail
            go_roundw
            case rel => exact ⟨k + 1, by omega, by omega, by go_num, by unfold Hid; rw [Hhx.out, Hq5.out, if_pos Hz.out], bstep Hhw.out hbq, HhB1.out.below hbq, HhB2.out.below hbq⟩
            case measure => simp [intOf]; omega
          · have hzb : (T.cmp l[k] q[k] != 0) = true := by simpa using hz
            have Hz := Lib.hid hz
            clear hz
            go_wp2_with fail
            refine wp_region_quiet_below (by kernel_rfl) (by kernel_rfl) ?_
            repeat (quiet_step (exact Calls.regrown_of (IH _ _ _ (Hh3.out.below (below_regrown _ _ _)) (Hh4.out.below (below_regrown _ _ _)))))
            refine wpQuiet_nil ?_
            intro _ hw'
            obtain ⟨⟨dq, osq⟩, hw''⟩ := hw'
            subst hw''
            have hbq := below_regrown wr dq osq
            generalize grow (redrawn wr dq) osq = wq at hbq ⊢
            go_wp2_with fail
            go_ret
            exact ⟨rint (by rw [E.out, Hhx.out, Hq5.out, if_neg Hz.out]), bstep Hhw.out hbq⟩
        · have Q := Lib.hid (show T.cmpL (l.drop k) (q.drop k) = 1 from T.cmpL_long l q k hlt (by omega))
          have Hhw := Lib.hid hw
          have Hhx := Lib.hid hx
          clear hw hx
          clear ih hl hq
          go_wp2_with fail
          go_ret
          exact ⟨rint (by rw [E.out, Hhx.out, Q.out]), Hhw.out⟩
      · obtain rfl : k = l.length := by omega
        by_cases hlq : l.length < q.length
        · have Q := Lib.hid (show T.cmpL (l.drop l.length) (q.drop l.length) = -1 from T.cmpL_short l q hlq)
          have Hhw := Lib.hid hw
          have Hhx := Lib.hid hx
          clear hw hx
          clear ih hl hq
          go_wp2_with fail
          go_ret
          exact ⟨rint (by rw [E.out, Hhx.out, Q.out]), Hhw.out⟩
        · have Q := Lib.hid (show T.cmpL (l.drop l.length) (q.drop l.length) = 0 from T.cmpL_end l q (by omega))
          have Hhw := Lib.hid hw
          have Hhx := Lib.hid hx
          clear hw hx
          clear ih hl hq
          go_wp2_with fail
          go_ret
          exact ⟨rint (by rw [E.out, Hhx.out, Q.out]), Hhw.out⟩
  · have hne : (f != g) = true := by simpa using hfg
    by_cases hf : f < 0
    · by_cases hg : g < 0
      · by_cases hlt : g < f
        · have E := Lib.hid (show T.cmp (.mk f l) (.mk g q) = -1 by rw [T.cmp, if_pos hfg, if_pos ⟨hf, hg⟩, if_pos hlt])
          go_enter Try.func32, Try.ntmps32
          go_wp2_with fail
          go_ret
          exact ⟨rint E.out, balloc2 _ _ _⟩
        · have E := Lib.hid (show T.cmp (.mk f l) (.mk g q) = 1 by rw [T.cmp, if_pos hfg, if_pos ⟨hf, hg⟩, if_neg hlt])
          go_enter Try.func32, Try.ntmps32
          go_wp2_with fail
          go_ret
          exact ⟨rint E.out, balloc2 _ _ _⟩
      · have hlt : f < g := by omega
        have E := Lib.hid (show T.cmp (.mk f l) (.mk g q) = -1 by rw [T.cmp, if_pos hfg, if_neg (by omega), if_pos hlt])
        go_enter Try.func32, Try.ntmps32
        go_wp2_with fail
        go_ret
        exact ⟨rint E.out, balloc2 _ _ _⟩
    · by_cases hlt : f < g
      · have E := Lib.hid (show T.cmp (.mk f l) (.mk g q) = -1 by rw [T.cmp, if_pos hfg, if_neg (by omega), if_pos hlt])
        go_enter Try.func32, Try.ntmps32
        go_wp2_with fail
        go_ret
        exact ⟨rint E.out, balloc2 _ _ _⟩
      · have E := Lib.hid (show T.cmp (.mk f l) (.mk g q) = 1 by rw [T.cmp, if_pos hfg, if_neg (by omega), if_neg hlt])
        go_enter Try.func32, Try.ntmps32
        go_wp2_with fail
        go_ret
        exact ⟨rint E.out, balloc2 _ _ _⟩
theorem rsame_any (s t : T) (w : World) (v u : Value) (hv : IsT w s v) (hu : IsT w t u) :
    Calls Try.prog 10 #[v, u] w fun e w' => e = .returned (.bool (T.same s t)) ∧ Below w.heap.size w w' := by
  obtain ⟨_, a, c, rfl, hc, hm, _⟩ := hv.form
  obtain ⟨_, a', c', rfl, hc', hm', _⟩ := hu.form
  unfold maxLen at hm hm'
  have E := T.cmp_same s t
  have C := fun w v u => compare_any s t w v u
  cases hs : T.same s t with
  | true =>
    rw [hs, if_pos rfl] at E
    rw [E] at C
    have Hhv := Lib.hid hv
    have Hhu := Lib.hid hu
    clear hv hu
    clear hs E
    go_enter Try.func10, Try.ntmps10
    go_wp2_with (go_at_call 32; refine (C _ _ _ (Hhv.out.below (balloc2 _ _ _)) (Hhu.out.below (balloc2 _ _ _))).mono ?_; rintro e w' ⟨rfl, hb'⟩)
    go_ret
    exact ⟨rfl, bstep (balloc2 _ _ _) hb'⟩
  | false =>
    rw [hs] at E
    have E' : (T.cmp s t == 0) = false := by simpa using E
    have Hhv := Lib.hid hv
    have Hhu := Lib.hid hu
    clear hv hu
    clear hs E
    go_enter Try.func10, Try.ntmps10
    go_wp2_with (go_at_call 32; refine (C _ _ _ (Hhv.out.below (balloc2 _ _ _)) (Hhu.out.below (balloc2 _ _ _))).mono ?_; rintro e w' ⟨rfl, hb'⟩)
    go_ret
    exact ⟨rfl, bstep (balloc2 _ _ _) hb'⟩
end Go.Proofs.Ytbohlpfndiiimaa
