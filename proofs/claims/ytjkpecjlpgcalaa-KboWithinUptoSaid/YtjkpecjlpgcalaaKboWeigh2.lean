/- The walks through the program's order of Knuth and Bendix: a term's weight. -/
import Derived.Test.YtjkpecjlpgcalaaKboWeigh
import Derived.Laws.EntriesVeiled
namespace Go.Proofs.Ytjkpecjlpgcalaa
open Go.RowKit Go.Sort Go

set_option maxRecDepth 100000 in
theorem weigh_any (o : Od) (t : T) (w : World) (vo v : Value) (hk : o.knows t = true) (ho : IsOd w o vo) (hv : IsT w t v) :
    Calls Try.prog 29 #[vo, v] w fun e w' => e = .returned (.int .i64 (o.weight t)) ∧ Below w.heap.size w w' := by
  obtain ⟨a3, a4, c3, c4, rfl, n1, n2, n3, n4, p1, p2, p3⟩ := ho
  have hv0 := hv
  obtain ⟨_, a1, c1, rfl, _, _, _⟩ := hv.form
  have C := fun W x Bo Bn Bw => weigh1_any o w t _ hv0 hk W x Bo Bn Bw a3 a4 c3 c4
  have HC := Lib.hid C
  have E := Lib.hid (show o.weight t = min (o.raw t) Od.most by rw [Od.weight])
  clear C hk hv hv0
  go_enter Try.func29, Try.ntmps29
  go_wp2_with fail
  refine (HC.out _ 0 _ _ _ ?c1 (by omega) (by omega) (by omega) n3 n4 p2 p3 ?c2 ?c3 ?c4 (by omega) (by omega)).mono ?_
  case c1 => exact bstep (balloc2 _ _ _) (balloc2 _ _ _)
  case c2 => exact (((Box.new _ _ _).alloc _).alloc _).alloc _
  case c3 => exact Box.new' (by simp)
  case c4 => exact (Below.heap_alloc _ _ _ (by simp)).trans (heap_new' (by simp))
  rintro e w' ⟨rfl, hn, hg⟩
  have hc := cell_of_one hn
  have hb := gbelow (bstep (balloc2 w _ _) (balloc2 _ _ _)) hg (by omega)
  have Hhb := Lib.hid hb
  clear hb
  clear hn hg
  go_wp2_with fail
  go_ret
  exact ⟨rint E.out, Hhb.out⟩

end Go.Proofs.Ytjkpecjlpgcalaa
