/- What 'Match' tells: plain. -/
import Derived.Test.YtcmfjnadjddboaaRefSub
import Derived.Test.YtcmfjnadjddboaaMatGo
namespace Go.Proofs.Ytcmfjnadjddboaa
open Go.RowKit Go

theorem subFind_none_iff {st : List Bd} {v : Int} (h : subFind st v = none) : v ∉ st.map (·.var) := by
  intro q
  obtain ⟨b, hb, e⟩ := List.mem_map.1 q
  exact subFind_none' h b hb e
mutual
theorem T.mt_nd : ∀ (p : T) (st : List Bd) (t : T) (s : List Bd), (st.map (·.var)).Nodup → p.mt st t = some s → (s.map (·.var)).Nodup
  | .mk f l, st, t, s, hn, h => by
    rw [T.mt] at h
    split at h
    · split at h
      · rename_i hf
        cases h
        rw [List.map_append, List.nodup_append]
        refine ⟨hn, by simp, fun x hx y hy e => ?_⟩
        have hy' : y = -1 - f := by simpa using hy
        rw [e, hy'] at hx
        exact subFind_none_iff hf hx
      · split at h
        · cases h; exact hn
        · cases h
    · split at h
      · exact T.mtL_nd l st t.args s hn h
      · cases h
theorem T.mtL_nd : ∀ (l : List T) (st : List Bd) (ts : List T) (s : List Bd), (st.map (·.var)).Nodup → T.mtL l st ts = some s → (s.map (·.var)).Nodup
  | [], st, _, s, hn, h => by rw [T.mtL] at h; cases h; exact hn
  | _ :: _, st, [], s, hn, h => by rw [T.mtL] at h; cases h; exact hn
  | p :: ps, st, t :: ts, s, hn, h => by
    rw [T.mtL] at h
    split at h
    · cases h
    · rename_i s1 h1
      exact T.mtL_nd ps s1 ts s (T.mt_nd p st t s1 hn h1) h
end
theorem mTo_nd (p t : T) {st : List Bd} (hn : (st.map (·.var)).Nodup) : ((mTo p t st).map (·.var)).Nodup := by
  unfold mTo
  split
  · cases h : p.mt st t with
    | none => exact hn
    | some s => exact T.mt_nd p st t s hn h
  · exact hn
theorem lTo_nd (p l : Li) (b : Bool) {st : List Bd} (hn : (st.map (·.var)).Nodup) : ((lTo p l b st).map (·.var)).Nodup := by
  unfold lTo
  split
  · exact mTo_nd _ _ (mTo_nd _ _ hn)
  · exact hn
theorem backTo_nd {m : Int} {st : List Bd} (hn : (st.map (·.var)).Nodup) : ((backTo st m).map (·.var)).Nodup := by
  unfold backTo
  split
  · rw [List.map_take]; exact List.Sublist.nodup (List.take_sublist _ _) hn
  · exact hn
theorem NewBs.older {w0 w1 w : World} {R : List Bd} {a : Option Addr} {c : Nat} (h : NewBs w1 w R a c) (hs : w0.heap.size ≤ w1.heap.size) : NewBs w0 w R a c := ⟨h.1.mono (by decide) (fun _ q _ => Nat.le_trans hs q), h.2⟩
theorem NewBs.isBs {w0 w : World} {R : List Bd} {a : Option Addr} {c : Nat} (h : NewBs w0 w R a c) : IsBs w R a := h.1.mono (by decide) (fun _ _ _ => trivial)
/-- What 'Match' tells. -/
def MatchIs (w w' : World) (p t : T) (v : Value) : Prop := if mOk p t [] = true then ∃ (R : List Bd) (a : Option Addr) (c : Nat), v = .tuple #[.slice a R.length c, .bool true] ∧ SubOf (mTo p t []) R ∧ NewBs w w' R a c else v = .tuple #[.slice none 0 0, .bool false]
theorem MatchIs.form {w w' : World} {p t : T} {v : Value} (h : MatchIs w w' p t v) : ∃ (a : Option Addr) (n c : Nat), v = .tuple #[.slice a n c, .bool (mOk p t [])] := by
  unfold MatchIs at h
  cases hb : mOk p t [] with
  | true => rw [if_pos hb] at h; obtain ⟨R, a, c, rfl, _⟩ := h; exact ⟨a, R.length, c, rfl⟩
  | false => rw [if_neg (by rw [hb]; decide)] at h; subst h; exact ⟨none, 0, 0, rfl⟩
def varB (a b : T) : Bool := mOk a b [] && mOk b a []

end Go.Proofs.Ytcmfjnadjddboaa
