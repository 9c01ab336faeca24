/- Two substitutions one behind the other, in plain Lean. -/
import Derived.Test.YtgechlgdnnpoeaaSubSame
namespace Go.Proofs.Ytgechlgdnnpoeaa
open Go.RowKit Go

def vt (v : Int) : T := .mk (-1 - v) []
theorem vt_app {s : List Bd} {v : Int} (h : 0 ≤ v) : (vt v).app s = (subFind s v).getD (vt v) := by
  have hf : -1 - v < 0 := by omega
  have e : -1 - (-1 - v) = v := by omega
  cases hs : subFind s v with
  | some u => exact app_some hf (by rw [e]; exact hs)
  | none => exact app_none (l := []) (fun _ => by rw [e]; exact hs)
theorem itself_iff {x : Bd} : x.itself = true ↔ x.t = vt x.var := by
  obtain ⟨v, t⟩ := x
  obtain ⟨f, l⟩ := t
  simp [Bd.itself, T.f, T.args, vt]
  intro _
  exact decide_eq_true_iff
theorem subFind_iff {l : List Bd} (h : l.Pairwise fun x y => x.var < y.var) {v : Int} {u : T} : subFind l v = some u ↔ (⟨v, u⟩ : Bd) ∈ l := by
  constructor
  · intro hs
    unfold subFind at hs
    obtain ⟨b, hb, rfl⟩ := Option.map_eq_some_iff.1 hs
    have h1 := List.find?_some hb
    have h2 := List.mem_of_find?_eq_some hb
    have e : b.var = v := by simpa using h1
    subst e; exact h2
  · intro hm
    obtain ⟨i, hi, e⟩ := List.getElem_of_mem hm
    have he : dget l i = ⟨v, u⟩ := by rw [dget_lt hi]; exact e
    have := subFind_at (l := l) (m := v) hi (by rw [he]) (fun k hk e2 => by have := sorted_of h k i hk hi; rw [he] at this; simp only at this; omega)
    rw [this, he]
theorem subFind_no {l : List Bd} {v : Int} (h : ∀ x ∈ l, x.var ≠ v) : subFind l v = none := subFind_none fun k hk => h _ (dget_mem hk)

theorem comp_var {a b R : List Bd} (ha : subOk (-1) a = true) (hb : subOk (-1) b = true) (hR : CompOf a b R) {v : Int} (hv : 0 ≤ v) : (vt v).app R = ((vt v).app a).app b := by
  have sa := (subOk_sorted a _ ha).2
  have sb := (subOk_sorted b _ hb).2
  rw [vt_app hv, vt_app hv]
  cases h : subFind a v with
  | some u =>
    rw [Option.getD_some]
    have hm := (subFind_iff sa).1 h
    have hcx : (⟨v, u.app b⟩ : Bd) ∈ cx a b := by
      unfold cx; exact List.mem_append.2 (.inl (List.mem_map.2 ⟨_, hm, rfl⟩))
    cases hi : (⟨v, u.app b⟩ : Bd).itself with
    | true =>
      have e : u.app b = vt v := itself_iff.1 hi
      rw [subFind_no (fun x hx hxv => ?_), Option.getD_none, e]
      obtain ⟨h1, h2⟩ := (hR.mem x).1 hx
      unfold cx cxr at h1
      rcases List.mem_append.1 h1 with h1 | h1
      · obtain ⟨y, hy, rfl⟩ := List.mem_map.1 h1
        have hy2 := (subFind_iff sa (v := y.var) (u := y.t)).2 hy
        rw [show y.var = v from hxv, h] at hy2
        have e2 : y.t = u := (Option.some.inj hy2).symm
        have e3 : Bd.ap b y = ⟨v, u.app b⟩ := by unfold Bd.ap; rw [e2, show y.var = v from hxv]
        rw [e3, hi] at h2; cases h2
      · have := (List.mem_filter.1 h1).2
        rw [hxv, h] at this; cases this
    | false => rw [(subFind_iff hR.sorted).2 ((hR.mem _).2 ⟨hcx, hi⟩), Option.getD_some]
  | none =>
    rw [Option.getD_none, vt_app hv]
    cases h2 : subFind b v with
    | some u =>
      have hm := (subFind_iff sb).1 h2
      have hi := ((subOk_iff b (-1)).1 hb).1 _ hm
      rw [(subFind_iff hR.sorted).2 ((hR.mem _).2 ⟨?_, hi.2⟩)]
      unfold cx cxr
      exact List.mem_append.2 (.inr (List.mem_filter.2 ⟨hm, by simp only [h]; rfl⟩))
    | none =>
      rw [subFind_no (fun x hx hxv => ?_)]
      obtain ⟨h1, _⟩ := (hR.mem x).1 hx
      unfold cx cxr at h1
      rcases List.mem_append.1 h1 with h1 | h1
      · obtain ⟨y, hy, rfl⟩ := List.mem_map.1 h1
        have hy2 := (subFind_iff sa (v := y.var) (u := y.t)).2 hy
        rw [show y.var = v from hxv, h] at hy2; cases hy2
      · have hx2 := (subFind_iff sb (v := x.var) (u := x.t)).2 (List.mem_filter.1 h1).1
        rw [hxv, h2] at hx2; cases hx2

mutual
/-- No variable has arguments. -/
def T.plain : T → Bool
  | .mk f l => T.plainL l && (decide (0 ≤ f) || l.isEmpty)
def T.plainL : List T → Bool
  | [] => true
  | t :: r => t.plain && T.plainL r
end
theorem plainL_mem : ∀ {l : List T}, T.plainL l = true ↔ ∀ t ∈ l, t.plain = true
  | [] => by simp [T.plainL]
  | t :: r => by rw [T.plainL, Bool.and_eq_true, plainL_mem (l := r)]; simp
theorem app_comp {a b R : List Bd} (ha : subOk (-1) a = true) (hb : subOk (-1) b = true) (hR : CompOf a b R) : ∀ t : T, t.plain = true → t.app R = (t.app a).app b := by
  refine T.ind fun f l ih hp => ?_
  rw [T.plain, Bool.and_eq_true, plainL_mem, Bool.or_eq_true, decide_eq_true_eq] at hp
  by_cases hf : 0 ≤ f
  · have h0 : ∀ s : List Bd, ∀ l : List T, (T.mk f l).app s = .mk f (l.map (T.app s)) := fun s l => app_none (fun h => by omega)
    rw [h0, h0, h0, List.map_map]
    congr 1
    exact List.map_congr_left fun t ht => ih t ht (hp.1 t ht)
  · have hl : l = [] := by
      rcases hp.2 with h | h
      · omega
      · simpa using h
    subst hl
    have e : T.mk f [] = vt (-1 - f) := by unfold vt; congr 1; omega
    rw [e]
    exact comp_var ha hb hR (by omega)
theorem app_nil : ∀ t : T, t.app [] = t := by
  refine T.ind fun f l ih => ?_
  rw [app_none (fun _ => rfl)]
  congr 1
  have : l.map (T.app []) = l.map id := List.map_congr_left fun t ht => ih t ht
  rw [this, List.map_id]
theorem comp_ok {a b R : List Bd} (ha : subOk (-1) a = true) (hb : subOk (-1) b = true) (hR : CompOf a b R) : subOk (-1) R = true := by
  rw [subOk_iff] at ha hb ⊢
  refine ⟨fun x hx => ?_, hR.sorted⟩
  obtain ⟨h1, h2⟩ := (hR.mem x).1 hx
  refine ⟨?_, h2⟩
  unfold cx cxr at h1
  rcases List.mem_append.1 h1 with h1 | h1
  · obtain ⟨y, hy, rfl⟩ := List.mem_map.1 h1
    exact (ha.1 y hy).1
  · exact (hb.1 x (List.mem_filter.1 h1).1).1
theorem ok_mem {R : List Bd} (h : subOk (-1) R = true) (x : Bd) : x ∈ R ↔ 0 ≤ x.var ∧ (vt x.var).app R = x.t ∧ x.itself = false := by
  have hs := (subOk_sorted R _ h).2
  have h1 := ((subOk_iff R (-1)).1 h).1
  constructor
  · intro hx
    have h2 := h1 x hx
    refine ⟨by omega, ?_, h2.2⟩
    rw [vt_app (by omega), (subFind_iff hs (v := x.var) (u := x.t)).2 hx]; rfl
  · rintro ⟨h2, h3, h4⟩
    rw [vt_app h2] at h3
    cases hf : subFind R x.var with
    | some u =>
      rw [hf, Option.getD_some] at h3
      rw [h3] at hf
      exact (subFind_iff hs (v := x.var) (u := x.t)).1 hf
    | none =>
      rw [hf, Option.getD_none] at h3
      rw [itself_iff.2 h3.symm] at h4; cases h4
theorem ok_ext {R Q : List Bd} (h : subOk (-1) R = true) (h' : subOk (-1) Q = true) (he : ∀ v, 0 ≤ v → (vt v).app R = (vt v).app Q) : R = Q := by
  refine sorted_ext (subOk_sorted R _ h).2 (subOk_sorted Q _ h').2 fun x => ?_
  rw [ok_mem h, ok_mem h']
  exact ⟨fun ⟨h1, h2, h3⟩ => ⟨h1, by rw [← he _ h1]; exact h2, h3⟩, fun ⟨h1, h2, h3⟩ => ⟨h1, by rw [he _ h1]; exact h2, h3⟩⟩
theorem subOk_nil : subOk (-1) [] = true := rfl
theorem comp_nilR {a R : List Bd} (ha : subOk (-1) a = true) (hR : CompOf a [] R) : R = a := ok_ext (comp_ok ha subOk_nil hR) ha fun v hv => by rw [comp_var ha subOk_nil hR hv, app_nil]
theorem comp_nilL {a R : List Bd} (ha : subOk (-1) a = true) (hR : CompOf [] a R) : R = a := ok_ext (comp_ok subOk_nil ha hR) ha fun v hv => by rw [comp_var subOk_nil ha hR hv, app_nil]
def plainSub (a : List Bd) : Bool := a.all fun x => x.t.plain
theorem comp_assoc {a b c ab bc X Y : List Bd} (ha : subOk (-1) a = true) (hb : subOk (-1) b = true) (hc : subOk (-1) c = true) (h1 : CompOf a b ab) (h2 : CompOf b c bc) (hX : CompOf ab c X) (hY : CompOf a bc Y) (hp : plainSub a = true) : X = Y := by
  have hab := comp_ok ha hb h1
  have hbc := comp_ok hb hc h2
  refine ok_ext (comp_ok hab hc hX) (comp_ok ha hbc hY) fun v hv => ?_
  rw [comp_var hab hc hX hv, comp_var ha hb h1 hv, comp_var ha hbc hY hv]
  refine (app_comp hb hc h2 _ ?_).symm
  rw [vt_app hv]
  cases h : subFind a v with
  | some u =>
    have := (subFind_iff (subOk_sorted a _ ha).2).1 h
    exact List.all_eq_true.1 hp _ this
  | none => simp [vt, T.plain, T.plainL]

theorem size_app {s : List Bd} {M : Nat} (hM : 1 ≤ M) (hs : ∀ x ∈ s, x.t.size ≤ M) : ∀ t : T, (t.app s).size ≤ t.size * M := by
  refine T.ind fun f l ih => ?_
  by_cases h : f < 0 ∧ (subFind s (-1 - f)).isSome = true
  · obtain ⟨h1, h2⟩ := h
    rw [app_some h1 (isSome_true h2)]
    obtain ⟨b, hb, e⟩ := subFind_mem (isSome_true h2)
    have := hs b hb
    rw [e] at this
    have h3 : 1 * M ≤ (T.mk f l).size * M := Nat.mul_le_mul_right _ (by rw [T.size]; omega)
    omega
  · rw [app_none (fun hf => isSome_false (by cases hx : (subFind s (-1 - f)).isSome with | true => exact absurd ⟨hf, hx⟩ h | false => rfl)), T.size, T.size]
    have key : ∀ l : List T, (∀ t ∈ l, (t.app s).size ≤ t.size * M) → T.sizeL (l.map (T.app s)) ≤ T.sizeL l * M := by
      intro l
      induction l with
      | nil => intro _; simp [T.sizeL]
      | cons t r ih2 =>
        intro hl
        have h1 := hl t (by simp)
        have h2 := ih2 fun x hx => hl x (by simp [hx])
        simp only [List.map_cons, T.sizeL, Nat.add_mul]; omega
    have := key l ih
    simp only [Nat.add_mul, Nat.one_mul]; omega
theorem nodup_len {R K : List Bd} (hR : R.Pairwise fun x y => x.var < y.var) (h : ∀ x ∈ R, x ∈ K) : R.length ≤ K.length := by
  induction R generalizing K with
  | nil => simp
  | cons x r ih =>
    obtain ⟨h1, h2⟩ := List.pairwise_cons.1 hR
    have hx := h x (by simp)
    have := ih (K := K.erase x) h2 fun y hy => by
      have hne : y ≠ x := fun e => by have := h1 y hy; rw [e] at this; omega
      exact (List.mem_erase_of_ne hne).2 (h y (by simp [hy]))
    rw [List.length_erase_of_mem hx] at this
    have h0 : 0 < K.length := List.length_pos_of_mem hx
    simp only [List.length_cons]; omega
/-- How large it becomes. -/
theorem comp_size {a b R : List Bd} (hR : CompOf a b R) {M N : Nat} (hM : 1 ≤ M) (hb : ∀ x ∈ b, x.t.size ≤ M) (ha : ∀ x ∈ a, x.t.size ≤ N) (hN : 1 ≤ N) : R.length ≤ a.length + b.length ∧ ∀ x ∈ R, x.t.size ≤ N * M := by
  refine ⟨?_, fun x hx => ?_⟩
  · have h1 := nodup_len hR.sorted fun x hx => ((hR.mem x).1 hx).1
    have h2 := len_cxr a b
    unfold cx at h1
    rw [List.length_append, List.length_map] at h1; omega
  · have h1 := ((hR.mem x).1 hx).1
    unfold cx cxr at h1
    rcases List.mem_append.1 h1 with h1 | h1
    · obtain ⟨y, hy, rfl⟩ := List.mem_map.1 h1
      exact Nat.le_trans (size_app hM hb y.t) (Nat.mul_le_mul_right _ (ha y hy))
    · have := hb x (List.mem_filter.1 h1).1
      have h3 : 1 * M ≤ N * M := Nat.mul_le_mul_right _ hN
      omega

end Go.Proofs.Ytgechlgdnnpoeaa
