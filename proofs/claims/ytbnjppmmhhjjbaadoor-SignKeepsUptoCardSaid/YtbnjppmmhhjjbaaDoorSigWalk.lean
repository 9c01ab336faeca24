/- The walks through the document's check of a signature. -/
import Derived.Test.YtbnjppmmhhjjbaaDoorSig
import Derived.Test.YtbnjppmmhhjjbaaDoorBlk
namespace Go.Proofs.YtbnjppmmhhjjbaaDoor
open Go.RowKit Go.Sort Go

theorem truth_any (w : World) : Calls Tryd.prog 31 #[] w fun e w' => e = .returned (.agg #[.string truth.name, .int .i64 truth.ar, .bool truth.pred]) ∧ Below w.heap.size w w' := by
  go_enter Tryd.func31, Tryd.ntmps31
  go_wp2_with fail
  refine bodyPost_ret (v := .agg #[.string truth.name, .int .i64 truth.ar, .bool truth.pred]) (by simp [results, Tryd.results31, go_sem, truth]) rfl ?_
  exact ⟨rfl, balloc _ _⟩

set_option maxHeartbeats 4000000 in
theorem named_any (s : ByteArray) (w : World) (hs : s.size ≤ maxLen) : Calls Tryd.prog 21 #[.string s] w fun e w' => e = .returned (.bool (named s)) ∧ Below w.heap.size w w' := by
  unfold maxLen at hs
  by_cases h1 : s.size < 1
  · have HV := Lib.hid (show named s = false by unfold named; simp; omega)
    go_enter Tryd.func21, Tryd.ntmps21
    go_wp2_with fail
    go_ret
    exact ⟨rbool HV.out, Below.refl _ _⟩
  by_cases h2 : 40 < s.size
  · have HV := Lib.hid (show named s = false by unfold named; simp; omega)
    go_enter Tryd.func21, Tryd.ntmps21
    go_wp2_with fail
    go_ret
    exact ⟨rbool HV.out, Below.refl _ _⟩
  have HV := Lib.hid (show named s = s.data.toList.all byteOk by
    unfold named
    rw [decide_eq_true (by omega), Bool.true_and])
  go_enter Tryd.func21, Tryd.ntmps21
  go_wp2_with fail
  go_loopw [3, 4] (fun i _ wr => ∃ (k : Nat), k ≤ s.size ∧ i = .int .i64 k ∧ Hid ((s.data.toList.take k).all byteOk = true) ∧ Hid (Below w.heap.size w wr)) (fun i _ _ => s.size - (intOf i).toNat)
  case atStart => exact ⟨0, Nat.zero_le _, rfl, rfl, Below.refl _ _⟩
  case round =>
    obtain ⟨k, hk, rfl, hall, hw⟩ := hrel
    by_cases hlt : k < s.size
    · have hd : k < s.data.toList.length := by simpa using hlt
      have hg : s.data.toList[k] = s[k] := by simp [ByteArray.getElem_eq_getElem_data]
      have htk : (s.data.toList.take (k + 1)).all byteOk = byteOk s[k] := by
        rw [List.take_succ_eq_append_getElem hd, List.all_append, hall.out, hg]; simp
      have hP : byteOk s[k] = true ↔ (97 ≤ (s[k].toNat : Int) ∧ (s[k].toNat : Int) ≤ 122) ∨ (65 ≤ (s[k].toNat : Int) ∧ (s[k].toNat : Int) ≤ 90) ∨ (48 ≤ (s[k].toNat : Int) ∧ (s[k].toNat : Int) ≤ 57) ∨ (s[k].toNat : Int) = 95 := by
        unfold byteOk
        simp only [Bool.or_eq_true, Bool.and_eq_true, decide_eq_true_eq, beq_iff_eq, UInt8.le_iff_toNat_le, ← UInt8.toNat_inj]
        simp
        omega
      cases hb : byteOk s[k] with
      | true =>
        rw [hb] at htk
        have hP := Lib.hid (hP.1 hb)
        have htk := Lib.hid htk
        clear hb hall
        go_wp2_with fail
        all_goals first
          | (exfalso; have hq := hP.out; (try simp only [Bool.not_eq_true', decide_eq_false_iff_not, beq_eq_false_iff_ne, ne_eq] at *); omega)
          | (go_roundw
             case rel => exact ⟨k + 1, by omega, by go_num, htk.out, hw.out⟩
             case measure => simp [intOf]; omega)
      | false =>
        have HN := Lib.hid (show named s = false by
          rw [HV.out]
          refine List.all_eq_false.2 ⟨s[k], ?_, by rw [hb]; simp⟩
          rw [← hg]; exact List.getElem_mem hd)
        have hP := Lib.hid (mt hP.2 (by rw [hb]; simp))
        clear hb hall htk
        go_wp2_with fail
        all_goals first
          | (exfalso; have hq := hP.out; (try simp only [Bool.not_eq_true', Bool.not_eq_false', decide_eq_false_iff_not, decide_eq_true_eq, beq_eq_false_iff_ne, beq_iff_eq, ne_eq] at *); omega)
          | (go_ret
             exact ⟨rbool HN.out, hw.out⟩)
    · obtain rfl : k = s.size := by omega
      have HN := Lib.hid (show named s = true by
        rw [HV.out]
        have := hall.out
        rwa [List.take_of_length_le (by simp)] at this)
      go_wp2_with fail
      go_ret
      exact ⟨rbool HN.out, hw.out⟩

end Go.Proofs.YtbnjppmmhhjjbaaDoor
