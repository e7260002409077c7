/- The walk over the reference's call. -/
import Derived.Test.YtjakkmioofbcaaaDoorC3
namespace Go.Proofs.YtjakkmioofbcaaaDoor
open Go.RowKit
def rcallB (op : Int) (nm dt : List UInt8) : Bool := callOk op nm dt && decide (nm.length ≤ 65536) && decide (dt.length ≤ 65536)
set_option maxRecDepth 100000 in
set_option maxHeartbeats 4000000 in
theorem rcall27 (op : Int) (nm dt : List UInt8) (w : World) : Calls Tryd.prog 58 #[.agg #[.int .i64 op, .string (str nm), .string (str dt)]] w fun e w' => e = .returned (.bool (rcallB op nm dt)) ∧ Below w.heap.size w w' := by
  have HB0 : Hid (Below w.heap.size w (w.alloc (.cells #[.int .i64 op, .string (str nm), .string (str dt)] 41))) := Lib.hid ((Below.refl _ _).alloc (Nat.le_refl _) _)
  have HBX : Hid (∀ w', Below (w.heap.size + 1) (w.alloc (.cells #[.int .i64 op, .string (str nm), .string (str dt)] 41)) w' → w'.cell? ⟨w.heap.size, 0, none⟩ = some (.int .i64 op) ∧ w'.cell? ⟨w.heap.size, 1, none⟩ = some (.string (str nm)) ∧ w'.cell? ⟨w.heap.size, 2, none⟩ = some (.string (str dt))) := Lib.hid (fun w' hb => by
    have h := (hb.block w.heap.size (by omega)).trans (heap_alloc_new w (.cells #[.int .i64 op, .string (str nm), .string (str dt)] 41))
    exact ⟨cell_of_row w' _ 0 _ 41 _ h, cell_of_row w' _ 1 _ 41 _ h, cell_of_row w' _ 2 _ 41 _ h⟩)
  have HV : Hid (rcallB op nm dt = (callOk op nm dt && decide (nm.length ≤ 65536) && decide (dt.length ≤ 65536))) := Lib.hid rfl
  have hns : (str nm).size = nm.length := str_size nm
  have hds : (str dt).size = dt.length := str_size dt
  have HW := Lib.hid (rword14 op (w.alloc (.cells #[.int .i64 op, .string (str nm), .string (str dt)] 41)))
  rw [HV.out]
  clear HV
  by_cases hw : wordL op = []
  case pos =>
    rw [show callOk op nm dt = false by simp [callOk, hw]]
    have ew : (str (wordL op)).toList.isEmpty = true := by rw [hw, str_toList]; rfl
    clear hw
    go_enter Tryd.func58, Tryd.ntmps58
    go_wp2_with (first
      | (go_at_call 59; refine HW.out.mono ?_; rintro e w2 ⟨rfl, hb⟩; have HB2 : Hid (Below (w.heap.size + 1) (w.alloc (.cells #[.int .i64 op, .string (str nm), .string (str dt)] 41)) w2) := Lib.hid (hb.mono (by simp)); obtain ⟨b0, b1, b2⟩ := HBX.out w2 HB2.out; clear hb))
    go_ret
    exact ⟨by simp, HB0.out.trans (HB2.out.mono (by omega))⟩
  have ew := str_ne _ hw
  have HC : Hid (callOk op nm dt = ((decide (op = 1 ∨ op = 5 ∨ op = 6) || decide (nm = [])) && (decide (op = 2) || decide (dt = [])))) := Lib.hid (by simp [callOk, hw])
  rw [HC.out]
  clear HC hw
  by_cases hn0 : op = 1 ∨ op = 5 ∨ op = 6
  case pos =>
    have hn : decide (op = 1 ∨ op = 5 ∨ op = 6) = true := by simpa using hn0
    have HN : Hid (∀ w, Calls Tryd.prog 60 #[.int .i64 op] w fun e w' => e = .returned (.bool true) ∧ w' = w) := Lib.hid (fun w => by rw [← hn]; exact rnamed39 op w)
    have ho : (op == 2) = false := by simp only [beq_eq_false_iff_ne]; omega
    have ho2 : decide (op = 2) = false := by simp only [decide_eq_false_iff_not]; omega
    rw [hn, ho2]
    simp only [Bool.true_or, Bool.true_and, Bool.false_or]
    clear hn hn0 ho2
    by_cases hd : dt = []
    case neg =>
      have ed := str_ne _ hd
      rw [show decide (dt = []) = false by simpa using hd]
      clear hd
      go_enter Tryd.func58, Tryd.ntmps58
      go_wp2_with (first
        | (go_at_call 59; refine HW.out.mono ?_; rintro e w2 ⟨rfl, hb⟩; have HB2 : Hid (Below (w.heap.size + 1) (w.alloc (.cells #[.int .i64 op, .string (str nm), .string (str dt)] 41)) w2) := Lib.hid (hb.mono (by simp)); obtain ⟨b0, b1, b2⟩ := HBX.out w2 HB2.out; clear hb)
        | (go_at_call 60; refine (HN.out _).mono ?_; rintro e w3 ⟨rfl, rfl⟩))
      go_ret
      exact ⟨by simp, HB0.out.trans (HB2.out.mono (by omega))⟩
    have ed : (str dt).toList.isEmpty = true := by rw [hd, str_toList]; rfl
    rw [show decide (dt = []) = true by simpa using hd]
    simp only [Bool.true_and]
    clear hd
    by_cases l1 : nm.length ≤ 65536
    case neg =>
      rw [show decide (nm.length ≤ 65536) = false by simpa using l1]
      have m1 : decide ((nm.length : Int) ≤ (65536 : Int)) = false := by simp; omega
      clear l1
      go_enter Tryd.func58, Tryd.ntmps58
      go_wp2_with (first
        | (go_at_call 59; refine HW.out.mono ?_; rintro e w2 ⟨rfl, hb⟩; have HB2 : Hid (Below (w.heap.size + 1) (w.alloc (.cells #[.int .i64 op, .string (str nm), .string (str dt)] 41)) w2) := Lib.hid (hb.mono (by simp)); obtain ⟨b0, b1, b2⟩ := HBX.out w2 HB2.out; clear hb)
        | (go_at_call 60; refine (HN.out _).mono ?_; rintro e w3 ⟨rfl, rfl⟩))
      go_ret
      exact ⟨by simp, HB0.out.trans (HB2.out.mono (by omega))⟩
    rw [show decide (nm.length ≤ 65536) = true by simpa using l1]
    have ml1 : decide ((nm.length : Int) ≤ (65536 : Int)) = true := by simp; omega
    clear l1
    by_cases l2 : dt.length ≤ 65536
    case neg =>
      rw [show decide (dt.length ≤ 65536) = false by simpa using l2]
      have m1 : decide ((dt.length : Int) ≤ (65536 : Int)) = false := by simp; omega
      clear l2
      go_enter Tryd.func58, Tryd.ntmps58
      go_wp2_with (first
        | (go_at_call 59; refine HW.out.mono ?_; rintro e w2 ⟨rfl, hb⟩; have HB2 : Hid (Below (w.heap.size + 1) (w.alloc (.cells #[.int .i64 op, .string (str nm), .string (str dt)] 41)) w2) := Lib.hid (hb.mono (by simp)); obtain ⟨b0, b1, b2⟩ := HBX.out w2 HB2.out; clear hb)
        | (go_at_call 60; refine (HN.out _).mono ?_; rintro e w3 ⟨rfl, rfl⟩))
      go_ret
      exact ⟨by simp, HB0.out.trans (HB2.out.mono (by omega))⟩
    rw [show decide (dt.length ≤ 65536) = true by simpa using l2]
    have ml2 : decide ((dt.length : Int) ≤ (65536 : Int)) = true := by simp; omega
    clear l2
    go_enter Tryd.func58, Tryd.ntmps58
    go_wp2_with (first
      | (go_at_call 59; refine HW.out.mono ?_; rintro e w2 ⟨rfl, hb⟩; have HB2 : Hid (Below (w.heap.size + 1) (w.alloc (.cells #[.int .i64 op, .string (str nm), .string (str dt)] 41)) w2) := Lib.hid (hb.mono (by simp)); obtain ⟨b0, b1, b2⟩ := HBX.out w2 HB2.out; clear hb)
      | (go_at_call 60; refine (HN.out _).mono ?_; rintro e w3 ⟨rfl, rfl⟩))
    go_ret
    exact ⟨by simp, HB0.out.trans (HB2.out.mono (by omega))⟩
  have hn : decide (op = 1 ∨ op = 5 ∨ op = 6) = false := by simpa using hn0
  have HN : Hid (∀ w, Calls Tryd.prog 60 #[.int .i64 op] w fun e w' => e = .returned (.bool false) ∧ w' = w) := Lib.hid (fun w => by rw [← hn]; exact rnamed39 op w)
  rw [hn]
  simp only [Bool.false_or]
  clear hn hn0
  by_cases hm : nm = []
  case neg =>
    have em := str_ne _ hm
    rw [show decide (nm = []) = false by simpa using hm]
    clear hm
    go_enter Tryd.func58, Tryd.ntmps58
    go_wp2_with (first
      | (go_at_call 59; refine HW.out.mono ?_; rintro e w2 ⟨rfl, hb⟩; have HB2 : Hid (Below (w.heap.size + 1) (w.alloc (.cells #[.int .i64 op, .string (str nm), .string (str dt)] 41)) w2) := Lib.hid (hb.mono (by simp)); obtain ⟨b0, b1, b2⟩ := HBX.out w2 HB2.out; clear hb)
      | (go_at_call 60; refine (HN.out _).mono ?_; rintro e w3 ⟨rfl, rfl⟩))
    go_ret
    exact ⟨by simp, HB0.out.trans (HB2.out.mono (by omega))⟩
  have em : (str nm).toList.isEmpty = true := by rw [hm, str_toList]; rfl
  rw [show decide (nm = []) = true by simpa using hm]
  simp only [Bool.true_and]
  clear hm
  by_cases ho2 : op = 2
  case pos =>
    have ho : (op == 2) = true := by simp [ho2]
    rw [show decide (op = 2) = true by simpa using ho2]
    simp only [Bool.true_or, Bool.true_and]
    clear ho2
    by_cases l1 : nm.length ≤ 65536
    case neg =>
      rw [show decide (nm.length ≤ 65536) = false by simpa using l1]
      have m1 : decide ((nm.length : Int) ≤ (65536 : Int)) = false := by simp; omega
      clear l1
      go_enter Tryd.func58, Tryd.ntmps58
      go_wp2_with (first
        | (go_at_call 59; refine HW.out.mono ?_; rintro e w2 ⟨rfl, hb⟩; have HB2 : Hid (Below (w.heap.size + 1) (w.alloc (.cells #[.int .i64 op, .string (str nm), .string (str dt)] 41)) w2) := Lib.hid (hb.mono (by simp)); obtain ⟨b0, b1, b2⟩ := HBX.out w2 HB2.out; clear hb)
        | (go_at_call 60; refine (HN.out _).mono ?_; rintro e w3 ⟨rfl, rfl⟩))
      go_ret
      exact ⟨by simp, HB0.out.trans (HB2.out.mono (by omega))⟩
    rw [show decide (nm.length ≤ 65536) = true by simpa using l1]
    have ml1 : decide ((nm.length : Int) ≤ (65536 : Int)) = true := by simp; omega
    clear l1
    by_cases l2 : dt.length ≤ 65536
    case neg =>
      rw [show decide (dt.length ≤ 65536) = false by simpa using l2]
      have m1 : decide ((dt.length : Int) ≤ (65536 : Int)) = false := by simp; omega
      clear l2
      go_enter Tryd.func58, Tryd.ntmps58
      go_wp2_with (first
        | (go_at_call 59; refine HW.out.mono ?_; rintro e w2 ⟨rfl, hb⟩; have HB2 : Hid (Below (w.heap.size + 1) (w.alloc (.cells #[.int .i64 op, .string (str nm), .string (str dt)] 41)) w2) := Lib.hid (hb.mono (by simp)); obtain ⟨b0, b1, b2⟩ := HBX.out w2 HB2.out; clear hb)
        | (go_at_call 60; refine (HN.out _).mono ?_; rintro e w3 ⟨rfl, rfl⟩))
      go_ret
      exact ⟨by simp, HB0.out.trans (HB2.out.mono (by omega))⟩
    rw [show decide (dt.length ≤ 65536) = true by simpa using l2]
    have ml2 : decide ((dt.length : Int) ≤ (65536 : Int)) = true := by simp; omega
    clear l2
    go_enter Tryd.func58, Tryd.ntmps58
    go_wp2_with (first
      | (go_at_call 59; refine HW.out.mono ?_; rintro e w2 ⟨rfl, hb⟩; have HB2 : Hid (Below (w.heap.size + 1) (w.alloc (.cells #[.int .i64 op, .string (str nm), .string (str dt)] 41)) w2) := Lib.hid (hb.mono (by simp)); obtain ⟨b0, b1, b2⟩ := HBX.out w2 HB2.out; clear hb)
      | (go_at_call 60; refine (HN.out _).mono ?_; rintro e w3 ⟨rfl, rfl⟩))
    go_ret
    exact ⟨by simp, HB0.out.trans (HB2.out.mono (by omega))⟩
  have ho : (op == 2) = false := by simpa using ho2
  rw [show decide (op = 2) = false by simpa using ho2]
  simp only [Bool.false_or]
  clear ho2
  by_cases hd : dt = []
  case neg =>
    have ed := str_ne _ hd
    rw [show decide (dt = []) = false by simpa using hd]
    clear hd
    go_enter Tryd.func58, Tryd.ntmps58
    go_wp2_with (first
      | (go_at_call 59; refine HW.out.mono ?_; rintro e w2 ⟨rfl, hb⟩; have HB2 : Hid (Below (w.heap.size + 1) (w.alloc (.cells #[.int .i64 op, .string (str nm), .string (str dt)] 41)) w2) := Lib.hid (hb.mono (by simp)); obtain ⟨b0, b1, b2⟩ := HBX.out w2 HB2.out; clear hb)
      | (go_at_call 60; refine (HN.out _).mono ?_; rintro e w3 ⟨rfl, rfl⟩))
    go_ret
    exact ⟨by simp, HB0.out.trans (HB2.out.mono (by omega))⟩
  have ed : (str dt).toList.isEmpty = true := by rw [hd, str_toList]; rfl
  rw [show decide (dt = []) = true by simpa using hd]
  simp only [Bool.true_and]
  clear hd
  by_cases l1 : nm.length ≤ 65536
  case neg =>
    rw [show decide (nm.length ≤ 65536) = false by simpa using l1]
    have m1 : decide ((nm.length : Int) ≤ (65536 : Int)) = false := by simp; omega
    clear l1
    go_enter Tryd.func58, Tryd.ntmps58
    go_wp2_with (first
      | (go_at_call 59; refine HW.out.mono ?_; rintro e w2 ⟨rfl, hb⟩; have HB2 : Hid (Below (w.heap.size + 1) (w.alloc (.cells #[.int .i64 op, .string (str nm), .string (str dt)] 41)) w2) := Lib.hid (hb.mono (by simp)); obtain ⟨b0, b1, b2⟩ := HBX.out w2 HB2.out; clear hb)
      | (go_at_call 60; refine (HN.out _).mono ?_; rintro e w3 ⟨rfl, rfl⟩))
    go_ret
    exact ⟨by simp, HB0.out.trans (HB2.out.mono (by omega))⟩
  rw [show decide (nm.length ≤ 65536) = true by simpa using l1]
  have ml1 : decide ((nm.length : Int) ≤ (65536 : Int)) = true := by simp; omega
  clear l1
  by_cases l2 : dt.length ≤ 65536
  case neg =>
    rw [show decide (dt.length ≤ 65536) = false by simpa using l2]
    have m1 : decide ((dt.length : Int) ≤ (65536 : Int)) = false := by simp; omega
    clear l2
    go_enter Tryd.func58, Tryd.ntmps58
    go_wp2_with (first
      | (go_at_call 59; refine HW.out.mono ?_; rintro e w2 ⟨rfl, hb⟩; have HB2 : Hid (Below (w.heap.size + 1) (w.alloc (.cells #[.int .i64 op, .string (str nm), .string (str dt)] 41)) w2) := Lib.hid (hb.mono (by simp)); obtain ⟨b0, b1, b2⟩ := HBX.out w2 HB2.out; clear hb)
      | (go_at_call 60; refine (HN.out _).mono ?_; rintro e w3 ⟨rfl, rfl⟩))
    go_ret
    exact ⟨by simp, HB0.out.trans (HB2.out.mono (by omega))⟩
  rw [show decide (dt.length ≤ 65536) = true by simpa using l2]
  have ml2 : decide ((dt.length : Int) ≤ (65536 : Int)) = true := by simp; omega
  clear l2
  go_enter Tryd.func58, Tryd.ntmps58
  go_wp2_with (first
    | (go_at_call 59; refine HW.out.mono ?_; rintro e w2 ⟨rfl, hb⟩; have HB2 : Hid (Below (w.heap.size + 1) (w.alloc (.cells #[.int .i64 op, .string (str nm), .string (str dt)] 41)) w2) := Lib.hid (hb.mono (by simp)); obtain ⟨b0, b1, b2⟩ := HBX.out w2 HB2.out; clear hb)
    | (go_at_call 60; refine (HN.out _).mono ?_; rintro e w3 ⟨rfl, rfl⟩))
  go_ret
  exact ⟨by simp, HB0.out.trans (HB2.out.mono (by omega))⟩
end Go.Proofs.YtjakkmioofbcaaaDoor
