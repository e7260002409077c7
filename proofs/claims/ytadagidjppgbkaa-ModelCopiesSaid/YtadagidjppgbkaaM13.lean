/- The walks over the reference's Same, over the replies' Alike, and over the model's Same, whatever they hold. -/
import Derived.Test.YtadagidjppgbkaaM12
import Derived.Laws.StructEq
namespace Go.Proofs.Ytadagidjppgbkaa
open Go.RowKit Go.Maps Go.Sort
theorem stood49 : Try.prog.stoodInHeld 49 = false := by kernel_rfl
theorem guard49 : Try.prog.eqGuardType Try.prog.depth 49 = false := by kernel_rfl
theorem neq49 (a b c d : ByteArray) (W : World) : (binOp .neq 49 (.agg #[.string a, .string b]) (.agg #[.string c, .string d])).run Try.prog W = .ok (.bool (!(a.toList == c.toList && b.toList == d.toList))) W := by
  have hs := stood49
  rw [run_neq_struct, run_equalIn_struct W 9999 49 _ _ (by kernel_rfl) hs]
  have hf : (Try.prog.fieldsOf 49).toList = [{ name := "Name", type := 9, offset := 0, embedded := false, tag := "", pkgPath := "", byteOffset := 0 }, { name := "Data", type := 9, offset := 1, embedded := false, tag := "", pkgPath := "", byteOffset := 16 }] := by kernel_rfl
  rw [hf]
  have p0 : ∀ (x y : ByteArray) (W : World), (part 9 #[.string x, .string y] 0).run Try.prog W = .ok (.string x) W := fun _ _ _ => by kernel_rfl
  have p1 : ∀ (x y : ByteArray) (W : World), (part 9 #[.string x, .string y] 1).run Try.prog W = .ok (.string y) W := fun _ _ _ => by kernel_rfl
  have q : ∀ (x y : ByteArray) (W : World), (Op.equalIn 9999 9 (.string x) (.string y)).run Try.prog W = .ok (x.toList == y.toList) W := fun x y W => run_equalIn_string W 9998 9 x y Try.underlying9
  simp only [Op.eqFields, Sem.run_bind, p0, p1, q, Result.andThen_ok, Sem.run_ite, Sem.run_pure]
  cases a.toList == c.toList <;> cases b.toList == d.toList <;> simp
theorem ne_pair {x y : Named} (h : x ≠ y) : (!(x.1.toList == y.1.toList && x.2.toList == y.2.toList)) = true := by
  by_cases h1 : x.1 = y.1
  · have h2 : x.2 ≠ y.2 := fun e => h (Prod.ext h1 e)
    rw [ne_list h2]; simp
  · rw [ne_list h1]; simp
set_option maxRecDepth 100000 in
set_option maxHeartbeats 2000000 in
theorem same25 {w : World} {g1 b1 g2 b2 : Nat} {A1 A2 : Option Addr} {c1 c2 : Nat} (r1 r2 : Rm) (h1 : Nms w g1 b1 A1 r1.L.length r1.L) (h2 : Nms w g2 b2 A2 r2.L.length r2.L) (hn1 : r1.L.length ≤ 1000000) (hn2 : r2.L.length ≤ 1000000) :
    Calls Try.prog 25 #[.agg (rmA A1 c1 r1), .agg (rmA A2 c2 r2)] w fun e w' => e = .returned (.bool (decide (r1.L = r2.L))) ∧ Below w.heap.size w w' := by
  have H1 := Lib.hid h1
  have H2 := Lib.hid h2
  clear h1 h2
  obtain ⟨L1, op1, rn1, rb1⟩ := r1
  obtain ⟨L2, op2, rn2, rb2⟩ := r2
  simp only [rmA] at *
  generalize hN : L1.length = N at *
  generalize hM : L2.length = M at *
  have HN := Lib.hid hN
  have HM := Lib.hid hM
  clear hN hM
  have HB0 : Hid (Below w.heap.size w ((w.alloc (.cells #[.slice A1 N c1, .bool op1, .string rn1, .string rb1] 27)).alloc (.cells #[.slice A2 M c2, .bool op2, .string rn2, .string rb2] 27))) := ((Below.refl _ _).alloc (Nat.le_refl _) _).alloc (by simp) _
  have HBX : Hid (∀ W, Below (w.heap.size + 1 + 1) ((w.alloc (.cells #[.slice A1 N c1, .bool op1, .string rn1, .string rb1] 27)).alloc (.cells #[.slice A2 M c2, .bool op2, .string rn2, .string rb2] 27)) W → W.cell? ⟨w.heap.size, 0, none⟩ = some (.slice A1 N c1) ∧ W.cell? ⟨w.heap.size + 1, 0, none⟩ = some (.slice A2 M c2) ∧ Below w.heap.size w W) := fun W hb => by
    have k1 := (hb.block w.heap.size (by omega)).trans ((Below.heap_alloc _ _ _ (by simp)).trans (heap_alloc_new w (.cells #[.slice A1 N c1, .bool op1, .string rn1, .string rb1] 27)))
    have k2 := heap_alloc_new (w.alloc (.cells #[.slice A1 N c1, .bool op1, .string rn1, .string rb1] 27)) (.cells #[.slice A2 M c2, .bool op2, .string rn2, .string rb2] 27)
    rw [World.size_alloc] at k2
    have k3 := (hb.block (w.heap.size + 1) (by omega)).trans k2
    exact ⟨cell_of_row W _ 0 _ 27 (0, 0) k1, cell_of_row W _ 0 _ 27 (0, 0) k3, HB0.out.trans (hb.mono (by omega))⟩
  by_cases hnm : N = M
  · subst hnm
    have hnn : (((N : Nat) : Int) != (N : Int)) = false := by simp
    have hq := neq49
    have hg := guard49
    go_enter Try.func25, Try.ntmps25
    go_wp2_with fail
    go_loopg [5] N (fun gk i wr => ∃ k : Nat, k ≤ N ∧ gk = N - k ∧ i = .int .i64 k ∧ Below (w.heap.size + 1 + 1) ((w.alloc (.cells #[.slice A1 N c1, .bool op1, .string rn1, .string rb1] 27)).alloc (.cells #[.slice A2 N c2, .bool op2, .string rn2, .string rb2] 27)) wr ∧ L1.take k = L2.take k)
    case atStart => exact ⟨0, Nat.zero_le _, rfl, rfl, Below.refl _ _, by simp⟩
    case round =>
      obtain ⟨k, hk, hgk, rfl, hbw, htk⟩ := hrel
      have HK := Lib.hid hgk
      have HBW := Lib.hid hbw
      have HTK := Lib.hid htk
      obtain ⟨d1, d2, hb0⟩ := HBX.out wr hbw
      have HB1 := Lib.hid hb0
      clear hgk htk hbw hb0
      by_cases hlt : k < N
      · obtain ⟨x, hx⟩ : ∃ x, L1[k]? = some x := ⟨L1[k]'(by rw [HN.out]; exact hlt), by simp⟩
        obtain ⟨y, hy⟩ : ∃ y, L2[k]? = some y := ⟨L2[k]'(by rw [HM.out]; exact hlt), by simp⟩
        obtain ⟨q1, o1, rfl, _, _, _, hc1⟩ := (H1.out.below HB1.out).2.2 (by omega)
        obtain ⟨q2, o2, rfl, _, _, _, hc2⟩ := (H2.out.below HB1.out).2.2 (by omega)
        obtain ⟨u1, u2⟩ := hc1 k x hx
        obtain ⟨v1, v2⟩ := hc2 k y hy
        have HX := Lib.hid hx
        have HY := Lib.hid hy
        have hk0 : (0 : Int) ≤ (k : Int) := by omega
        have hk1 : (k : Int) < (N : Int) := by omega
        clear hc1 hc2 hx hy
        by_cases hxy : x = y
        · have HTK2 : Hid (L1.take (k + 1) = L2.take (k + 1)) := by
            show _ = _
            rw [List.take_add_one, List.take_add_one, HTK.out, HX.out, HY.out, hxy]
          subst hxy
          go_wp2
          go_quiet (fail)
          go_wp2
          go_roundg (N - (k + 1))
          case measure => rw [HK.out]; omega
          case rel => exact ⟨k + 1, by omega, rfl, by go_num, below_drewN HBW.out _, HTK2.out⟩
        · have hne : decide (L1 = L2) = false := by
            simp only [decide_eq_false_iff_not]
            intro e
            have h := HX.out
            rw [e, HY.out] at h
            injection h with h
            exact hxy h.symm
          have HNE := Lib.hid hne
          have hb := ne_pair hxy
          clear hxy hne
          go_wp2
          go_quiet (fail)
          go_wp2
          go_ret
          exact ⟨by rw [HNE.out]; rfl, below_drewN HB1.out _⟩
      · have he : decide (L1 = L2) = true := by
          have := HTK.out
          rw [List.take_of_length_le (by rw [HN.out]; omega), List.take_of_length_le (by rw [HM.out]; omega)] at this
          simpa using this
        have HE := Lib.hid he
        clear he
        go_wp2
        go_ret
        exact ⟨by rw [HE.out]; rfl, HB1.out⟩
  · have hnn : (((N : Nat) : Int) != (M : Int)) = true := by simp only [bne_iff_ne, ne_eq]; omega
    have hne : decide (L1 = L2) = false := by
      simp only [decide_eq_false_iff_not]
      intro e
      exact hnm (by rw [← HN.out, e, HM.out])
    have HNE := Lib.hid hne
    clear hnm hne
    go_enter Try.func25, Try.ntmps25
    go_wp2
    go_ret
    exact ⟨by rw [HNE.out]; rfl, HB0.out⟩
set_option maxHeartbeats 1000000 in
theorem alk23 {w : World} {A B : Option Addr} {n m c d : Nat} {xs ys : List ByteArray} (e1 e2 : Int) (d1 d2 : ByteArray) (h1 : Rd w A n xs) (h2 : Rd w B m ys) (hn : n ≤ 9223372036854775807) (hm : m ≤ 9223372036854775807) :
    Calls Try.prog 23 #[.agg #[.int .i64 e1, .string d1, .slice A n c], .agg #[.int .i64 e2, .string d2, .slice B m d]] w fun e w' => e = .returned (.bool (decide (e1 = e2 ∧ d1 = d2 ∧ xs = ys))) ∧ Below w.heap.size w w' := by
  have HB0 : Hid (Below w.heap.size w ((w.alloc (.cells #[.int .i64 e1, .string d1, .slice A n c] 39)).alloc (.cells #[.int .i64 e2, .string d2, .slice B m d] 39))) := ((Below.refl _ _).alloc (Nat.le_refl _) _).alloc (by simp) _
  have hS : Hid (Calls Try.prog 37 #[.slice A n c, .slice B m d] ((w.alloc (.cells #[.int .i64 e1, .string d1, .slice A n c] 39)).alloc (.cells #[.int .i64 e2, .string d2, .slice B m d] 39)) fun e w' => e = .returned (.bool (decide (xs = ys))) ∧ Below w.heap.size w w') :=
    (eq37 (h1.below HB0.out) (h2.below HB0.out) hn hm).mono fun e w' ⟨he, hb⟩ => ⟨he, HB0.out.trans (hb.mono HB0.out.size)⟩
  clear h1 h2
  by_cases he : e1 = e2
  · subst he
    by_cases hd : d1 = d2
    · subst hd
      have hr : decide (e1 = e1 ∧ d1 = d1 ∧ xs = ys) = decide (xs = ys) := by simp
      rw [hr]
      generalize decide (xs = ys) = Q at *
      clear hr
      have t1 : (e1 == e1) = true := by simp
      go_enter Try.func23, Try.ntmps23
      go_wp2_with fail
      refine Calls.mono hS.out ?_
      rintro e w' ⟨rfl, hb⟩
      go_wp2
      go_ret
      exact ⟨rfl, hb⟩
    · have hr : decide (e1 = e1 ∧ d1 = d2 ∧ xs = ys) = false := by simp [hd]
      rw [hr]
      have hne := ne_list hd
      have t1 : (e1 == e1) = true := by simp
      clear hr hd
      go_enter Try.func23, Try.ntmps23
      go_wp2
      go_ret
      exact ⟨rfl, HB0.out⟩
  · have hr : decide (e1 = e2 ∧ d1 = d2 ∧ xs = ys) = false := by simp [he]
    rw [hr]
    have t1 : (e1 == e2) = false := by simpa using he
    clear hr he
    go_enter Try.func23, Try.ntmps23
    go_wp2
    go_ret
    exact ⟨rfl, HB0.out⟩
set_option maxHeartbeats 1000000 in
theorem alk13 {w : World} {A B : Option Addr} {n m c d : Nat} {xs ys : List ByteArray} (e1 e2 : Int) (d1 d2 : ByteArray) (h1 : Rd w A n xs) (h2 : Rd w B m ys) (hn : n ≤ 9223372036854775807) (hm : m ≤ 9223372036854775807) :
    Calls Try.prog 13 #[.agg #[.int .i64 e1, .string d1, .slice A n c], .agg #[.int .i64 e2, .string d2, .slice B m d]] w fun e w' => e = .returned (.bool (decide (e1 = e2 ∧ d1 = d2 ∧ xs = ys))) ∧ Below w.heap.size w w' := by
  have HB0 : Hid (Below w.heap.size w ((w.alloc (.cells #[.int .i64 e1, .string d1, .slice A n c] 39)).alloc (.cells #[.int .i64 e2, .string d2, .slice B m d] 39))) := ((Below.refl _ _).alloc (Nat.le_refl _) _).alloc (by simp) _
  have hS : Hid (Calls Try.prog 30 #[.slice A n c, .slice B m d] ((w.alloc (.cells #[.int .i64 e1, .string d1, .slice A n c] 39)).alloc (.cells #[.int .i64 e2, .string d2, .slice B m d] 39)) fun e w' => e = .returned (.bool (decide (xs = ys))) ∧ Below w.heap.size w w') :=
    (eq30 (h1.below HB0.out) (h2.below HB0.out) hn hm).mono fun e w' ⟨he, hb⟩ => ⟨he, HB0.out.trans (hb.mono HB0.out.size)⟩
  clear h1 h2
  by_cases he : e1 = e2
  · subst he
    by_cases hd : d1 = d2
    · subst hd
      have hr : decide (e1 = e1 ∧ d1 = d1 ∧ xs = ys) = decide (xs = ys) := by simp
      rw [hr]
      generalize decide (xs = ys) = Q at *
      clear hr
      have t1 : (e1 == e1) = true := by simp
      go_enter Try.func13, Try.ntmps13
      go_wp2_with fail
      refine Calls.mono hS.out ?_
      rintro e w' ⟨rfl, hb⟩
      go_wp2
      go_ret
      exact ⟨rfl, hb⟩
    · have hr : decide (e1 = e1 ∧ d1 = d2 ∧ xs = ys) = false := by simp [hd]
      rw [hr]
      have hne := ne_list hd
      have t1 : (e1 == e1) = true := by simp
      clear hr hd
      go_enter Try.func13, Try.ntmps13
      go_wp2
      go_ret
      exact ⟨rfl, HB0.out⟩
  · have hr : decide (e1 = e2 ∧ d1 = d2 ∧ xs = ys) = false := by simp [he]
    rw [hr]
    have t1 : (e1 == e2) = false := by simpa using he
    clear hr he
    go_enter Try.func13, Try.ntmps13
    go_wp2
    go_ret
    exact ⟨rfl, HB0.out⟩
end Go.Proofs.Ytadagidjppgbkaa
