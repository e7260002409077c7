/- The walks over sum, for each function that is handed to it. -/
import Derived.Test.YtkfajeicbkeigaaDoorTF
namespace Go.Proofs.YtkfajeicbkeigaaDoor
open Go.RowKit Go.Maps
/-- the lengths of the first k places of which something is so -/
def sumT (L : List Ck) (g : Plc → Bool) (k : Nat) : Int := ((L.take k).map fun c => if g c.1 then c.2 else 0).sum
theorem sumT_step {L : List Ck} {g : Plc → Bool} {k : Nat} {c : Ck} (h : L[k]? = some c) : sumT L g (k + 1) = sumT L g k + (if g c.1 then c.2 else 0) := by
  unfold sumT
  rw [List.take_add_one, h, List.map_append, List.sum_append]
  simp
theorem sumT_span {L : List Ck} {g : Plc → Bool} (h : ∀ c ∈ L, 1 ≤ c.2 ∧ c.2 ≤ 4096) (k : Nat) (hk : k ≤ L.length) : 0 ≤ sumT L g k ∧ sumT L g k ≤ 4096 * k := by
  induction k with
  | zero => simp [sumT]
  | succ k ih =>
    obtain ⟨h1, h2⟩ := ih (by omega)
    have hc : L[k]? = some L[k] := by simp
    rw [sumT_step hc]
    have := h L[k] (List.getElem_mem _)
    split <;> omega
theorem lenF_get {P : List Pr} {k : Nat} {c : Ck} (h : (pl P)[k]? = some c) : lenF P c.1 = c.2 := by
  have hn := plSet_nodup P
  unfold lenF lenL
  unfold plSet at hn
  generalize pl P = L at *
  have : L.find? (fun x => decide (x.1 = c.1)) = some c := by
    clear P
    induction L generalizing k with
    | nil => simp at h
    | cons x r ih =>
      rw [List.map_cons, List.nodup_cons] at hn
      rw [List.find?_cons]
      cases k with
      | zero =>
        simp at h
        subst h
        simp
      | succ k =>
        simp at h
        have hm : c.1 ∈ r.map (·.1) := List.mem_map.2 ⟨c, List.mem_of_getElem? h, rfl⟩
        have hne : decide (x.1 = c.1) = false := by
          simp only [decide_eq_false_iff_not]
          intro e
          rw [e] at hn
          exact hn.1 hm
        rw [hne]
        exact ih h hn.2
  rw [this]
theorem pl_of {P : List Pr} : ∀ c ∈ pl P, ∃ x ∈ P, x.2 = c := by
  induction P using snoc_ind with
  | h0 => intro c hc; cases hc
  | h1 P x ih =>
    intro c hc
    rw [pl_snoc] at hc
    split at hc
    · obtain ⟨y, hy, e⟩ := ih c hc
      exact ⟨y, List.mem_append.2 (.inl hy), e⟩
    · rcases List.mem_append.1 hc with hc | hc
      · obtain ⟨y, hy, e⟩ := ih c hc
        exact ⟨y, List.mem_append.2 (.inl hy), e⟩
      · rw [List.mem_singleton] at hc
        exact ⟨x, by simp, hc.symm⟩
set_option maxRecDepth 100000 in
theorem Mem.lookS {B : Nat} {W : World} {t ms mb : Nat} {UA : Option Addr} {n c : Nat} {L : List Ck} {PA : Option Addr} {pc : Nat} {fs : Plc → Int} {fi : Plc → Option Nat} {nf : Plc → List Nm} {N : Nat} (h : Mem B W t ms mb UA n c L PA pc fs fi nf N) {p : Plc} (hp : PlcOk p) :
    (Instr.lookup 86 (.map (some ms)) (.agg #[.int .u32 p.1, .int .i64 p.2]) false).run Tryd.prog W = .ok (.int .i64 (fs p)) W := by
  obtain ⟨D, h1, h2⟩ := h.size
  obtain ⟨c, hrun, hat, _⟩ := h1.lookup_int law65 Tryd.underlying86 Tryd.underlying3 (Tryd.zeroValue3 W) (key65 hp)
  rw [h2.2 p hp] at hat
  injection hat with hat
  injection hat with _ hat
  subst hat
  exact hrun
set_option maxRecDepth 100000 in
set_option maxHeartbeats 8000000 in
theorem sum45_46 {B : Nat} {W : World} {t ms mb : Nat} {UA : Option Addr} {n c : Nat} {P : List Pr} {im : Plc → Option Nat} {PA : Option Addr} {pc : Nat} (h : Made B W t ms mb UA n c P im PA pc) (hok : ∀ c ∈ pl P, PlcOk c.1 ∧ 1 ≤ c.2 ∧ c.2 ≤ 4096) (hn : (pl P).length ≤ 120) (g : Plc → Bool)
    (hc : ∀ c ∈ pl P, ∀ a, im c.1 = some a → ∀ W', Below W.heap.size W W' → Calls Tryd.prog 46 #[.map (some a)] W' fun e w' => e = .returned (.bool (g c.1)) ∧ w' = W') :
    Calls Tryd.prog 45 #[.pointer (some ⟨t, 0, none⟩), .func (.func 46) #[] #[]] W fun e w' => e = .returned (.int .i64 (sumT (pl P) g (pl P).length)) ∧ Below W.heap.size W w' := by
  have HMD := Lib.hid h
  have HOK := Lib.hid hok
  have HC := Lib.hid hc
  have HSP : Hid (∀ k, k ≤ (pl P).length → 0 ≤ sumT (pl P) g k ∧ sumT (pl P) g k ≤ 4096 * k) := Lib.hid (fun k hk => sumT_span (fun c hc => (hok c hc).2) k hk)
  have HST : Hid (∀ (k : Nat) (c : Ck), (pl P)[k]? = some c → sumT (pl P) g (k + 1) = sumT (pl P) g k + (if g c.1 then c.2 else 0)) := Lib.hid (fun k c h => sumT_step h)
  have HLF : Hid (∀ (k : Nat) (c : Ck), (pl P)[k]? = some c → lenF P c.1 = c.2) := Lib.hid (fun k c h => lenF_get h)
  have HT0 : Hid (sumT (pl P) g 0 = 0) := Lib.hid rfl
  have ct3 : W.cell? ⟨t, 3, none⟩ = some (.slice PA (pl P).length pc) := cell_of_row W t 3 _ 90 (0, 0) h.1.tab
  have HROW : Hid (Row W PA ((pl P).flatMap plV)) := Lib.hid (row_own h.1.row)
  generalize hL : pl P = L at *
  generalize hS : sumT L g = S at *
  have HDOM : Hid (∀ (k : Nat) (c : Ck), L[k]? = some c → ∃ a, im c.1 = some a) := Lib.hid (fun k c hk => by
    rcases hi : im c.1 with _ | a
    · exfalso
      have := (h.2 c.1).1 hi
      unfold plSet at this
      rw [hL] at this
      exact this (List.mem_map.2 ⟨c, List.mem_of_getElem? hk, rfl⟩)
    · exact ⟨a, rfl⟩)
  clear h hok hc hL hS
  go_enter Tryd.func45, Tryd.ntmps45
  go_wp2_with fail
  clear ct3
  go_loopg [5, 13] L.length (fun gk r i wr => ∃ k : Nat, k ≤ L.length ∧ gk = L.length - k ∧ i = .int .i64 k ∧ r = .int .i64 (S k) ∧ Below W.heap.size W wr)
  case atStart => exact ⟨0, Nat.zero_le _, rfl, rfl, by rw [HT0.out], Below.refl _ _⟩
  case round =>
    obtain ⟨k, hk, hgk, rfl, rfl, hb⟩ := hrel
    have HK := Lib.hid hgk
    have HB := Lib.hid hb
    clear hgk hb
    by_cases hlt : k < L.length
    · obtain ⟨x, hx⟩ : ∃ x, L[k]? = some x := ⟨L[k]'hlt, by simp⟩
      obtain ⟨b, o, rfl, hbl, hr⟩ := (HROW.out.below HB.out) (fun e => by
        have := flat_len plV_len L
        rw [e] at this
        simp at this
        omega)
      have f0 := hr (k * 2 + 0) _ (flat_get plV_len L k 0 x (.int .u32 x.1.1) hx rfl)
      have f1 := hr (k * 2 + 1) _ (flat_get plV_len L k 1 x (.int .i64 x.1.2) hx rfl)
      rw [Nat.add_zero] at f0
      rw [← Nat.add_assoc] at f1
      obtain ⟨a, ha⟩ := HDOM.out k x hx
      have HXO := Lib.hid (HOK.out x (List.mem_of_getElem? hx))
      have HCX := Lib.hid (HC.out x (List.mem_of_getElem? hx) a ha)
      have HSX := Lib.hid (HST.out k x hx)
      have HLX := Lib.hid (HLF.out k x hx)
      have hsp := HSP.out k hk
      have hsp2 := HXO.out.2
      obtain ⟨⟨xb, xs⟩, xl⟩ := x
      simp only at *
      have hk0 : (0 : Int) ≤ (k : Int) := by omega
      have hk1 : (k : Int) < (L.length : Int) := by omega
      clear hr hx hbl
      have HB3 : Hid (Below wr.heap.size wr (wr.alloc (.cells #[.int .u32 xb, .int .i64 xs] 65))) := Lib.hid ((Below.refl _ _).alloc (Nat.le_refl _) _)
      have HBW3 : Hid (Below W.heap.size W (wr.alloc (.cells #[.int .u32 xb, .int .i64 xs] 65))) := Lib.hid (HB.out.alloc HB.out.size _)
      have hbc := heap_alloc_new wr (.cells #[.int .u32 xb, .int .i64 xs] 65)
      have cb0 : (wr.alloc (.cells #[.int .u32 xb, .int .i64 xs] 65)).cell? ⟨wr.heap.size, 0, none⟩ = some (.int .u32 xb) := cell_of_row _ _ 0 _ 65 (0, 0) hbc
      have cb1 : (wr.alloc (.cells #[.int .u32 xb, .int .i64 xs] 65)).cell? ⟨wr.heap.size, 1, none⟩ = some (.int .i64 xs) := cell_of_row _ _ 1 _ 65 (0, 0) hbc
      clear hbc
      go_wp2_with fail
      clear f0 f1
      generalize wr.heap.size = bc at *
      generalize wr.alloc (.cells #[.int .u32 xb, .int .i64 xs] 65) = W3 at *
      have HM3 := Lib.hid (HMD.out.grown HBW3.out)
      have ct2 : W3.cell? ⟨t, 2, none⟩ = some (.map (some mb)) := cell_of_row W3 t 2 _ 90 (0, 0) HM3.out.1.tab
      have hlb : ∀ nq, (Instr.lookup 87 (.map (some mb)) (.agg #[.int .u32 xb, .int .i64 xs]) false).run Tryd.prog (W3.drewN nq) = .ok (.map (some a)) (W3.drewN nq) := fun nq => by
        have := ((HM3.out.grown (below_drewN (Below.refl _ _) nq)).1.look (p := (xb, xs)) HXO.out.1)
        rw [ha] at this
        exact this
      have HCQ : Hid (∀ nq, Calls Tryd.prog 46 #[.map (some a)] (W3.drewN nq) fun e w' => e = .returned (.bool (g (xb, xs))) ∧ w' = W3.drewN nq) := Lib.hid (fun nq => HCX.out _ (below_drewN HBW3.out nq))
      have HSS : Hid (S (k + 1) = S k + if g (xb, xs) = true then xl else 0) := HSX
      clear ha
      cases hg : g (xb, xs)
      case false =>
        rw [hg] at HCQ
        have HE : Hid (S (k + 1) = S k) := Lib.hid (by rw [HSS.out, hg]; simp)
        clear hg
        go_quiet ((go_at_call 46; refine Calls.quiet_of_same (HCQ.out _)))
        go_wp2_with fail
        go_roundg (L.length - (k + 1))
        case measure => rw [HK.out]; omega
        case rel => exact ⟨k + 1, by omega, rfl, by go_num, by rw [HE.out], below_drewN HBW3.out _⟩
      case true =>
        rw [hg] at HCQ
        have HE : Hid (S (k + 1) = S k + xl) := Lib.hid (by rw [HSS.out, hg]; simp)
        clear hg
        go_quiet ((go_at_call 46; refine Calls.quiet_of_same (HCQ.out _)))
        clear hlb ct2
        obtain ⟨W4, hW4⟩ : ∃ W4, W4 = W3.drewN nq := ⟨_, rfl⟩
        have HB4 : Hid (Below W3.heap.size W3 W4) := Lib.hid (by subst hW4; exact (below_drewN (Below.refl _ _) nq))
        have HBW4 : Hid (Below W.heap.size W W4) := Lib.hid (by subst hW4; exact (below_drewN HBW3.out nq))
        have d0 : W4.cell? ⟨bc, 0, none⟩ = some (.int .u32 xb) := by subst hW4; exact cb0
        have d1 : W4.cell? ⟨bc, 1, none⟩ = some (.int .i64 xs) := by subst hW4; exact cb1
        rw [← hW4]
        clear hW4 cb0 cb1
        have HM4 := Lib.hid (HM3.out.grown HB4.out)
        have ct1 : W4.cell? ⟨t, 1, none⟩ = some (.map (some ms)) := cell_of_row W4 t 1 _ 90 (0, 0) HM4.out.1.tab
        have hls : ∀ nq, (Instr.lookup 86 (.map (some ms)) (.agg #[.int .u32 xb, .int .i64 xs]) false).run Tryd.prog (W4.drewN nq) = .ok (.int .i64 xl) (W4.drewN nq) := fun nq => by
          have := ((HM4.out.grown (below_drewN (Below.refl _ _) nq)).1.lookS (p := (xb, xs)) HXO.out.1)
          rw [HLX.out] at this
          exact this
        have e1 : IntKind.i64.wrap (S k + xl) = S k + xl := IntWalk.i64_in _ (by omega)
        go_wp2_with fail
        go_quiet (fail)
        clear e1
        go_wp2_with fail
        go_roundg (L.length - (k + 1))
        case measure => rw [HK.out]; omega
        case rel => exact ⟨k + 1, by omega, rfl, by go_num, by rw [HE.out], below_drewN HBW4.out _⟩
    · obtain rfl : k = L.length := by omega
      go_wp2_with fail
      go_ret
      exact ⟨rfl, HB.out⟩
set_option maxRecDepth 100000 in
set_option maxHeartbeats 8000000 in
theorem sum45_54 {B : Nat} {W : World} {t ms mb : Nat} {UA : Option Addr} {n c : Nat} {P : List Pr} {im : Plc → Option Nat} {PA : Option Addr} {pc : Nat} (h : Made B W t ms mb UA n c P im PA pc) (hok : ∀ c ∈ pl P, PlcOk c.1 ∧ 1 ≤ c.2 ∧ c.2 ≤ 4096) (hn : (pl P).length ≤ 120) {nb : Nat} (g : Plc → Bool)
    (hc : ∀ c ∈ pl P, ∀ a, im c.1 = some a → ∀ W', Below W.heap.size W W' → Calls Tryd.prog 54 #[.map (some a), .pointer (some ⟨nb, 0, none⟩)] W' fun e w' => e = .returned (.bool (g c.1)) ∧ w' = W') :
    Calls Tryd.prog 45 #[.pointer (some ⟨t, 0, none⟩), .func (.func 54) #[] #[.pointer (some ⟨nb, 0, none⟩)]] W fun e w' => e = .returned (.int .i64 (sumT (pl P) g (pl P).length)) ∧ Below W.heap.size W w' := by
  have HMD := Lib.hid h
  have HOK := Lib.hid hok
  have HC := Lib.hid hc
  have HSP : Hid (∀ k, k ≤ (pl P).length → 0 ≤ sumT (pl P) g k ∧ sumT (pl P) g k ≤ 4096 * k) := Lib.hid (fun k hk => sumT_span (fun c hc => (hok c hc).2) k hk)
  have HST : Hid (∀ (k : Nat) (c : Ck), (pl P)[k]? = some c → sumT (pl P) g (k + 1) = sumT (pl P) g k + (if g c.1 then c.2 else 0)) := Lib.hid (fun k c h => sumT_step h)
  have HLF : Hid (∀ (k : Nat) (c : Ck), (pl P)[k]? = some c → lenF P c.1 = c.2) := Lib.hid (fun k c h => lenF_get h)
  have HT0 : Hid (sumT (pl P) g 0 = 0) := Lib.hid rfl
  have ct3 : W.cell? ⟨t, 3, none⟩ = some (.slice PA (pl P).length pc) := cell_of_row W t 3 _ 90 (0, 0) h.1.tab
  have HROW : Hid (Row W PA ((pl P).flatMap plV)) := Lib.hid (row_own h.1.row)
  generalize hL : pl P = L at *
  generalize hS : sumT L g = S at *
  have HDOM : Hid (∀ (k : Nat) (c : Ck), L[k]? = some c → ∃ a, im c.1 = some a) := Lib.hid (fun k c hk => by
    rcases hi : im c.1 with _ | a
    · exfalso
      have := (h.2 c.1).1 hi
      unfold plSet at this
      rw [hL] at this
      exact this (List.mem_map.2 ⟨c, List.mem_of_getElem? hk, rfl⟩)
    · exact ⟨a, rfl⟩)
  clear h hok hc hL hS
  go_enter Tryd.func45, Tryd.ntmps45
  go_wp2_with fail
  clear ct3
  go_loopg [5, 13] L.length (fun gk r i wr => ∃ k : Nat, k ≤ L.length ∧ gk = L.length - k ∧ i = .int .i64 k ∧ r = .int .i64 (S k) ∧ Below W.heap.size W wr)
  case atStart => exact ⟨0, Nat.zero_le _, rfl, rfl, by rw [HT0.out], Below.refl _ _⟩
  case round =>
    obtain ⟨k, hk, hgk, rfl, rfl, hb⟩ := hrel
    have HK := Lib.hid hgk
    have HB := Lib.hid hb
    clear hgk hb
    by_cases hlt : k < L.length
    · obtain ⟨x, hx⟩ : ∃ x, L[k]? = some x := ⟨L[k]'hlt, by simp⟩
      obtain ⟨b, o, rfl, hbl, hr⟩ := (HROW.out.below HB.out) (fun e => by
        have := flat_len plV_len L
        rw [e] at this
        simp at this
        omega)
      have f0 := hr (k * 2 + 0) _ (flat_get plV_len L k 0 x (.int .u32 x.1.1) hx rfl)
      have f1 := hr (k * 2 + 1) _ (flat_get plV_len L k 1 x (.int .i64 x.1.2) hx rfl)
      rw [Nat.add_zero] at f0
      rw [← Nat.add_assoc] at f1
      obtain ⟨a, ha⟩ := HDOM.out k x hx
      have HXO := Lib.hid (HOK.out x (List.mem_of_getElem? hx))
      have HCX := Lib.hid (HC.out x (List.mem_of_getElem? hx) a ha)
      have HSX := Lib.hid (HST.out k x hx)
      have HLX := Lib.hid (HLF.out k x hx)
      have hsp := HSP.out k hk
      have hsp2 := HXO.out.2
      obtain ⟨⟨xb, xs⟩, xl⟩ := x
      simp only at *
      have hk0 : (0 : Int) ≤ (k : Int) := by omega
      have hk1 : (k : Int) < (L.length : Int) := by omega
      clear hr hx hbl
      have HB3 : Hid (Below wr.heap.size wr (wr.alloc (.cells #[.int .u32 xb, .int .i64 xs] 65))) := Lib.hid ((Below.refl _ _).alloc (Nat.le_refl _) _)
      have HBW3 : Hid (Below W.heap.size W (wr.alloc (.cells #[.int .u32 xb, .int .i64 xs] 65))) := Lib.hid (HB.out.alloc HB.out.size _)
      have hbc := heap_alloc_new wr (.cells #[.int .u32 xb, .int .i64 xs] 65)
      have cb0 : (wr.alloc (.cells #[.int .u32 xb, .int .i64 xs] 65)).cell? ⟨wr.heap.size, 0, none⟩ = some (.int .u32 xb) := cell_of_row _ _ 0 _ 65 (0, 0) hbc
      have cb1 : (wr.alloc (.cells #[.int .u32 xb, .int .i64 xs] 65)).cell? ⟨wr.heap.size, 1, none⟩ = some (.int .i64 xs) := cell_of_row _ _ 1 _ 65 (0, 0) hbc
      clear hbc
      go_wp2_with fail
      clear f0 f1
      generalize wr.heap.size = bc at *
      generalize wr.alloc (.cells #[.int .u32 xb, .int .i64 xs] 65) = W3 at *
      have HM3 := Lib.hid (HMD.out.grown HBW3.out)
      have ct2 : W3.cell? ⟨t, 2, none⟩ = some (.map (some mb)) := cell_of_row W3 t 2 _ 90 (0, 0) HM3.out.1.tab
      have hlb : ∀ nq, (Instr.lookup 87 (.map (some mb)) (.agg #[.int .u32 xb, .int .i64 xs]) false).run Tryd.prog (W3.drewN nq) = .ok (.map (some a)) (W3.drewN nq) := fun nq => by
        have := ((HM3.out.grown (below_drewN (Below.refl _ _) nq)).1.look (p := (xb, xs)) HXO.out.1)
        rw [ha] at this
        exact this
      have HCQ : Hid (∀ nq, Calls Tryd.prog 54 #[.map (some a), .pointer (some ⟨nb, 0, none⟩)] (W3.drewN nq) fun e w' => e = .returned (.bool (g (xb, xs))) ∧ w' = W3.drewN nq) := Lib.hid (fun nq => HCX.out _ (below_drewN HBW3.out nq))
      have HSS : Hid (S (k + 1) = S k + if g (xb, xs) = true then xl else 0) := HSX
      clear ha
      cases hg : g (xb, xs)
      case false =>
        rw [hg] at HCQ
        have HE : Hid (S (k + 1) = S k) := Lib.hid (by rw [HSS.out, hg]; simp)
        clear hg
        go_quiet ((go_at_call 54; refine Calls.quiet_of_same (HCQ.out _)))
        go_wp2_with fail
        go_roundg (L.length - (k + 1))
        case measure => rw [HK.out]; omega
        case rel => exact ⟨k + 1, by omega, rfl, by go_num, by rw [HE.out], below_drewN HBW3.out _⟩
      case true =>
        rw [hg] at HCQ
        have HE : Hid (S (k + 1) = S k + xl) := Lib.hid (by rw [HSS.out, hg]; simp)
        clear hg
        go_quiet ((go_at_call 54; refine Calls.quiet_of_same (HCQ.out _)))
        clear hlb ct2
        obtain ⟨W4, hW4⟩ : ∃ W4, W4 = W3.drewN nq := ⟨_, rfl⟩
        have HB4 : Hid (Below W3.heap.size W3 W4) := Lib.hid (by subst hW4; exact (below_drewN (Below.refl _ _) nq))
        have HBW4 : Hid (Below W.heap.size W W4) := Lib.hid (by subst hW4; exact (below_drewN HBW3.out nq))
        have d0 : W4.cell? ⟨bc, 0, none⟩ = some (.int .u32 xb) := by subst hW4; exact cb0
        have d1 : W4.cell? ⟨bc, 1, none⟩ = some (.int .i64 xs) := by subst hW4; exact cb1
        rw [← hW4]
        clear hW4 cb0 cb1
        have HM4 := Lib.hid (HM3.out.grown HB4.out)
        have ct1 : W4.cell? ⟨t, 1, none⟩ = some (.map (some ms)) := cell_of_row W4 t 1 _ 90 (0, 0) HM4.out.1.tab
        have hls : ∀ nq, (Instr.lookup 86 (.map (some ms)) (.agg #[.int .u32 xb, .int .i64 xs]) false).run Tryd.prog (W4.drewN nq) = .ok (.int .i64 xl) (W4.drewN nq) := fun nq => by
          have := ((HM4.out.grown (below_drewN (Below.refl _ _) nq)).1.lookS (p := (xb, xs)) HXO.out.1)
          rw [HLX.out] at this
          exact this
        have e1 : IntKind.i64.wrap (S k + xl) = S k + xl := IntWalk.i64_in _ (by omega)
        go_wp2_with fail
        go_quiet (fail)
        clear e1
        go_wp2_with fail
        go_roundg (L.length - (k + 1))
        case measure => rw [HK.out]; omega
        case rel => exact ⟨k + 1, by omega, rfl, by go_num, by rw [HE.out], below_drewN HBW4.out _⟩
    · obtain rfl : k = L.length := by omega
      go_wp2_with fail
      go_ret
      exact ⟨rfl, HB.out⟩
set_option maxRecDepth 100000 in
set_option maxHeartbeats 8000000 in
theorem sum45_48 {B : Nat} {W : World} {t ms mb : Nat} {UA : Option Addr} {n c : Nat} {P : List Pr} {im : Plc → Option Nat} {PA : Option Addr} {pc : Nat} (h : Made B W t ms mb UA n c P im PA pc) (hok : ∀ c ∈ pl P, PlcOk c.1 ∧ 1 ≤ c.2 ∧ c.2 ≤ 4096) (hn : (pl P).length ≤ 120) {xa ya : Nat} (g : Plc → Bool)
    (hc : ∀ c ∈ pl P, ∀ a, im c.1 = some a → ∀ W', Below W.heap.size W W' → Calls Tryd.prog 48 #[.map (some a), .pointer (some ⟨xa, 0, none⟩), .pointer (some ⟨ya, 0, none⟩)] W' fun e w' => e = .returned (.bool (g c.1)) ∧ w' = W') :
    Calls Tryd.prog 45 #[.pointer (some ⟨t, 0, none⟩), .func (.func 48) #[] #[.pointer (some ⟨xa, 0, none⟩), .pointer (some ⟨ya, 0, none⟩)]] W fun e w' => e = .returned (.int .i64 (sumT (pl P) g (pl P).length)) ∧ Below W.heap.size W w' := by
  have HMD := Lib.hid h
  have HOK := Lib.hid hok
  have HC := Lib.hid hc
  have HSP : Hid (∀ k, k ≤ (pl P).length → 0 ≤ sumT (pl P) g k ∧ sumT (pl P) g k ≤ 4096 * k) := Lib.hid (fun k hk => sumT_span (fun c hc => (hok c hc).2) k hk)
  have HST : Hid (∀ (k : Nat) (c : Ck), (pl P)[k]? = some c → sumT (pl P) g (k + 1) = sumT (pl P) g k + (if g c.1 then c.2 else 0)) := Lib.hid (fun k c h => sumT_step h)
  have HLF : Hid (∀ (k : Nat) (c : Ck), (pl P)[k]? = some c → lenF P c.1 = c.2) := Lib.hid (fun k c h => lenF_get h)
  have HT0 : Hid (sumT (pl P) g 0 = 0) := Lib.hid rfl
  have ct3 : W.cell? ⟨t, 3, none⟩ = some (.slice PA (pl P).length pc) := cell_of_row W t 3 _ 90 (0, 0) h.1.tab
  have HROW : Hid (Row W PA ((pl P).flatMap plV)) := Lib.hid (row_own h.1.row)
  generalize hL : pl P = L at *
  generalize hS : sumT L g = S at *
  have HDOM : Hid (∀ (k : Nat) (c : Ck), L[k]? = some c → ∃ a, im c.1 = some a) := Lib.hid (fun k c hk => by
    rcases hi : im c.1 with _ | a
    · exfalso
      have := (h.2 c.1).1 hi
      unfold plSet at this
      rw [hL] at this
      exact this (List.mem_map.2 ⟨c, List.mem_of_getElem? hk, rfl⟩)
    · exact ⟨a, rfl⟩)
  clear h hok hc hL hS
  go_enter Tryd.func45, Tryd.ntmps45
  go_wp2_with fail
  clear ct3
  go_loopg [5, 13] L.length (fun gk r i wr => ∃ k : Nat, k ≤ L.length ∧ gk = L.length - k ∧ i = .int .i64 k ∧ r = .int .i64 (S k) ∧ Below W.heap.size W wr)
  case atStart => exact ⟨0, Nat.zero_le _, rfl, rfl, by rw [HT0.out], Below.refl _ _⟩
  case round =>
    obtain ⟨k, hk, hgk, rfl, rfl, hb⟩ := hrel
    have HK := Lib.hid hgk
    have HB := Lib.hid hb
    clear hgk hb
    by_cases hlt : k < L.length
    · obtain ⟨x, hx⟩ : ∃ x, L[k]? = some x := ⟨L[k]'hlt, by simp⟩
      obtain ⟨b, o, rfl, hbl, hr⟩ := (HROW.out.below HB.out) (fun e => by
        have := flat_len plV_len L
        rw [e] at this
        simp at this
        omega)
      have f0 := hr (k * 2 + 0) _ (flat_get plV_len L k 0 x (.int .u32 x.1.1) hx rfl)
      have f1 := hr (k * 2 + 1) _ (flat_get plV_len L k 1 x (.int .i64 x.1.2) hx rfl)
      rw [Nat.add_zero] at f0
      rw [← Nat.add_assoc] at f1
      obtain ⟨a, ha⟩ := HDOM.out k x hx
      have HXO := Lib.hid (HOK.out x (List.mem_of_getElem? hx))
      have HCX := Lib.hid (HC.out x (List.mem_of_getElem? hx) a ha)
      have HSX := Lib.hid (HST.out k x hx)
      have HLX := Lib.hid (HLF.out k x hx)
      have hsp := HSP.out k hk
      have hsp2 := HXO.out.2
      obtain ⟨⟨xb, xs⟩, xl⟩ := x
      simp only at *
      have hk0 : (0 : Int) ≤ (k : Int) := by omega
      have hk1 : (k : Int) < (L.length : Int) := by omega
      clear hr hx hbl
      have HB3 : Hid (Below wr.heap.size wr (wr.alloc (.cells #[.int .u32 xb, .int .i64 xs] 65))) := Lib.hid ((Below.refl _ _).alloc (Nat.le_refl _) _)
      have HBW3 : Hid (Below W.heap.size W (wr.alloc (.cells #[.int .u32 xb, .int .i64 xs] 65))) := Lib.hid (HB.out.alloc HB.out.size _)
      have hbc := heap_alloc_new wr (.cells #[.int .u32 xb, .int .i64 xs] 65)
      have cb0 : (wr.alloc (.cells #[.int .u32 xb, .int .i64 xs] 65)).cell? ⟨wr.heap.size, 0, none⟩ = some (.int .u32 xb) := cell_of_row _ _ 0 _ 65 (0, 0) hbc
      have cb1 : (wr.alloc (.cells #[.int .u32 xb, .int .i64 xs] 65)).cell? ⟨wr.heap.size, 1, none⟩ = some (.int .i64 xs) := cell_of_row _ _ 1 _ 65 (0, 0) hbc
      clear hbc
      go_wp2_with fail
      clear f0 f1
      generalize wr.heap.size = bc at *
      generalize wr.alloc (.cells #[.int .u32 xb, .int .i64 xs] 65) = W3 at *
      have HM3 := Lib.hid (HMD.out.grown HBW3.out)
      have ct2 : W3.cell? ⟨t, 2, none⟩ = some (.map (some mb)) := cell_of_row W3 t 2 _ 90 (0, 0) HM3.out.1.tab
      have hlb : ∀ nq, (Instr.lookup 87 (.map (some mb)) (.agg #[.int .u32 xb, .int .i64 xs]) false).run Tryd.prog (W3.drewN nq) = .ok (.map (some a)) (W3.drewN nq) := fun nq => by
        have := ((HM3.out.grown (below_drewN (Below.refl _ _) nq)).1.look (p := (xb, xs)) HXO.out.1)
        rw [ha] at this
        exact this
      have HCQ : Hid (∀ nq, Calls Tryd.prog 48 #[.map (some a), .pointer (some ⟨xa, 0, none⟩), .pointer (some ⟨ya, 0, none⟩)] (W3.drewN nq) fun e w' => e = .returned (.bool (g (xb, xs))) ∧ w' = W3.drewN nq) := Lib.hid (fun nq => HCX.out _ (below_drewN HBW3.out nq))
      have HSS : Hid (S (k + 1) = S k + if g (xb, xs) = true then xl else 0) := HSX
      clear ha
      cases hg : g (xb, xs)
      case false =>
        rw [hg] at HCQ
        have HE : Hid (S (k + 1) = S k) := Lib.hid (by rw [HSS.out, hg]; simp)
        clear hg
        go_quiet ((go_at_call 48; refine Calls.quiet_of_same (HCQ.out _)))
        go_wp2_with fail
        go_roundg (L.length - (k + 1))
        case measure => rw [HK.out]; omega
        case rel => exact ⟨k + 1, by omega, rfl, by go_num, by rw [HE.out], below_drewN HBW3.out _⟩
      case true =>
        rw [hg] at HCQ
        have HE : Hid (S (k + 1) = S k + xl) := Lib.hid (by rw [HSS.out, hg]; simp)
        clear hg
        go_quiet ((go_at_call 48; refine Calls.quiet_of_same (HCQ.out _)))
        clear hlb ct2
        obtain ⟨W4, hW4⟩ : ∃ W4, W4 = W3.drewN nq := ⟨_, rfl⟩
        have HB4 : Hid (Below W3.heap.size W3 W4) := Lib.hid (by subst hW4; exact (below_drewN (Below.refl _ _) nq))
        have HBW4 : Hid (Below W.heap.size W W4) := Lib.hid (by subst hW4; exact (below_drewN HBW3.out nq))
        have d0 : W4.cell? ⟨bc, 0, none⟩ = some (.int .u32 xb) := by subst hW4; exact cb0
        have d1 : W4.cell? ⟨bc, 1, none⟩ = some (.int .i64 xs) := by subst hW4; exact cb1
        rw [← hW4]
        clear hW4 cb0 cb1
        have HM4 := Lib.hid (HM3.out.grown HB4.out)
        have ct1 : W4.cell? ⟨t, 1, none⟩ = some (.map (some ms)) := cell_of_row W4 t 1 _ 90 (0, 0) HM4.out.1.tab
        have hls : ∀ nq, (Instr.lookup 86 (.map (some ms)) (.agg #[.int .u32 xb, .int .i64 xs]) false).run Tryd.prog (W4.drewN nq) = .ok (.int .i64 xl) (W4.drewN nq) := fun nq => by
          have := ((HM4.out.grown (below_drewN (Below.refl _ _) nq)).1.lookS (p := (xb, xs)) HXO.out.1)
          rw [HLX.out] at this
          exact this
        have e1 : IntKind.i64.wrap (S k + xl) = S k + xl := IntWalk.i64_in _ (by omega)
        go_wp2_with fail
        go_quiet (fail)
        clear e1
        go_wp2_with fail
        go_roundg (L.length - (k + 1))
        case measure => rw [HK.out]; omega
        case rel => exact ⟨k + 1, by omega, rfl, by go_num, by rw [HE.out], below_drewN HBW4.out _⟩
    · obtain rfl : k = L.length := by omega
      go_wp2_with fail
      go_ret
      exact ⟨rfl, HB.out⟩
end Go.Proofs.YtkfajeicbkeigaaDoor
