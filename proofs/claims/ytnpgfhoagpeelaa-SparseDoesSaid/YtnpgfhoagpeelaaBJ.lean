/- The reference's index in memory; its at, Peek, Len. -/
import Derived.Test.YtnpgfhoagpeelaaBI
namespace Go.Proofs.Ytnpgfhoagpeelaa
open Go.RowKit
open Go.Maps
/-- a row of the reference's, in memory -/
structure Rr where
  f : Fp
  A : Option Addr
  c : Nat
  l : List Id
def rrL (r : Rr) : List Value := fpL r.f ++ [.slice r.A r.l.length r.c]
def abR (rs : List Rr) : List Rw := rs.map fun r => (r.f, r.l)
/-- numbers in memory that nobody who may turn T turns -/
def IdsT (T : Nat → Prop) (W : World) (A : Option Addr) (l : List Id) : Prop := l ≠ [] → ∃ b o, A = some ⟨b, o, none⟩ ∧ b < W.heap.size ∧ ¬ T b ∧ W.rangeAt b o (idL l)
theorem IdsT.ids {T : Nat → Prop} {W : World} {A : Option Addr} {l : List Id} (h : IdsT T W A l) : Ids W A l := fun hx => by
  obtain ⟨b, o, e, hb, _, hr⟩ := h (fun q => hx (by rw [q]; rfl))
  exact ⟨b, o, e, hb, hr⟩
structure RrOk (T : Nat → Prop) (W : World) (r : Rr) : Prop where
  fp : IsFp r.f
  ids : IdsT T W r.A r.l
  cap : r.l.length ≤ r.c
  len : r.l.length ≤ 100
def RrsT (T : Nat → Prop) (W : World) (A : Option Addr) (rs : List Rr) : Prop := rs ≠ [] → ∃ b o, A = some ⟨b, o, none⟩ ∧ b < W.heap.size ∧ ¬ T b ∧ W.rangeAt b o (rs.flatMap rrL)
structure Ref (T : Nat → Prop) (W : World) (wb ph mo : Nat) (A : Option Addr) (c : Nat) (rs : List Rr) : Prop where
  hd : W.heap[wb]? = some (.cells #[.int .i64 (ph : Nat), .int .i64 (mo : Nat), .slice A rs.length c] 32 (0, 0))
  rows : RrsT T W A rs
  ok : ∀ r ∈ rs, RrOk T W r
  cap : rs.length ≤ c
  num : rs.length ≤ 100000
  wbT : ¬ T wb
  lt : ∀ b, T b → b < W.heap.size
theorem rrL_len {T : Nat → Prop} {W : World} {r : Rr} (h : RrOk T W r) : (rrL r).length = 33 := by unfold rrL; rw [List.length_append, fpL_length h.fp]; rfl
theorem Ref.c {T : Nat → Prop} {W : World} {wb ph mo c : Nat} {A : Option Addr} {rs : List Rr} (h : Ref T W wb ph mo A c rs) : W.cell? ⟨wb, 0, none⟩ = some (.int .i64 (ph : Nat)) ∧ W.cell? ⟨wb, 1, none⟩ = some (.int .i64 (mo : Nat)) ∧ W.cell? ⟨wb, 2, none⟩ = some (.slice A rs.length c) :=
  ⟨cell_of_row W wb 0 _ 32 (0, 0) h.hd, cell_of_row W wb 1 _ 32 (0, 0) h.hd, cell_of_row W wb 2 _ 32 (0, 0) h.hd⟩
theorem Ref.get {T : Nat → Prop} {W : World} {wb ph mo c : Nat} {A : Option Addr} {rs : List Rr} (h : Ref T W wb ph mo A c rs) {k : Nat} {r : Rr} (hk : rs[k]? = some r) :
    ∃ b o, A = some ⟨b, o, none⟩ ∧ b < W.heap.size ∧ W.rangeAt b (o + k * 33) (fpL r.f) ∧ W.cell? ⟨b, o + k * 33 + 32, none⟩ = some (.slice r.A r.l.length r.c) ∧ W.rangeAt b (o + k * 33) (rrL r) := by
  have hg := fun j v hv => flat_get (f := rrL) (n := 33) (l := rs) (fun r hr => rrL_len (h.ok r hr)) k j r v hk hv
  obtain ⟨b, o, e, hb, _, hc⟩ := h.rows (fun q => by rw [q] at hk; cases hk)
  have hf := fpL_length (h.ok r (List.mem_of_getElem? hk)).fp
  have hall : W.rangeAt b (o + k * 33) (rrL r) := fun j v hv => by
    have := hc _ _ (hg j v hv)
    rwa [← Nat.add_assoc] at this
  refine ⟨b, o, e, hb, fun j v hv => hall j v ?_, ?_, hall⟩
  · unfold rrL
    rw [List.getElem?_append_left (List.getElem?_eq_some_iff.1 hv).1]
    exact hv
  · have := hall 32 (.slice r.A r.l.length r.c) (by unfold rrL; rw [List.getElem?_append_right (by omega), hf]; rfl)
    exact this
theorem range_grown {W W' : World} {row : Option Nat} {b o : Nat} {L : List Value} (h : W.rangeAt b o L) (hg : W.grownBy W' row) (hne : row ≠ some b) : W'.rangeAt b o L := fun j v hv => hg.cell (h j v hv) (fun q => hne q.symm)
theorem IdsT.below {T : Nat → Prop} {W W' : World} {A : Option Addr} {l : List Id} (h : IdsT T W A l) (hb : Below W.heap.size W W') : IdsT T W' A l := fun hl => by
  obtain ⟨b, o, e, h1, h2, h3⟩ := h hl
  exact ⟨b, o, e, Nat.lt_of_lt_of_le h1 hb.size, h2, range_below h3 hb h1⟩
theorem Ref.below {T : Nat → Prop} {W W' : World} {wb ph mo c : Nat} {A : Option Addr} {rs : List Rr} (h : Ref T W wb ph mo A c rs) (hb : Below W.heap.size W W') : Ref T W' wb ph mo A c rs where
  hd := (hb.block _ (lt_of_block h.hd)).trans h.hd
  rows := fun hl => by
    obtain ⟨b, o, e, h1, h2, h3⟩ := h.rows hl
    exact ⟨b, o, e, Nat.lt_of_lt_of_le h1 hb.size, h2, range_below h3 hb h1⟩
  ok := fun r hr => ⟨(h.ok r hr).fp, (h.ok r hr).ids.below hb, (h.ok r hr).cap, (h.ok r hr).len⟩
  cap := h.cap
  num := h.num
  wbT := h.wbT
  lt := fun b q => Nat.lt_of_lt_of_le (h.lt b q) hb.size
/-- where a hook's row is -/
def atR (rs : List Rr) (f : Fp) : Option Nat := rs.findIdx? fun r => decide (r.f = f)
def atI (rs : List Rr) (f : Fp) : Int := match atR rs f with | some k => (k : Int) | none => -1
theorem atR_hit {rs : List Rr} {f : Fp} {k : Nat} {r : Rr} (hk : rs[k]? = some r) (he : r.f = f) (hn : ∀ x ∈ rs.take k, x.f ≠ f) : atI rs f = (k : Int) := by
  unfold atI atR
  have : rs.findIdx? (fun r => decide (r.f = f)) = some k := by
    rw [List.findIdx?_eq_some_iff_getElem]
    have hlt := (List.getElem?_eq_some_iff.1 hk).1
    refine ⟨hlt, ?_, fun j hj => ?_⟩
    · rw [(List.getElem?_eq_some_iff.1 hk).2]; simpa using he
    · have := hn (rs[j]'(Nat.lt_trans hj hlt)) (List.mem_take_iff_getElem.2 ⟨j, by omega, rfl⟩)
      simpa using this
  rw [this]
theorem atR_miss {rs : List Rr} {f : Fp} (hn : ∀ x ∈ rs, x.f ≠ f) : atI rs f = -1 := by
  unfold atI atR
  have : rs.findIdx? (fun r => decide (r.f = f)) = none := by
    rw [List.findIdx?_eq_none_iff]
    exact fun x hx => by simpa using hn x hx
  rw [this]
set_option maxRecDepth 100000 in
set_option maxHeartbeats 4000000 in
theorem at36 {T : Nat → Prop} {W : World} {wb ph mo c : Nat} {A : Option Addr} {rs : List Rr} {f : Fp} (h : Ref T W wb ph mo A c rs) (hf : IsFp f) :
    Calls Try.prog 36 #[.pointer (some ⟨wb, 0, none⟩), .agg (fpL f).toArray] W fun r W' => r = .returned (.int .i64 (atI rs f)) ∧ Below W.heap.size W W' := by
  have HB0 : Hid (Below W.heap.size W (W.alloc (.cells (fpL f).toArray 47))) := Lib.hid ((Below.refl _ _).alloc (Nat.le_refl _) _)
  obtain ⟨b0, hb0⟩ : ∃ b0, b0 = W.heap.size := ⟨_, rfl⟩
  have HR0 : Hid ((W.alloc (.cells (fpL f).toArray 47)).rangeAt b0 0 (fpL f)) := Lib.hid (box_range (by rw [hb0]; exact heap_alloc_new _ _))
  have HH := Lib.hid (h.below HB0.out)
  have HF := Lib.hid hf
  have HIX := Lib.hid (info29f hf)
  have hnum := h.num
  clear h hf
  go_enter Try.func36, Try.ntmps36
  go_upto_region 1 with fail
  rw [← hb0]
  clear hb0
  generalize W.alloc (.cells (fpL f).toArray 47) = W1 at *
  go_wp2_with fail
  go_loopg [5] rs.length (fun gk i wr => ∃ k : Nat, k ≤ rs.length ∧ gk = rs.length - k ∧ i = .int .i64 k ∧ (∃ q, wr = W1.drewN q) ∧ ∀ x ∈ rs.take k, x.f ≠ f)
  case atStart => exact ⟨0, Nat.zero_le _, rfl, rfl, ⟨0, rfl⟩, by simp⟩
  case round =>
    obtain ⟨k, hk, hgk, rfl, ⟨q, hw⟩, hall⟩ := hrel
    have HK := Lib.hid hgk
    have HW := Lib.hid hw
    have HALL := Lib.hid hall
    have HWB : Hid (Below W1.heap.size W1 wr) := Lib.hid (by rw [hw]; exact below_drewN (Below.refl _ _) q)
    clear hgk hw hall
    have c2 := (HH.out.below HWB.out).c.2.2
    have hk0 : (0 : Int) ≤ (k : Int) := by omega
    by_cases hlt : k < rs.length
    · obtain ⟨r, hr⟩ : ∃ r, rs[k]? = some r := ⟨_, List.getElem?_eq_getElem hlt⟩
      obtain ⟨ab, ao, rfl, hab, hrg, _, _⟩ := (HH.out.below HWB.out).get hr
      have HR1 : Hid (∀ m, (wr.drewN m).rangeAt ab (ao + k * 33) (fpL r.f)) := Lib.hid (fun m j v hv => hrg j v hv)
      have HR2 : Hid (∀ m, (wr.drewN m).rangeAt b0 0 (fpL f)) := Lib.hid (fun m j v hv => by rw [HW.out]; exact HR0.out j v hv)
      have HRF := Lib.hid (HH.out.ok r (List.mem_of_getElem? hr)).fp
      have HIY := Lib.hid (info29f HRF.out)
      have hq := fp_eq HRF.out HF.out
      have HHIT : Hid (r.f = f → atI rs f = (k : Int)) := Lib.hid (fun e => atR_hit hr e HALL.out)
      have HTK : Hid (r.f ≠ f → ∀ x ∈ rs.take (k + 1), x.f ≠ f) := Lib.hid (fun hne x hx => by
        rw [List.take_add_one, hr] at hx
        rcases List.mem_append.1 hx with hx | hx
        · exact HALL.out x hx
        · simp only [Option.toList_some, List.mem_singleton] at hx
          rw [hx]; exact hne)
      have hk1 : (k : Int) < (rs.length : Int) := by omega
      clear hr hrg hab
      by_cases hfe : r.f = f
      · have HE := Lib.hid (HHIT.out hfe)
        rw [show decide (r.f = f) = true from decide_eq_true hfe] at hq
        clear hfe
        go_wp2_with fail
        refine wp_region_quiet_lit (by kernel_rfl) (by kernel_rfl) ?_
        repeat (first
          | ((with_reducible refine wpQuiet_load_mid (op := ⟨some 22, _, _, _, _, _⟩) ?_ 47 (.tmp 21) rfl ab (ao + k * 33) ?_ _ _ ?_ Try.underlying47 rfl HIY.out ?_); rfl; rfl; (rintro w2 ⟨q2, rfl⟩; exact HR1.out _); go_simp)
          | ((with_reducible refine wpQuiet_load_mid (op := ⟨some 23, _, _, _, _, _⟩) ?_ 47 (.tmp 3) rfl b0 (0) ?_ _ _ ?_ Try.underlying47 rfl HIX.out ?_); rfl; rfl; (rintro w2 ⟨q2, rfl⟩; exact HR2.out _); go_simp)
          | go_big_quiet_step (fail))
        refine wpQuiet_nil ?_
        intro nq
        go_wp2_with fail
        go_ret
        exact ⟨by rw [HE.out]; rfl, HB0.out.trans ((below_drewN HWB.out nq).mono HB0.out.size)⟩
      · have HE := Lib.hid (HTK.out hfe)
        rw [show decide (r.f = f) = false from decide_eq_false hfe] at hq
        clear hfe
        go_wp2_with fail
        refine wp_region_quiet_lit (by kernel_rfl) (by kernel_rfl) ?_
        repeat (first
          | ((with_reducible refine wpQuiet_load_mid (op := ⟨some 22, _, _, _, _, _⟩) ?_ 47 (.tmp 21) rfl ab (ao + k * 33) ?_ _ _ ?_ Try.underlying47 rfl HIY.out ?_); rfl; rfl; (rintro w2 ⟨q2, rfl⟩; exact HR1.out _); go_simp)
          | ((with_reducible refine wpQuiet_load_mid (op := ⟨some 23, _, _, _, _, _⟩) ?_ 47 (.tmp 3) rfl b0 (0) ?_ _ _ ?_ Try.underlying47 rfl HIX.out ?_); rfl; rfl; (rintro w2 ⟨q2, rfl⟩; exact HR2.out _); go_simp)
          | go_big_quiet_step (fail))
        refine wpQuiet_nil ?_
        intro nq
        go_wp2_with fail
        go_roundg (rs.length - (k + 1))
        case measure => rw [HK.out]; omega
        case rel => exact ⟨k + 1, by omega, rfl, by go_num, ⟨q + nq, by rw [HW.out, World.drewN_drewN]⟩, HE.out⟩
    · obtain rfl : k = rs.length := by omega
      have HE : Hid (atI rs f = -1) := Lib.hid (atR_miss (fun x hx => HALL.out x (by rw [List.take_length]; exact hx)))
      go_wp2_with fail
      go_ret
      exact ⟨by rw [HE.out]; rfl, HB0.out.trans (HWB.out.mono HB0.out.size)⟩
end Go.Proofs.Ytnpgfhoagpeelaa
