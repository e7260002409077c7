/- The set of places that a map keeps; the walks of lives and of its function. -/
import Derived.Test.YtgdljjoaiogpfaaC2
import Derived.DeepKeys4
import Derived.Maps.OwnOps
import Derived.Maps.Views
namespace Go.Proofs.Ytgdljjoaiogpfaa
open Go.RowKit Go.Maps
theorem laid39 : laidOutB Try.prog = true := by kernel_rfl
theorem keyed39 : Keyed Try.prog 39 := Keyed.of_law (deep_law_laid laid39 (m := 2) (by omega) (of_decide_eq_true (by kernel_rfl)) (by kernel_rfl) (by kernel_rfl))
def plcVal (p : Plc) : Value := .agg #[.int .u32 p.1, .int .i64 p.2]
def PlcOk (p : Plc) : Prop := (Lit.int .u32 p.1).wf = true ∧ (Lit.int .i64 p.2).wf = true
def plcKey (p : Plc) : Lit := .string (keyBytes [.int .u32 p.1, .int .i64 p.2])
theorem keyTy39 : Try.prog.keyType 39 = true := by kernel_rfl
theorem keyOf39 {p : Plc} (h : PlcOk p) : keyOf Try.prog 39 (plcVal p) = some (plcKey p) := by
  have hu : ∃ fs, Try.prog.underlying 39 = some (.struct fs) := ⟨_, Try.underlying39⟩
  obtain ⟨fs, hu⟩ := hu
  have hf : (plcVal p).formed Try.prog 39 = true := by kernel_rfl
  have e1 : keyOf Try.prog 39 (plcVal p) = (if Try.prog.keyType 39 && (plcVal p).formed Try.prog 39 then (Try.prog.keyLits (Try.prog.types.size + 1) 39 (plcVal p).cells.toList).map fun ls => .string (keyBytes ls) else none) := by
    unfold keyOf
    rw [hu]
  rw [e1, keyTy39, hf]
  have e2 : Try.prog.keyLits (Try.prog.types.size + 1) 39 (plcVal p).cells.toList = some [.int .u32 p.1, .int .i64 p.2] := by
    have hts : 0 < Try.prog.types.size := of_decide_eq_true (by kernel_rfl)
    obtain ⟨m, hm⟩ : ∃ m, Try.prog.types.size = m + 1 := ⟨Try.prog.types.size - 1, by omega⟩
    rw [hm]
    have w1 := h.1
    have w2 := h.2
    have c39 : Try.prog.cellsOf 39 = 2 := by kernel_rfl
    have c33 : Try.prog.cellsOf 33 = 1 := by kernel_rfl
    have c3 : Try.prog.cellsOf 3 = 1 := by kernel_rfl
    have k33 : ∀ d, Try.prog.keyLits (d + 1) 33 [.int .u32 p.1] = some [.int .u32 p.1] := fun d => by
      unfold Program.keyLits
      rw [Try.underlying33]
      simp [w1]
    have k3 : ∀ d, Try.prog.keyLits (d + 1) 3 [.int .i64 p.2] = some [.int .i64 p.2] := fun d => by
      unfold Program.keyLits
      rw [Try.underlying3]
      simp [w2]
    unfold Program.keyLits
    rw [Try.underlying39]
    simp only [plcVal, Value.cells]
    simp [c39, c33, c3, k33, k3]
  rw [e2]
  rfl
theorem plcKey_inj {p q : Plc} (hp : PlcOk p) (hq : PlcOk q) (h : plcKey p = plcKey q) : p = q := by
  have := keyed39.inj (keyOf39 hp) (by rw [h]; exact keyOf39 hq)
  simp [plcVal] at this
  exact Prod.ext this.1 this.2
abbrev Dat := DataW Unit
def one : Dat := .lit (.int .i64 1)
/-- what the map reads as when these places have been put -/
def setAll (l : List Plc) : Dat := l.foldl (fun m p => m.put (plcKey p) one) (.map [])
theorem setAll_snoc (l : List Plc) (p : Plc) : setAll (l ++ [p]) = (setAll l).put (plcKey p) one := by simp [setAll, List.foldl_append]
theorem isMap_setAll : ∀ (l : List Plc), IsMap (setAll l) := by
  have h : ∀ (l : List Plc) (m : Dat), IsMap m → IsMap (l.foldl (fun m p => m.put (plcKey p) one) m) := by
    intro l
    induction l with
    | nil => exact fun m h => h
    | cons x r ih => exact fun m h => ih _ (h.put _ _)
  exact fun l => h l _ isMap_empty
theorem atKey_setAll {l : List Plc} (hl : ∀ p ∈ l, PlcOk p) {q : Plc} (hq : PlcOk q) : (setAll l).atKey (plcKey q) (.lit (.int .i64 0)) = .lit (.int .i64 (if q ∈ l then 1 else 0)) := by
  have key : ∀ (n : Nat), (setAll (l.take n)).atKey (plcKey q) (.lit (.int .i64 0)) = .lit (.int .i64 (if q ∈ l.take n then 1 else 0)) := by
    intro n
    induction n with
    | zero => simp [setAll, DataW.atKey]
    | succ n ih =>
      by_cases hn : n < l.length
      · obtain ⟨x, hx⟩ : ∃ x, l[n]? = some x := ⟨l[n], by simp [hn]⟩
        have ht : l.take (n + 1) = l.take n ++ [x] := by rw [List.take_add_one, hx]; rfl
        have hx' := hl x (List.mem_of_getElem? hx)
        rw [ht, setAll_snoc]
        by_cases e : q = x
        · subst e
          rw [atKey_put_same (isMap_setAll _) (keyed39.key (keyOf39 hq))]
          simp [one]
        · rw [atKey_put_other (fun e' => e (plcKey_inj hq hx' e')), ih]
          simp [e]
      · rw [List.take_of_length_le (by omega)] at ih ⊢
        exact ih
  have := key l.length
  rwa [List.take_length] at this
def Lives (n₀ : Nat) (w : World) (bb : Nat) (l : List Plc) : Prop :=
  ∃ bm, n₀ ≤ bb ∧ bb < w.heap.size ∧ n₀ ≤ bm ∧ bm < w.heap.size ∧ w.cell? ⟨bb, 0, none⟩ = some (.map (some bm)) ∧ w.ownsMap Try.prog 39 (plainElem Try.prog 3) bm 1000000 (setAll l)
theorem lives36 {n₀ : Nat} {w : World} {bb : Nat} {l : List Plc} (h : Lives n₀ w bb l) (hl : ∀ p ∈ l, PlcOk p) {p : Plc} (hp : PlcOk p) :
    Calls Try.prog 36 #[.int .u32 p.1, .int .i64 p.2, .pointer (some ⟨bb, 0, none⟩)] w fun e w' => e = .returned (.bool (decide (p ∈ l))) ∧ w' = w := by
  obtain ⟨bm, _, _, _, _, hc, hm⟩ := h
  have HM := Lib.hid hm
  have hk := keyOf39 hp
  have ha := atKey_setAll hl hp
  obtain ⟨pb, ps⟩ := p
  have HK := Lib.hid hk
  have HA := Lib.hid ha
  clear hk ha hm
  go_enter Try.func36, Try.ntmps36
  go_wp2_with (first | (at_lookup; refine wpList_lookup_own_int _ rfl _ _ 70 rfl 39 3 .i64 keyed39 Try.underlying70 Try.underlying3 (Try.zeroValue3 _) bm _ _ rfl HM.out _ _ rfl HK.out ?_; intro c hat hwc; obtain rfl : c = (if (pb, ps) ∈ l then 1 else 0) := by (have := hat.symm.trans HA.out; simpa using this)) | go_in)
  all_goals go_ret
  all_goals exact ⟨by simp [*], rfl⟩
set_option maxRecDepth 100000 in
set_option maxHeartbeats 1000000 in
theorem lives34 {w : World} {A : Option Addr} {n c : Nat} {l : List Plc} (h : Pls w A n l) (hl : ∀ p ∈ l, PlcOk p) (hn : n ≤ 1000) :
    Calls Try.prog 34 #[.slice A n c] w fun e w' => ∃ bb, e = .returned (.func (.func 36) #[] #[.pointer (some ⟨bb, 0, none⟩)]) ∧ Below w.heap.size w w' ∧ Lives w.heap.size w' bb l := by
  have H := Lib.hid h
  have HL := Lib.hid hl
  clear h hl
  have hmm := @run_makeMap Try.prog
  go_enter Try.func34, Try.ntmps34
  go_wp2_with fail
  have HZ0 : Hid (w.heap.size + 2 = ((w.alloc (.map #[] 0)).alloc (.cells #[.map (some w.heap.size)] 70)).heap.size) := Lib.hid (by simp)
  go_loopg [9] n (fun gk i wr => ∃ k : Nat, k ≤ n ∧ gk = n - k ∧ i = .int .i64 k ∧ Below w.heap.size w wr ∧ w.heap.size + 2 ≤ wr.heap.size ∧ Boxed wr (w.heap.size + 1) 70 (.map (some w.heap.size)) ∧ wr.ownsMap Try.prog 39 (plainElem Try.prog 3) w.heap.size k (setAll (l.take k)))
  case atStart =>
    refine ⟨0, Nat.zero_le _, rfl, rfl, ((Below.refl _ w).alloc (Nat.le_refl _) _).alloc (by simp) _, by simp, ?_, ?_⟩
    · have := Boxed.new (w.alloc (.map #[] 0)) 70 (.map (some w.heap.size))
      rwa [World.size_alloc] at this
    · exact (World.ownsMap_made w Try.prog 39 (plainElem Try.prog 3)).alloc _
  case round =>
    obtain ⟨k, hk, hgk, rfl, hb, hsz, hbx, hm⟩ := hrel
    have HK := Lib.hid hgk
    have HB := Lib.hid hb
    have HSZ := Lib.hid hsz
    have HM := Lib.hid hm
    have HBX := Lib.hid hbx
    have c1 := hbx.cell
    clear hgk hb hsz hm hbx
    by_cases hlt : k < n
    · obtain ⟨x, hx⟩ : ∃ x, l[k]? = some x := ⟨l[k]'(by rw [H.out.len]; exact hlt), by simp⟩
      obtain ⟨b, o, rfl, d1, d2⟩ := (H.out.below HB.out).get hx
      have HX := Lib.hid hx
      have HPK := Lib.hid (keyOf39 (HL.out x (List.mem_of_getElem? hx)))
      have hk0 : (0 : Int) ≤ (k : Int) := by omega
      have hk1 : (k : Int) < (n : Int) := by omega
      have h1w : (Lit.int .i64 1).wf = true := rfl
      clear hx
      obtain ⟨xb, xs⟩ := x
      simp only at *
      have c2 := (HBX.out.alloc (.cells #[.int .u32 xb, .int .i64 xs] 39)).cell
      have HM2 := Lib.hid (HM.out.alloc (.cells #[.int .u32 xb, .int .i64 xs] 39))
      go_wp2_with (first | (at_mapUpdate; refine wpList_mapUpdate_own _ rfl _ _ _ 70 rfl 39 3 keyed39 Try.underlying70 _ w.heap.size k _ rfl HM2.out (by simp only [maxLen]; omega) _ _ _ rfl rfl HPK.out one [] (plainElem_int Try.underlying3 h1w) ?_; intro w1 hown1 hgrow1) | go_in)
      go_roundg (n - (k + 1))
      case measure => rw [HK.out]; omega
      case rel =>
        have hbl : Below w.heap.size wr (wr.alloc (.cells #[.int .u32 xb, .int .i64 xs] 39)) := (Below.refl _ wr).alloc (by have := HSZ.out; omega) _
        refine ⟨k + 1, by omega, rfl, by go_num, (HB.out.trans hbl).grown hgrow1 (by have := HSZ.out; simp; omega) (fun j e => by cases e; exact Nat.le_refl _), ?_, ?_, ?_⟩
        · have := hgrow1.size; simp at this; have := HSZ.out; omega
        · exact (HBX.out.alloc _).kept hgrow1 (by simp)
        · rw [List.take_add_one, HX.out]
          exact (setAll_snoc (l.take k) (xb, xs)) ▸ hown1
    · go_wp2
      go_ret
      refine ⟨_, rfl, HB.out, w.heap.size, Nat.le_succ _, HSZ.out, Nat.le_refl _, by have := HSZ.out; omega, c1, ?_⟩
      have := HM.out.mono (n' := 1000000) (by omega)
      rwa [List.take_of_length_le (by rw [H.out.len]; omega)] at this
end Go.Proofs.Ytgdljjoaiogpfaa
