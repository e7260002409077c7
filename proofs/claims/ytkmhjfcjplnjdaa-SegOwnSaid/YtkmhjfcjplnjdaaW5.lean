/- The walks over same and Same; two fingerprints held against each other. -/
import Derived.Test.YtkmhjfcjplnjdaaW4
import Derived.Stop.BytesEq
namespace Go.Proofs.Ytkmhjfcjplnjdaa
open Go.RowKit
def fpU (f : Fp) : List UInt8 := f.map fun z => UInt8.ofNat z.toNat
theorem fpU_cell {f : Fp} (h : ∀ b ∈ f, 0 ≤ b ∧ b ≤ 255) : fpL f = (fpU f).map Extern.Stop.cell := by
  unfold fpL fpU
  rw [List.map_map]
  apply List.map_congr_left
  intro b hb
  have := h b hb
  simp [Extern.Stop.cell]
  omega
theorem fpU_inj {f g : Fp} (hf : ∀ b ∈ f, 0 ≤ b ∧ b ≤ 255) (hg : ∀ b ∈ g, 0 ≤ b ∧ b ≤ 255) (h : fpU f = fpU g) : f = g := by
  have e : fpL f = fpL g := by rw [fpU_cell hf, fpU_cell hg, h]
  unfold fpL at e
  have : (List.map (Value.int .u8) f).map intOf = (List.map (Value.int .u8) g).map intOf := by rw [e]
  simpa [List.map_map, Function.comp_def, intOf] using this
theorem fp_equal {f g : Fp} (hf : IsFp f) (hg : IsFp g) (w : World) : (Op.equalIn 10000 37 (.agg (fpA f)) (.agg (fpA g))).run Try.prog w = .ok (decide (f = g)) w := by
  have h := run_equalIn_bytes (P := Try.prog) w 9998 37 5 32 Try.underlying37 Try.underlying5 (fun w => Try.sizeOf5 w) (fpU f) (fpU g) (by simp [fpU, hf.1]) (by simp [fpU, hg.1])
  rw [← fpU_cell hf.2, ← fpU_cell hg.2] at h
  rw [show fpA f = (fpL f).toArray from rfl, show fpA g = (fpL g).toArray from rfl, h]
  congr 1
  rw [Bool.eq_iff_iff]
  simp
  exact ⟨fpU_inj hf.2 hg.2, fun e => by rw [e]⟩

/-- in a quiet region: a whole array is read -/
theorem wpQuiet_load_mid {P : Program} {ops : Array Oper} {rest : List Oper} {op : Oper} {a : Act} {C : World → Prop} {Q : Act → Prop} (hw : Region.wanted op (yielded ops a.tmps) = true) (ty : TypeId) (x : Operand) (ho : op.op = .load ty x)
    (b o : Nat) (hx : a.eval x = .pointer (some ⟨b, o, none⟩)) (cs : List Value) (d : TypeDesc) (hS : ∀ w, C w → w.rangeAt b o cs)
    (hu : P.underlying ty = some d) (hd : d.isRow = true) (hi : (P.info? ty).map (·.size) = some cs.length) (h : wpQuiet P ops C Q rest (a.put op.dst (.agg cs.toArray))) : wpQuiet P ops C Q (op :: rest) a := by
  refine wpQuiet_step fun K hK => ?_
  rw [if_pos hw]
  refine ⟨.agg cs.toArray, fun w hC => ?_, hK _ h⟩
  unfold Oper.quietAt execOp
  simp only [ho, hx, Instr.loadAt, Instr.sureAddr, Sem.run_bind, Sem.run_pure, Result.andThen_ok, run_loadVar_mid w b o ty cs d (hS w hC) hu hd hi]
  exact ⟨rfl, rfl⟩
/-- the slice value reads as numbers -/
def Ints (w : World) (B : Nat) (A : Option Addr) (n : Nat) (ns : List Nat) : Prop :=
  ns.length = n ∧ (0 < n → ∃ b o, A = some ⟨b, o, none⟩ ∧ b < B ∧ ∀ (i m : Nat), ns[i]? = some m → w.cell? ⟨b, o + i, none⟩ = some (.int .i64 (m : Int)))
theorem IntsAt.ints {w : World} {base : Nat} {v : Value} {ns : List Nat} (h : IntsAt w base v ns) : ∃ A c, v = .slice A ns.length c ∧ Ints w w.heap.size A ns.length ns := by
  obtain ⟨A, c, rfl, h0, h1⟩ := ownsRow_slice h
  refine ⟨A, c, rfl, rfl, fun hn => ?_⟩
  cases A with
  | none => have := h0 rfl; omega
  | some a =>
    obtain ⟨g, rfl, hb, hl⟩ := h1 a rfl
    refine ⟨g, 0, rfl, hl, fun i m hi => ?_⟩
    have := h.cells (g := g) rfl i (.int .i64 (m : Int)) (by simp [intsL, hi])
    rw [Addr.add_mid] at this
    exact this
theorem Ints.below {w w' : World} {B n : Nat} {A : Option Addr} {ns : List Nat} (h : Ints w B A n ns) (hb : Below B w w') : Ints w' B A n ns :=
  ⟨h.1, fun hn => by
    obtain ⟨b, o, e, hl, hc⟩ := h.2 hn
    exact ⟨b, o, e, hl, fun i m hi => (hb.cell (p := ⟨b, o + i, none⟩) hl).trans (hc i m hi)⟩⟩
set_option maxHeartbeats 1000000 in
theorem same16 (A1 A2 : Option Addr) (n c1 c2 : Nat) (ns : List Nat) (w : World) (h1 : Ints w w.heap.size A1 n ns) (h2 : Ints w w.heap.size A2 n ns) (hn : n ≤ 1000000) :
    Calls Try.prog 16 #[.slice A1 n c1, .slice A2 n c2] w fun e w' => e = .returned (.bool true) ∧ Below w.heap.size w w' := by
  have H1 := Lib.hid h1
  have H2 := Lib.hid h2
  clear h1 h2
  go_enter Try.func16, Try.ntmps16
  go_wp2
  go_loopg [5] n (fun gk i wr => ∃ k : Nat, k ≤ n ∧ gk = n - k ∧ i = .int .i64 k ∧ Below w.heap.size w wr)
  case atStart => exact ⟨0, Nat.zero_le _, rfl, rfl, Below.refl _ _⟩
  case round =>
    obtain ⟨k, hk, hgk, rfl, hbw⟩ := hrel
    have HK := Lib.hid hgk
    clear hgk
    by_cases hlt : k < n
    · obtain ⟨b1, o1, rfl, hl1, hc1⟩ := H1.out.2 (by omega)
      obtain ⟨b2, o2, rfl, hl2, hc2⟩ := H2.out.2 (by omega)
      obtain ⟨m, hm⟩ : ∃ m, ns[k]? = some m := ⟨ns[k]'(by rw [H1.out.1]; exact hlt), by simp⟩
      have d1 : wr.cell? ⟨b1, o1 + k, none⟩ = some (.int .i64 (m : Int)) := (hbw.cell (p := ⟨b1, o1 + k, none⟩) hl1).trans (hc1 k m hm)
      have d2 : wr.cell? ⟨b2, o2 + k, none⟩ = some (.int .i64 (m : Int)) := (hbw.cell (p := ⟨b2, o2 + k, none⟩) hl2).trans (hc2 k m hm)
      clear hc1 hc2 hm
      have hk0 : (0 : Int) ≤ (k : Int) := by omega
      have hk1 : (k : Int) < (n : Int) := by omega
      have hmm : ((m : Int) == (m : Int)) = true := by simp
      go_wp2
      go_quiet (fail)
      go_wp2
      go_roundg (n - (k + 1))
      case measure => rw [HK.out]; omega
      case rel => exact ⟨k + 1, by omega, rfl, by go_num, hbw.drewN _⟩
    · go_wp2
      go_ret
      exact ⟨rfl, hbw⟩
set_option maxHeartbeats 1000000 in
theorem hookSame (A1 A2 : Option Addr) (n c1 c2 : Nat) (fs : List Fp) (w : World) (h1 : Fps w w.heap.size A1 n fs) (h2 : Fps w w.heap.size A2 n fs) (hn : n ≤ 1000000) :
    Calls Try.prog 18 #[.slice A1 n c1, .slice A2 n c2] w fun e w' => e = .returned (.bool true) ∧ Below w.heap.size w w' := by
  have H1 := Lib.hid h1
  have H2 := Lib.hid h2
  clear h1 h2
  go_enter Try.func18, Try.ntmps18
  go_wp2
  go_loopg [5] n (fun gk i wr => ∃ k : Nat, k ≤ n ∧ gk = n - k ∧ i = .int .i64 k ∧ Below w.heap.size w wr)
  case atStart => exact ⟨0, Nat.zero_le _, rfl, rfl, Below.refl _ _⟩
  case round =>
    obtain ⟨k, hk, hgk, rfl, hbw⟩ := hrel
    have HK := Lib.hid hgk
    clear hgk
    by_cases hlt : k < n
    · obtain ⟨b1, o1, rfl, hl1, hc1⟩ := H1.out.2.2 (by omega)
      obtain ⟨b2, o2, rfl, hl2, hc2⟩ := H2.out.2.2 (by omega)
      obtain ⟨f, hf⟩ : ∃ f, fs[k]? = some f := ⟨fs[k]'(by rw [H1.out.1]; exact hlt), by simp⟩
      have hfp := H1.out.2.1 f (List.mem_of_getElem? hf)
      have HR1 : Hid (wr.rangeAt b1 (o1 + k * 32) (fpL f)) := fun j v hv => (hbw.cell (p := ⟨b1, o1 + k * 32 + j, none⟩) hl1).trans (hc1 k f hf j v hv)
      have HR2 : Hid (wr.rangeAt b2 (o2 + k * 32) (fpL f)) := fun j v hv => (hbw.cell (p := ⟨b2, o2 + k * 32 + j, none⟩) hl2).trans (hc2 k f hf j v hv)
      have hq : ∀ W, (Op.equalIn 10000 37 (.agg (fpL f).toArray) (.agg (fpL f).toArray)).run Try.prog W = .ok true W := fun W => by
        have := fp_equal hfp hfp W
        simpa [fpA] using this
      clear hc1 hc2 hf
      have hk0 : (0 : Int) ≤ (k : Int) := by omega
      have hk1 : (k : Int) < (n : Int) := by omega
      have HI : Hid ((Try.prog.info? 37).map (·.size) = some (fpL f).length) := by rw [info37, fpL_length hfp]; rfl
      go_wp2
      refine wp_region_quiet_lit (by kernel_rfl) (by kernel_rfl) ?_
      repeat (first
        | ((with_reducible refine wpQuiet_load_mid (op := ⟨some 20, _, _, _, _, _⟩) ?_ 37 (.tmp 19) rfl b1 (o1 + k * 32) ?_ (fpL f) _ ?_ Try.underlying37 rfl HI.out ?_); rfl; rfl; (rintro w2 ⟨q, rfl⟩; exact HR1.out); go_simp)
        | ((with_reducible refine wpQuiet_load_mid (op := ⟨some 24, _, _, _, _, _⟩) ?_ 37 (.tmp 23) rfl b2 (o2 + k * 32) ?_ (fpL f) _ ?_ Try.underlying37 rfl HI.out ?_); rfl; rfl; (rintro w2 ⟨q, rfl⟩; exact HR2.out); go_simp)
        | go_big_quiet_step (fail))
      refine wpQuiet_nil ?_
      intro nq
      go_wp2
      go_roundg (n - (k + 1))
      case measure => rw [HK.out]; omega
      case rel => exact ⟨k + 1, by omega, rfl, by go_num, hbw.drewN _⟩
    · go_wp2
      go_ret
      exact ⟨rfl, hbw⟩
end Go.Proofs.Ytkmhjfcjplnjdaa
