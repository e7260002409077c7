/- The arguments opened: a step, a line. -/
import Derived.Test.YtjakkmioofbcaaaDoorPL
import Derived.ProofKit
import Derived.OpenShut
import Derived.ShutString
import Derived.ChangeOld
import Derived.Deep.Slices
import Derived.Deep.Grids
import Derived.Deep.MidRow
namespace Go.Proofs.YtjakkmioofbcaaaDoor
open Go.ChangeShapes Go.WideShapes Go.ChangeAt Go.RowKit Go.Deep
theorem str_data (s : ByteArray) : str s.data.toList = s := by simp [str]
theorem cells30 : Tryd.prog.cellsOf 44 = 19 := by kernel_rfl
theorem cells28 : Tryd.prog.cellsOf 23 = 13 := by kernel_rfl
theorem cells26 : Tryd.prog.cellsOf 42 = 1 := by kernel_rfl
theorem cells25 : Tryd.prog.cellsOf 41 = 3 := by kernel_rfl
theorem cells23 : Tryd.prog.cellsOf 39 = 1 := by kernel_rfl
theorem cells22 : Tryd.prog.cellsOf 38 = 1 := by kernel_rfl
theorem cells9 : Tryd.prog.cellsOf 9 = 1 := by kernel_rfl
theorem cells4 : Tryd.prog.cellsOf 4 = 1 := by kernel_rfl
theorem cells3 : Tryd.prog.cellsOf 3 = 1 := by kernel_rfl
theorem spot_none {w : World} {a : Addr} {v : Value} (h : w.cell? a = some v) : a.spot = none := by
  unfold World.cell? at h
  cases hs : a.spot with
  | none => rfl
  | some s =>
    split at h
    · simp [hs] at h
    · cases h
theorem list13 {α : Type} {l : List α} (h : l.length = 13) : ∃ c0 c1 c2 c3 c4 c5 c6 c7 c8 c9 c10 c11 c12, l = [c0, c1, c2, c3, c4, c5, c6, c7, c8, c9, c10, c11, c12] := by
  match l, h with
  | [c0, c1, c2, c3, c4, c5, c6, c7, c8, c9, c10, c11, c12], _ => exact ⟨c0, c1, c2, c3, c4, c5, c6, c7, c8, c9, c10, c11, c12, rfl⟩
theorem list19 {α : Type} {l : List α} (h : l.length = 19) : ∃ a0 a1 a2 a3 a4 a5 a6 a7 a8 a9 a10 a11 a12 a13 a14 a15 a16 a17 a18, l = [a0, a1, a2, a3, a4, a5, a6, a7, a8, a9, a10, a11, a12, a13, a14, a15, a16, a17, a18] := by
  match l, h with
  | [a0, a1, a2, a3, a4, a5, a6, a7, a8, a9, a10, a11, a12, a13, a14, a15, a16, a17, a18], _ => exact ⟨a0, a1, a2, a3, a4, a5, a6, a7, a8, a9, a10, a11, a12, a13, a14, a15, a16, a17, a18, rfl⟩
section
variable {H : Type} {enc : TypeId × Value → H} {W : World} {base : Nat} {held : Bool}
set_option maxRecDepth 100000 in
theorem call_of_trod {sp : Nat → Bool} {fuel : Nat} {cs : List Value} {x : DataW H × List MemPlace} (h : DataW.trod enc Tryd.prog W base sp held fuel 41 cs = some x) :
    ∃ op nm dt, cs = [.int .i64 op, .string (str nm), .string (str dt)] ∧ nm.length ≤ maxLen ∧ dt.length ≤ maxLen := by
  obtain ⟨xs, n, _, _, hl, hlen, hg⟩ := DataW.trod_struct Tryd.underlying41 h
  rw [cells25] at hl
  have hlen' : xs.length = 3 := hlen
  match cs, hl with
  | [a, b, c], _ =>
  have g0 := hg 0 _ rfl
  have g1 := hg 1 _ rfl
  have g2 := hg 2 _ rfl
  rw [List.getElem?_eq_getElem (by omega)] at g0 g1 g2
  obtain ⟨op, e0, _, _⟩ := DataW.trod_int Tryd.underlying39 g0
  obtain ⟨s1, e1, _, w1⟩ := DataW.trod_string Tryd.underlying9 g1
  obtain ⟨s2, e2, _, w2⟩ := DataW.trod_string Tryd.underlying9 g2
  simp [cells23, cells9] at e0 e1 e2
  subst e0 e1 e2
  exact ⟨op, s1.data.toList, s2.data.toList, by rw [str_data, str_data], w1, w2⟩
set_option maxRecDepth 100000 in
theorem conf_of_trod {sp : Nat → Bool} {fuel : Nat} {cs : List Value} {x : DataW H × List MemPlace} (h : DataW.trod enc Tryd.prog W base sp held fuel 23 cs = some x) : ∃ c, cs = cfL c := by
  obtain ⟨xs, n, _, _, hl, hlen, hg⟩ := DataW.trod_struct Tryd.underlying23 h
  rw [cells28] at hl
  have hlen' : xs.length = 13 := hlen
  obtain ⟨c0, c1, c2, c3, c4, c5, c6, c7, c8, c9, c10, c11, c12, rfl⟩ := list13 hl
  have g0 := hg 0 _ rfl
  have g1 := hg 1 _ rfl
  have g2 := hg 2 _ rfl
  have g3 := hg 3 _ rfl
  have g4 := hg 4 _ rfl
  have g5 := hg 5 _ rfl
  have g6 := hg 6 _ rfl
  have g7 := hg 7 _ rfl
  have g8 := hg 8 _ rfl
  have g9 := hg 9 _ rfl
  have g10 := hg 10 _ rfl
  have g11 := hg 11 _ rfl
  have g12 := hg 12 _ rfl
  rw [List.getElem?_eq_getElem (by omega)] at g0 g1 g2 g3 g4 g5 g6 g7 g8 g9 g10 g11 g12
  obtain ⟨n0, e0, _, _⟩ := DataW.trod_int Tryd.underlying3 g0
  obtain ⟨n1, e1, _, _⟩ := DataW.trod_int Tryd.underlying3 g1
  obtain ⟨n2, e2, _, _⟩ := DataW.trod_int Tryd.underlying3 g2
  obtain ⟨n3, e3, _, _⟩ := DataW.trod_int Tryd.underlying3 g3
  obtain ⟨n4, e4, _, _⟩ := DataW.trod_int Tryd.underlying3 g4
  obtain ⟨n5, e5, _, _⟩ := DataW.trod_int Tryd.underlying3 g5
  obtain ⟨n6, e6, _, _⟩ := DataW.trod_int Tryd.underlying3 g6
  obtain ⟨n7, e7, _, _⟩ := DataW.trod_int Tryd.underlying3 g7
  obtain ⟨n8, e8, _, _⟩ := DataW.trod_int Tryd.underlying3 g8
  obtain ⟨n9, e9, _, _⟩ := DataW.trod_int Tryd.underlying3 g9
  obtain ⟨n10, e10, _, _⟩ := DataW.trod_int Tryd.underlying3 g10
  obtain ⟨n11, e11, _, _⟩ := DataW.trod_int Tryd.underlying3 g11
  obtain ⟨n12, e12, _, _⟩ := DataW.trod_int Tryd.underlying3 g12
  simp [cells3] at e0 e1 e2 e3 e4 e5 e6 e7 e8 e9 e10 e11 e12
  subst e0 e1 e2 e3 e4 e5 e6 e7 e8 e9 e10 e11 e12
  exact ⟨fun i => match i with | 0 => n0 | 1 => n1 | 2 => n2 | 3 => n3 | 4 => n4 | 5 => n5 | 6 => n6 | 7 => n7 | 8 => n8 | 9 => n9 | 10 => n10 | 11 => n11 | 12 => n12, rfl⟩
theorem keep_of_trod {fuel : Nat} {cs : List Value} {x : DataW H × List MemPlace} (h : DataW.trod enc Tryd.prog W base (fun _ => true) held fuel 42 cs = some x) :
    ∃ (A : Option Addr) (kp : List Bool) (cap : Nat), cs = [.slice A kp.length cap] ∧ Kp W (.slice A kp.length cap) kp ∧ kp.length ≤ cap ∧ cap ≤ maxLen := by
  rcases open_bools Tryd.underlying42 Tryd.underlying4 cells4 h with ⟨e, _⟩ | ⟨a, len, cap, B, e, _, hl, hm, _, hc⟩
  · exact ⟨none, [], 0, e, Kp.nil W, Nat.le_refl _, by unfold maxLen; omega⟩
  · refine ⟨some a, (List.range len).map B, cap, by simpa using e, ⟨⟨some a, cap, rfl⟩, fun hn => ?_⟩, by simpa using hl, hm⟩
    have h0 : 0 < len := by
      cases len with
      | zero => exact absurd rfl hn
      | succ n => omega
    have hc0 := hc 0 (by omega)
    have hsp : a.spot = none := by simpa [Addr.add] using spot_none hc0
    obtain ⟨b, o, s⟩ := a
    simp at hsp
    subst hsp
    refine ⟨b, o, cap, rfl, ?_, fun j hj => ?_⟩
    · simpa [Addr.add] using World.block_lt_of_cell? W _ hc0
    · have hj' : j < len := by simpa using hj
      have := hc j (by omega)
      rw [Addr.add_mid] at this
      rw [this]
      simp [List.getD, hj']
set_option maxRecDepth 100000 in
theorem open_step {v : Value} {d : DataW H} {p : List MemPlace} (hv : Value.okWide Tryd.prog W .any base 44 v) (h : DataW.Trod enc Tryd.prog W 0 (fun _ => true) held 44 v d p) :
    ∃ (s : St) (A : Option Addr) (cap : Nat), v = .agg (s.A (.slice A s.kp.length cap)) ∧ Kp W (.slice A s.kp.length cap) s.kp ∧ s.kp.length ≤ cap ∧ cap ≤ maxLen ∧ s.nm.length ≤ maxLen ∧ s.dt.length ≤ maxLen := by
  obtain ⟨cs, rfl, hsz⟩ := okWide_struct Tryd.underlying44 hv
  obtain ⟨fuel, hf⟩ := h
  obtain ⟨xs, n, _, _, hl, hlen, hg⟩ := DataW.trod_struct Tryd.underlying44 hf
  have hlen' : xs.length = 5 := hlen
  have hc : cs.toList.length = 19 := by rw [cells30] at hsz; simpa using hsz
  obtain ⟨L, rfl⟩ : ∃ L : List Value, cs = L.toArray := ⟨cs.toList, by simp⟩
  obtain ⟨a0, a1, a2, a3, a4, a5, a6, a7, a8, a9, a10, a11, a12, a13, a14, a15, a16, a17, a18, rfl⟩ := list19 (l := L) (by simpa using hc)
  have g0 := hg 0 _ rfl
  have g1 := hg 1 _ rfl
  have g2 := hg 2 _ rfl
  have g3 := hg 3 _ rfl
  have g4 := hg 4 _ rfl
  rw [List.getElem?_eq_getElem (by omega)] at g0 g1 g2 g3 g4
  obtain ⟨k, e0, _, _⟩ := DataW.trod_int Tryd.underlying38 g0
  obtain ⟨op, nm, dt, e1, w1, w2⟩ := call_of_trod g1
  obtain ⟨nn, e2, _, _⟩ := DataW.trod_int Tryd.underlying3 g2
  obtain ⟨A, kp, cap, e3, hk, hk1, hk2⟩ := keep_of_trod g3
  obtain ⟨c, e4⟩ := conf_of_trod g4
  simp [Value.cells, cells22, cells25, cells3, cells26, cells28] at e0 e1 e2 e3 e4
  obtain ⟨rfl, rfl, rfl⟩ := e1
  subst e0 e2 e3
  refine ⟨⟨k, op, nm, dt, nn, kp, c⟩, A, cap, ?_, hk, hk1, hk2, w1, w2⟩
  show Value.agg _ = Value.agg (stL k op nm dt nn (.slice A kp.length cap) c).toArray
  rw [show stL k op nm dt nn (.slice A kp.length cap) c = [.int .i64 k, .int .i64 op, .string (str nm), .string (str dt), .int .i64 nn, .slice A kp.length cap] ++ cfL c from rfl, ← e4]
  rfl
set_option maxRecDepth 100000 in
theorem open_line {sp : Nat → Bool} {v : Value} {d : DataW H} {p : List MemPlace} (hv : Value.okWide Tryd.prog W .any base 9 v) (h : DataW.Trod enc Tryd.prog W 0 sp held 9 v d p) :
    ∃ l : List UInt8, v = .string (str l) ∧ l.length ≤ maxLen := by
  obtain ⟨fuel, hf⟩ := h
  obtain ⟨s, e, _, hs⟩ := DataW.trod_string Tryd.underlying9 hf
  obtain ⟨s', rfl⟩ := okWide_string Tryd.underlying9 hv
  simp [Value.cells] at e
  subst e
  exact ⟨s'.data.toList, by rw [str_data], hs⟩
set_option maxRecDepth 100000 in
theorem open_int {sp : Nat → Bool} {v : Value} {d : DataW H} {p : List MemPlace} (hv : Value.okWide Tryd.prog W .any base 3 v) (_h : DataW.Trod enc Tryd.prog W 0 sp held 3 v d p) : ∃ n : Int, v = .int .i64 n := okWide_int Tryd.underlying3 hv
end
end Go.Proofs.YtjakkmioofbcaaaDoor
