/- The walks over the model's small methods, and words for memory. -/
import Derived.Test.YtadagidjppgbkaaRows
import Derived.WalkKit
import Derived.WalkSpells
import Derived.WalkLawsBesides
import Derived.Deep.QuietTactic
import Derived.BigQuiet
import Derived.Lib.Hide
import Derived.Maps.OwnSet
import Derived.Maps.OwnOps
import Derived.Maps.StringElems
import Derived.Deep.RegionHeld3
import Derived.Laws.Rows
import Derived.StringKeys
namespace Go.Proofs.Ytadagidjppgbkaa
open Go.RowKit Go.Maps
/-- a model's state: its map's datum, and its stream -/
structure Md where
  D : DataW Unit
  n : Nat
  op : Bool
  nm : ByteArray
  by_ : ByteArray
def mdA (b : Nat) (s : Md) : Array Value := #[.map (some b), .bool s.op, .string s.nm, .string s.by_]
/-- block g is a model whose map is block b -/
def MdAt (g b : Nat) (s : Md) (w : World) : Prop := w.heap[g]? = some (.cells (mdA b s) 67) ∧ w.ownsMap Try.prog 9 (plainElem Try.prog 9) b s.n s.D
theorem law9 : Keyed Try.prog 9 := string_keyed Try.underlying9
section
variable {g b : Nat} {s : Md} {w w' : World}
theorem MdAt.c0 (h : MdAt g b s w) : w.cell? ⟨g, 0, none⟩ = some (.map (some b)) := cell_of_row w g 0 _ 67 (0, 0) h.1
theorem MdAt.c1 (h : MdAt g b s w) : w.cell? ⟨g, 1, none⟩ = some (.bool s.op) := cell_of_row w g 1 _ 67 (0, 0) h.1
theorem MdAt.c2 (h : MdAt g b s w) : w.cell? ⟨g, 2, none⟩ = some (.string s.nm) := cell_of_row w g 2 _ 67 (0, 0) h.1
theorem MdAt.c3 (h : MdAt g b s w) : w.cell? ⟨g, 3, none⟩ = some (.string s.by_) := cell_of_row w g 3 _ 67 (0, 0) h.1
theorem MdAt.fz (h : MdAt g b s w) (i : Nat) : w.frozen? ⟨g, i, none⟩ = false := frozen_of_row w g i _ 67 h.1
theorem MdAt.lt (h : MdAt g b s w) : g < w.heap.size ∧ b < w.heap.size := ⟨(Array.getElem?_eq_some_iff.1 h.1).1, h.2.lt⟩
theorem MdAt.ne (h : MdAt g b s w) : g ≠ b := by
  rintro rfl
  obtain ⟨es, clock, hb, _⟩ := h.2
  rw [h.1] at hb
  injection hb with hb
  cases hb
theorem MdAt.below (h : MdAt g b s w) (hb : Below w.heap.size w w') : MdAt g b s w' :=
  ⟨(hb.block _ h.lt.1).trans h.1, h.2.kept (row := none) ⟨hb.os, hb.tape, hb.output, hb.size, fun k hk _ => hb.block k hk⟩ (by simp)⟩
end
/-- only blocks g and b have turned -/
structure Turn (g b : Nat) (w w' : World) : Prop where
  os : w'.os = w.os
  tape : w'.tape = w.tape
  output : w'.output = w.output
  size : w.heap.size ≤ w'.heap.size
  block : ∀ k, k < w.heap.size → k ≠ g → k ≠ b → w'.heap[k]? = w.heap[k]?
theorem Turn.refl (g b : Nat) (w : World) : Turn g b w w := ⟨rfl, rfl, rfl, Nat.le_refl _, fun _ _ _ _ => rfl⟩
theorem Turn.trans {g b : Nat} {w1 w2 w3 : World} (h : Turn g b w1 w2) (k : Turn g b w2 w3) : Turn g b w1 w3 :=
  ⟨k.os.trans h.os, k.tape.trans h.tape, k.output.trans h.output, Nat.le_trans h.size k.size, fun i hi h1 h2 => (k.block i (Nat.lt_of_lt_of_le hi h.size) h1 h2).trans (h.block i hi h1 h2)⟩
theorem Turn.of_below {g b : Nat} {w w' : World} (h : Below w.heap.size w w') : Turn g b w w' := ⟨h.os, h.tape, h.output, h.size, fun k hk _ _ => h.block k hk⟩
theorem Turn.of_grown {g b r : Nat} {w w' : World} (h : w.grownBy w' (some r)) (hr : r = g ∨ r = b) : Turn g b w w' :=
  ⟨h.os, h.tape, h.output, h.size, fun k hk h1 h2 => h.block k hk (fun e => by injection e with e; rcases hr with rfl | rfl <;> simp_all)⟩
theorem Turn.set {g b : Nat} (w : World) (i : Nat) (v : Value) : Turn g b w (w.setCell ⟨g, i, none⟩ v) :=
  ⟨rfl, rfl, rfl, by simp, fun k _ h1 _ => heap_setCell_other w ⟨g, i, none⟩ k v h1⟩
/-- what lay below stays, where the model's own blocks lie beyond -/
theorem Turn.below {B g b : Nat} {w0 w w' : World} (h : Below B w0 w) (k : Turn g b w w') (hB : B ≤ w.heap.size) (hg : B ≤ g) (hb : B ≤ b) : Below B w0 w' :=
  h.trans ⟨k.os, k.tape, k.output, k.size, fun i hi => k.block i (by omega) (by omega) (by omega)⟩
theorem MdAt.set {g b : Nat} {s : Md} {w : World} (h : MdAt g b s w) (i : Nat) (v : Value) (s' : Md) (hD : s'.D = s.D) (hn : s'.n = s.n) (ha : (mdA b s).setIfInBounds i v = mdA b s') : MdAt g b s' (w.setCell ⟨g, i, none⟩ v) := by
  refine ⟨?_, ?_⟩
  · rw [heap_setCell_same w g i _ 67 v h.1, ha]
  · rw [hD, hn]; exact h.2.setCell (Ne.symm h.ne) v

def NewPost (w : World) (e : Ending) (w' : World) : Prop := ∃ g b, e = .returned (.pointer (some ⟨g, 0, none⟩)) ∧ Below w.heap.size w w' ∧ w.heap.size ≤ g ∧ w.heap.size ≤ b ∧ MdAt g b ⟨.map [], 0, false, ByteArray.empty, ByteArray.empty⟩ w'
set_option maxHeartbeats 400000 in
theorem new8 (w : World) : Calls Try.prog 8 #[] w (NewPost w) := by
  have hmm := @run_makeMap Try.prog
  go_enter Try.func8, Try.ntmps8
  go_wp2
  go_ret
  refine ⟨w.heap.size + 1, w.heap.size, rfl, ((Below.refl _ _).alloc (Nat.le_refl _) _).alloc (by simp) _, by omega, Nat.le_refl _, ?_, (World.ownsMap_made w Try.prog 9 _).alloc _⟩
  rw [← World.size_alloc w (.map #[] 0)]
  exact heap_alloc_new _ _
theorem made_nil (w : World) : Calls Try.prog 26 #[.pointer none] w fun e w' => e = .returned (.bool false) ∧ w = w' := by
  go_enter Try.func26, Try.ntmps26
  go_wp2
  go_ret
  exact ⟨rfl, rfl⟩
theorem made_at {g b : Nat} {s : Md} {w : World} (h : MdAt g b s w) : Calls Try.prog 26 #[.pointer (some ⟨g, 0, none⟩)] w fun e w' => e = .returned (.bool true) ∧ w = w' := by
  have c0 := h.c0
  have hm := fun W => run_neq_map_nil (P := Try.prog) W 65 9 9 (some b) Try.underlying65
  clear h
  go_enter Try.func26, Try.ntmps26
  go_wp2
  go_ret
  exact ⟨rfl, rfl⟩
def Post (g b : Nat) (s : Md) (w : World) (v : Value) (e : Ending) (w' : World) : Prop := e = .returned v ∧ MdAt g b s w' ∧ Turn g b w w'
theorem crash_nil (w : World) : Calls Try.prog 9 #[.pointer none] w fun e w' => e = .returned (.tuple #[]) ∧ w = w' := by
  go_enter Try.func9, Try.ntmps9
  go_wp2_with (go_at_call 26; refine (made_nil _).mono ?_; rintro e w' ⟨rfl, rfl⟩)
  go_end0
  exact ⟨rfl, rfl⟩
def Md.shut (s : Md) : Md := ⟨s.D, s.n, false, ByteArray.empty, ByteArray.empty⟩
set_option maxHeartbeats 1000000 in
theorem crash_at {g b : Nat} {s : Md} {w : World} (h : MdAt g b s w) : Calls Try.prog 9 #[.pointer (some ⟨g, 0, none⟩)] w (Post g b s.shut w (.tuple #[])) := by
  have H := Lib.hid h
  have hM := made_at h
  have HM := Lib.hid hM
  have c1 := h.c1
  have c2 := h.c2
  have c3 := h.c3
  have f1 := h.fz 1
  have f2 := h.fz 2
  have f3 := h.fz 3
  clear h hM
  go_enter Try.func9, Try.ntmps9
  go_wp2_with (go_at_call 26; refine HM.out.mono ?_; rintro e w' ⟨rfl, rfl⟩)
  go_end0
  refine ⟨rfl, ?_, ((Turn.set _ _ _).trans (Turn.set _ _ _)).trans (Turn.set _ _ _)⟩
  have h1 := H.out.set 1 (.bool false) ⟨s.D, s.n, false, s.nm, s.by_⟩ rfl rfl rfl
  have h2 := h1.set 2 (.string ByteArray.empty) ⟨s.D, s.n, false, ByteArray.empty, s.by_⟩ rfl rfl rfl
  exact h2.set 3 (.string ByteArray.empty) s.shut rfl rfl rfl
theorem stream_nil (w : World) : Calls Try.prog 19 #[.pointer none] w fun e w' => e = .returned (.tuple #[.string ByteArray.empty, .string ByteArray.empty, .bool false]) ∧ w = w' := by
  go_enter Try.func19, Try.ntmps19
  go_wp2_with (go_at_call 26; refine (made_nil _).mono ?_; rintro e w' ⟨rfl, rfl⟩)
  go_ret3
  exact ⟨rfl, rfl⟩
theorem bytes_nil (nm : ByteArray) (w : World) : Calls Try.prog 16 #[.pointer none, .string nm] w fun e w' => e = .returned (.tuple #[.string ByteArray.empty, .bool false]) ∧ w = w' := by
  go_enter Try.func16, Try.ntmps16
  go_wp2_with (go_at_call 26; refine (made_nil _).mono ?_; rintro e w' ⟨rfl, rfl⟩)
  go_ret2
  exact ⟨rfl, rfl⟩
theorem names_nil (w : World) : Calls Try.prog 20 #[.pointer none] w fun e w' => e = .returned (.slice none 0 0) ∧ w = w' := by
  go_enter Try.func20, Try.ntmps20
  go_wp2_with (go_at_call 26; refine (made_nil _).mono ?_; rintro e w' ⟨rfl, rfl⟩)
  go_ret
  exact ⟨rfl, rfl⟩
theorem copy_nil (w : World) : Calls Try.prog 21 #[.pointer none] w fun e w' => e = .returned (.pointer none) ∧ w = w' := by
  go_enter Try.func21, Try.ntmps21
  go_wp2_with (go_at_call 26; refine (made_nil _).mono ?_; rintro e w' ⟨rfl, rfl⟩)
  go_ret
  exact ⟨rfl, rfl⟩
def replyV (e : Int) (da : ByteArray) (v : Value) : Value := .agg #[.int .i64 e, .string da, v]
set_option maxHeartbeats 1000000 in
theorem do_nil (op : Int) (nm da : ByteArray) (w : World) : Calls Try.prog 14 #[.pointer none, .agg #[.int .i64 op, .string nm, .string da]] w fun e w' => e = .returned (replyV 4 ByteArray.empty (.slice none 0 0)) ∧ Below w.heap.size w w' := by
  go_enter Try.func14, Try.ntmps14
  go_wp2_with (go_at_call 26; refine (made_nil _).mono ?_; rintro e w' ⟨rfl, rfl⟩)
  exact bodyPost_ret (v := replyV 4 ByteArray.empty (.slice none 0 0)) (by simp [results, Try.results14, go_sem, replyV]; rfl) rfl ⟨rfl, ((Below.refl _ _).alloc (Nat.le_refl _) _).alloc (by simp) _⟩

/-- the settings of a lookup -/
theorem key_ok {nm : ByteArray} (h : nm.size ≤ maxLen) : keyOf Try.prog 9 (.string nm) = some (.string nm.data.toList) := WideMaps.keyOf_string_mk Try.underlying9 h
theorem zero_ok : plainElem (H := Unit) Try.prog 9 (.string ByteArray.empty) = some (.lit (.string []), []) := plainElem_string Try.underlying9 (by simp [maxLen])
def has (s : Md) (nm : ByteArray) : Bool := Maps.has s.D (.string nm.data.toList)
/-- what a Begin answers -/
def beginE (s : Md) (nm : ByteArray) : Int :=
  if s.op = true then 250 else if nm.size < 1 ∨ 48 < nm.size then 251 else if has s nm = true then 252 else if 256 ≤ Maps.size s.D then 240 else 0
def Md.begun (s : Md) (nm : ByteArray) : Md := if beginE s nm = 0 then ⟨s.D, s.n, true, nm, ByteArray.empty⟩ else s
set_option maxHeartbeats 2000000 in
theorem begin_at {g b : Nat} {s : Md} {w : World} (h : MdAt g b s w) (nm : ByteArray) (hnm : nm.size ≤ maxLen) : Calls Try.prog 31 #[.pointer (some ⟨g, 0, none⟩), .string nm] w (Post g b (s.begun nm) w (.int .i64 (beginE s nm))) := by
  have H := Lib.hid h
  have HK := Lib.hid (key_ok hnm)
  have c0 := h.c0
  have c1 := h.c1
  have c2 := h.c2
  have c3 := h.c3
  have f1 := h.fz 1
  have f2 := h.fz 2
  have f3 := h.fz 3
  have hml : nm.size ≤ 9223372036854775807 := by unfold maxLen at hnm; omega
  clear h
  have hcase : (s.op = true ∧ beginE s nm = 250) ∨ (s.op = false ∧ (nm.size < 1 ∨ 48 < nm.size) ∧ beginE s nm = 251) ∨ (s.op = false ∧ 1 ≤ nm.size ∧ nm.size ≤ 48 ∧ has s nm = true ∧ beginE s nm = 252) ∨
      (s.op = false ∧ 1 ≤ nm.size ∧ nm.size ≤ 48 ∧ has s nm = false ∧ 256 ≤ Maps.size s.D ∧ beginE s nm = 240) ∨ (s.op = false ∧ 1 ≤ nm.size ∧ nm.size ≤ 48 ∧ has s nm = false ∧ Maps.size s.D < 256 ∧ beginE s nm = 0) := by
    unfold beginE
    cases h1 : s.op
    · by_cases h2 : nm.size < 1 ∨ 48 < nm.size
      · exact .inr (.inl ⟨rfl, h2, by rw [if_neg (by simp), if_pos h2]⟩)
      · cases h3 : has s nm
        · by_cases h4 : 256 ≤ Maps.size s.D
          · exact .inr (.inr (.inr (.inl ⟨rfl, by omega, by omega, rfl, h4, by rw [if_neg (by simp), if_neg h2, if_neg (by simp), if_pos h4]⟩)))
          · exact .inr (.inr (.inr (.inr ⟨rfl, by omega, by omega, rfl, by omega, by rw [if_neg (by simp), if_neg h2, if_neg (by simp), if_neg h4]⟩)))
        · exact .inr (.inr (.inl ⟨rfl, by omega, by omega, rfl, by rw [if_neg (by simp), if_neg h2, if_pos rfl]⟩))
    · exact .inl ⟨rfl, by rw [if_pos rfl]⟩
  rcases hcase with ⟨h1, he⟩ | ⟨h1, h2, he⟩ | ⟨h1, h2, h3, h4, he⟩ | ⟨h1, h2, h3, h4, h5, he⟩ | ⟨h1, h2, h3, h4, h5, he⟩
  · rw [Md.begun, he, if_neg (by decide)]
    rw [h1] at c1
    clear h1 he
    go_enter Try.func31, Try.ntmps31
    go_wp2_with (first
        | (at_lookup; refine wpList_lookup_own_ok _ rfl _ _ 65 rfl 9 9 law9 Try.underlying65 (plainElem Try.prog 9) (Try.zeroValue9 _) (.lit (.string [])) [] zero_ok b s.n s.D rfl H.out.2 _ _ rfl HK.out ?_; intro v ps hv; obtain ⟨sv, rfl, hsv, _⟩ := plainElem_string_inv Try.underlying9 hv; clear hv hsv)
        | (at_len; refine wpList_len_own _ rfl _ 65 rfl 9 9 Try.underlying65 _ b s.n s.D rfl H.out.2 ?_))
    go_ret
    exact ⟨rfl, H.out, Turn.refl _ _ _⟩
  · rw [Md.begun, he, if_neg (by decide)]
    rw [h1] at c1
    clear h1 he
    have ht : (decide ((nm.size : Int) < 1) = true) ∨ (decide ((nm.size : Int) < 1) = false ∧ decide ((48 : Int) < (nm.size : Int)) = true) := by
      by_cases h3 : nm.size < 1
      · exact .inl (by simp; omega)
      · exact .inr ⟨by simp; omega, by simp; omega⟩
    clear h2
    rcases ht with h2 | ⟨h2, h3⟩
    all_goals
      go_enter Try.func31, Try.ntmps31
      go_wp2_with (first
        | (at_lookup; refine wpList_lookup_own_ok _ rfl _ _ 65 rfl 9 9 law9 Try.underlying65 (plainElem Try.prog 9) (Try.zeroValue9 _) (.lit (.string [])) [] zero_ok b s.n s.D rfl H.out.2 _ _ rfl HK.out ?_; intro v ps hv; obtain ⟨sv, rfl, hsv, _⟩ := plainElem_string_inv Try.underlying9 hv; clear hv hsv)
        | (at_len; refine wpList_len_own _ rfl _ 65 rfl 9 9 Try.underlying65 _ b s.n s.D rfl H.out.2 ?_))
      go_ret
      exact ⟨rfl, H.out, Turn.refl _ _ _⟩
  · rw [Md.begun, he, if_neg (by decide)]
    rw [h1] at c1
    unfold has at h4
    have t1 : decide ((nm.size : Int) < 1) = false := by simp; omega
    have t2 : decide ((48 : Int) < (nm.size : Int)) = false := by simp; omega
    clear h1 he h2 h3
    go_enter Try.func31, Try.ntmps31
    go_wp2_with (first
        | (at_lookup; refine wpList_lookup_own_ok _ rfl _ _ 65 rfl 9 9 law9 Try.underlying65 (plainElem Try.prog 9) (Try.zeroValue9 _) (.lit (.string [])) [] zero_ok b s.n s.D rfl H.out.2 _ _ rfl HK.out ?_; intro v ps hv; obtain ⟨sv, rfl, hsv, _⟩ := plainElem_string_inv Try.underlying9 hv; clear hv hsv)
        | (at_len; refine wpList_len_own _ rfl _ 65 rfl 9 9 Try.underlying65 _ b s.n s.D rfl H.out.2 ?_))
    go_ret
    exact ⟨rfl, H.out, Turn.refl _ _ _⟩
  · rw [Md.begun, he, if_neg (by decide)]
    rw [h1] at c1
    unfold has at h4
    have t1 : decide ((nm.size : Int) < 1) = false := by simp; omega
    have t2 : decide ((48 : Int) < (nm.size : Int)) = false := by simp; omega
    have t3 : decide ((256 : Int) ≤ (Maps.size s.D : Int)) = true := by simp; omega
    clear h1 he h2 h3 h5
    go_enter Try.func31, Try.ntmps31
    go_wp2_with (first
        | (at_lookup; refine wpList_lookup_own_ok _ rfl _ _ 65 rfl 9 9 law9 Try.underlying65 (plainElem Try.prog 9) (Try.zeroValue9 _) (.lit (.string [])) [] zero_ok b s.n s.D rfl H.out.2 _ _ rfl HK.out ?_; intro v ps hv; obtain ⟨sv, rfl, hsv, _⟩ := plainElem_string_inv Try.underlying9 hv; clear hv hsv)
        | (at_len; refine wpList_len_own _ rfl _ 65 rfl 9 9 Try.underlying65 _ b s.n s.D rfl H.out.2 ?_))
    go_ret
    exact ⟨rfl, H.out, Turn.refl _ _ _⟩
  · rw [Md.begun, he, if_pos rfl]
    have hop := Lib.hid h1
    rw [h1] at c1
    unfold has at h4
    have t1 : decide ((nm.size : Int) < 1) = false := by simp; omega
    have t2 : decide ((48 : Int) < (nm.size : Int)) = false := by simp; omega
    have t3 : decide ((256 : Int) ≤ (Maps.size s.D : Int)) = false := by simp; omega
    clear h1 he h2 h3 h5
    go_enter Try.func31, Try.ntmps31
    go_wp2_with (first
        | (at_lookup; refine wpList_lookup_own_ok _ rfl _ _ 65 rfl 9 9 law9 Try.underlying65 (plainElem Try.prog 9) (Try.zeroValue9 _) (.lit (.string [])) [] zero_ok b s.n s.D rfl H.out.2 _ _ rfl HK.out ?_; intro v ps hv; obtain ⟨sv, rfl, hsv, _⟩ := plainElem_string_inv Try.underlying9 hv; clear hv hsv)
        | (at_len; refine wpList_len_own _ rfl _ 65 rfl 9 9 Try.underlying65 _ b s.n s.D rfl H.out.2 ?_))
    go_ret
    have k1 := H.out.set 1 (.bool true) ⟨s.D, s.n, true, s.nm, s.by_⟩ rfl rfl rfl
    have k2 := k1.set 2 (.string nm) ⟨s.D, s.n, true, nm, s.by_⟩ rfl rfl rfl
    exact ⟨rfl, k2.set 3 (.string ByteArray.empty) _ rfl rfl rfl, ((Turn.set _ _ _).trans (Turn.set _ _ _)).trans (Turn.set _ _ _)⟩
end Go.Proofs.Ytadagidjppgbkaa
