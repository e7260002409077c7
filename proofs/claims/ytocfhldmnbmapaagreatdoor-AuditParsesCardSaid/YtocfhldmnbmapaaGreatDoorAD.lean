/- What Parse leans on: Split, Index; its steps in plain words. -/
import Derived.Test.YtocfhldmnbmapaaGreatDoorAC
import Derived.Laws.ResultCell
import Derived.Deep.DeepCutAuto
namespace Go.Proofs.YtocfhldmnbmapaaGreatDoor
open Go.RowKit
theorem index_one (x : UInt8) : ∀ l : List UInt8, (Lib.index l [x] = -1 ∧ x ∉ l) ∨ (∃ h t, l = h ++ x :: t ∧ x ∉ h ∧ Lib.index l [x] = (h.length : Int))
  | [] => .inl ⟨rfl, by simp⟩
  | c :: r => by
    by_cases e : c = x
    · subst e
      refine .inr ⟨[], r, rfl, by simp, ?_⟩
      unfold Lib.index
      simp
    · have hp : List.isPrefixOf [x] (c :: r) = false := by
        simp [List.isPrefixOf]
        exact fun h => e h.symm
      rcases index_one x r with ⟨h1, h2⟩ | ⟨h, t, rfl, h2, h3⟩
      · refine .inl ⟨?_, by simp [h2]; exact fun h => e h.symm⟩
        unfold Lib.index
        rw [hp, h1]
        rfl
      · refine .inr ⟨c :: h, t, rfl, by simp [h2]; exact fun h => e h.symm, ?_⟩
        unfold Lib.index
        rw [hp, h3]
        have : ((h.length : Int) == -1) = false := by rw [beq_eq_false_iff_ne]; omega
        simp [this]
theorem splitK_eq (x : UInt8) : ∀ (n : Nat) (l : List UInt8), l.length ≤ n → Lib.splitK [x] 0 (Lib.count l [x]) l = splitL x l := by
  intro n
  induction n with
  | zero =>
    intro l hl
    obtain rfl : l = [] := List.length_eq_zero_iff.1 (by omega)
    rcases index_one x [] with ⟨h1, h2⟩ | ⟨h, t, e, _⟩
    · rw [Lib.count_miss h1, splitL_noSep h2]; rfl
    · simp at e
  | succ n ih =>
    intro l hl
    rcases index_one x l with ⟨h1, h2⟩ | ⟨h, t, e, hn, hi⟩
    · rw [Lib.count_miss h1, splitL_noSep h2]; rfl
    · rw [Lib.count_hit (by simp) hi, Nat.add_comm, Lib.splitK, hi, if_neg (by simp)]
      have e1 : l.take ((h.length : Int).toNat + 0) = h := by subst e; simp
      have e2 : l.drop ((h.length : Int).toNat + [x].length) = t := by subst e; simp
      rw [e1, e2, show h.length + [x].length = (h.length : Int).toNat + [x].length by simp, e2, ih t (by subst e; simp at hl; omega), e, splitL_app hn]
theorem splitB_eq (x : UInt8) (l : List UInt8) : Lib.splitB (str [x]) 0 (Lib.countB (str l) (str [x])) (str l) = (splitL x l).map str := by
  have h := Lib.splitB_data (str [x]) 0 (Lib.countB (str l) (str [x])) (str l)
  have h2 : Lib.splitK [x] 0 (Lib.countB (str l) (str [x])) l = splitL x l := splitK_eq x _ l (Nat.le_refl _)
  have h3 : (Lib.splitB (str [x]) 0 (Lib.countB (str l) (str [x])) (str l)).map (·.data.toList) = splitL x l := h.trans h2
  rw [← h3, List.map_map]
  conv => lhs; rw [← List.map_id (Lib.splitB _ _ _ _)]
  apply List.map_congr_left
  intro s _
  simp [str]
theorem count_len (x : UInt8) : ∀ (n : Nat) (l : List UInt8), l.length ≤ n → Lib.count l [x] + 1 = (splitL x l).length := by
  intro n
  induction n with
  | zero =>
    intro l hl
    obtain rfl : l = [] := List.length_eq_zero_iff.1 (by omega)
    rcases index_one x [] with ⟨h1, h2⟩ | ⟨h, t, e, _⟩
    · rw [Lib.count_miss h1, splitL_noSep h2]; rfl
    · simp at e
  | succ n ih =>
    intro l hl
    rcases index_one x l with ⟨h1, h2⟩ | ⟨h, t, e, hn, hi⟩
    · rw [Lib.count_miss h1, splitL_noSep h2]; rfl
    · rw [Lib.count_hit (by simp) hi, show l.drop (h.length + [x].length) = t by subst e; simp]
      have := ih t (by subst e; simp at hl; omega)
      rw [e, splitL_app hn, List.length_cons]
      omega
section
variable {P : Program}
/-- a whole array goes into the block that was made last -/
theorem wpList_store_new {ops : Array Oper} {rest : List Oper} {op : Oper} {a : Act} {w : World} {Q : Exit → Act → World → Prop} (hgd : op.guard = none) (ty : TypeId) (x y : Operand) (ho : op.op = .store ty x y)
    (c c' : Array Value) (hx : a.eval x = .pointer (some ⟨w.heap.size, 0, none⟩)) (hy : a.eval y = .agg c') (hi : (P.info? ty).map (·.size) = some c'.size) (hs : c.size = c'.size) (h1 : c'.all (·.oneCell') = true)
    (h : wpList P ops Q rest (a.put op.dst undef) (w.alloc (.cells c' ty))) : wpList P ops Q (op :: rest) a (w.alloc (.cells c ty)) :=
  wpList_plain hgd fun _ hK => by
    have hr := run_storeAt_new (P := P) w ty c c' hi hs h1
    unfold Oper.wp execOp
    simp only [ho, hx, hy, hr, Sem.run_bind, Sem.run_pure, Result.andThen_ok]
    exact hK _ _ h
end
def strsA (ws : List (List UInt8)) : Array Value := (ws.map fun x => Value.string (str x)).toArray
theorem strsA_get {ws : List (List UInt8)} {i : Nat} {x : List UInt8} (h : ws[i]? = some x) : (strsA ws)[i]? = some (.string (str x)) := by
  unfold strsA
  simp [h]
theorem split36 (l : List UInt8) (hl : l.length ≤ 4000000) (w : World) (hg : Gw w) : Calls Tryz.prog 36 #[.string (str l), .string ⟨#[32]⟩] w fun e w' => e = .returned (.slice (some ⟨w.heap.size, 0, none⟩) (splitL 32 l).length (splitL 32 l).length) ∧ w' = w.alloc (.cells (strsA (splitL 32 l)) 9) := by
  obtain ⟨m, hm⟩ := hg.ml
  have h := Tryz.strings_Split (str l) (str [32]) m w (by rw [str_size]; omega) hm (by decide)
  refine h.mono ?_
  rintro e w' ⟨rfl, rfl⟩
  have hc : Lib.countB (str l) (str [32]) + 1 = (splitL 32 l).length := count_len 32 _ l (Nat.le_refl _)
  rw [hc, splitB_eq]
  exact ⟨rfl, by unfold strsA; rw [List.map_map]; rfl⟩
theorem split_len (l : List UInt8) : (splitL 32 l).length ≤ l.length + 1 ∧ ∀ x ∈ splitL 32 l, x.length ≤ l.length := by
  induction l with
  | nil => exact ⟨Nat.le_refl _, fun x hx => by rw [splitL, List.mem_singleton] at hx; subst hx; exact Nat.le_refl _⟩
  | cons c r ih =>
    obtain ⟨h1, h2⟩ := ih
    rw [splitL]
    split
    · refine ⟨by simp only [List.length_cons]; omega, fun x hx => ?_⟩
      rcases List.mem_cons.1 hx with rfl | hx
      · exact Nat.zero_le _
      · have := h2 x hx; simp only [List.length_cons]; omega
    · cases hs : splitL 32 r with
      | nil => exact absurd hs (splitL_ne _ _)
      | cons h t =>
        rw [hs] at h1 h2
        simp only at h1 h2 ⊢
        refine ⟨by simp only [List.length_cons] at *; omega, fun x hx => ?_⟩
        rcases List.mem_cons.1 hx with rfl | hx
        · have := h2 h (List.mem_cons_self ..); simp only [List.length_cons]; omega
        · have := h2 x (List.mem_cons_of_mem _ hx); simp only [List.length_cons]; omega
/-- where a word stands among the kinds -/
def idxK (w : List UInt8) : Int := Lib.idxBy (fun x y : ByteArray => x.toList == y.toList) ((wordsL.drop 1).map str) (str w)
theorem idx_from (w : List UInt8) : ∀ (L : List (List UInt8)) (i : Nat), Lib.idxByFrom (fun x y : ByteArray => x.toList == y.toList) (str w) (L.map str) i = (match L.findIdx? (fun x => decide (x = w)) with | none => (-1 : Int) | some j => ((i + j : Nat) : Int))
  | [], i => rfl
  | y :: r, i => by
    rw [List.map_cons, Lib.idxByFrom, str_toList, str_toList, List.findIdx?_cons]
    by_cases h : y = w
    · subst h
      simp
    · have h1 : (w == y) = false := by rw [beq_eq_false_iff_ne]; exact fun q => h q.symm
      rw [h1, idx_from w r (i + 1), decide_eq_false h]
      simp only [Bool.false_eq_true, if_false]
      cases r.findIdx? (fun x => decide (x = w)) with
      | none => rfl
      | some j => simp only [Option.map_some]; congr 1; omega
theorem idx_kind (w : List UInt8) : (kindO w = none ∧ idxK w = -1) ∨ ∃ k : Nat, kindO w = some (k + 1) ∧ idxK w = (k : Nat) := by
  have h := idx_from w (wordsL.drop 1) 0
  unfold kindO idxK Lib.idxBy
  rw [h]
  cases (wordsL.drop 1).findIdx? (fun x => decide (x = w)) with
  | none => exact .inl ⟨rfl, rfl⟩
  | some j => exact .inr ⟨j, rfl, by simp⟩
theorem index37 (kb : Nat) (w : List UInt8) (W : World) (h : W.heap[kb]? = some (.cells kindsA 77 (0, 0))) : Calls Tryz.prog 37 #[.slice (some ⟨kb, 1, none⟩) 17 17, .string (str w)] W fun e w' => e = .returned (.int .i64 (idxK w)) ∧ w' = W := by
  have hl : ((wordsL.drop 1).map str).length = 17 := rfl
  have h := Tryz.slices_Index (α := ByteArray) Value.string (fun x y => x.toList == y.toList) (EqlAt.string Tryz.prog 9) kb 1 17 17 ((wordsL.drop 1).map str) (str w) W (by rw [hl]; exact Nat.le_refl _) (by decide) (fun j hj => by
    rw [hl] at hj
    rw [cell_of_row W kb (1 + j) _ 77 (0, 0) h, kinds_get _ (by omega)]
    have e : ((wordsL.drop 1).map str)[j]! = str (wordsL.getD (1 + j) []) := by
      rw [getElem!_pos _ j (by rw [hl]; exact hj), List.getElem_map, List.getElem_drop]
      have h18 : wordsL.length = 18 := rfl
      rw [List.getD, List.getElem?_eq_getElem (by omega)]
      rfl
    rw [e])
  have e17 : ((wordsL.drop 1).map str).take 17 = (wordsL.drop 1).map str := rfl
  rw [e17] at h
  exact h
theorem words_slice (kb : Nat) (W : World) : (Instr.sliceAt 77 (.pointer (some ⟨kb, 0, none⟩)) (some (.int .i64 1)) none none).run Tryz.prog W = .ok (.slice (some ⟨kb, 1, none⟩) 17 17) W := by
  have hal : Tryz.prog.arrayLen 77 = 18 := by kernel_rfl
  rw [run_sliceAt_array_l W 77 ⟨kb, 0, none⟩ (by simp [Program.arrayLen, Program.elem, Tryz.underlying77]) .i64 1 (by omega) (by rw [hal]; omega)]
  have he : Tryz.prog.elem 77 = 9 := by kernel_rfl
  rw [he, Tryz.sizeOf9, hal]
  rfl
def r1O (k : Nat) (ws : List (List UInt8)) : Option (Fd × List (List UInt8)) := (argN (hasT (k : Nat)).1 ws).map fun x => (⟨(k : Nat), x.1, [], 0⟩, x.2)
def r2O (y : Bool) (r : Option (Fd × List (List UInt8))) : Option (Fd × List (List UInt8)) := r.bind fun p => (argT y p.2).map fun x => (⟨p.1.k, p.1.id, x.1, 0⟩, x.2)
def r3O (z : Bool) (r : Option (Fd × List (List UInt8))) : Option (Fd × List (List UInt8)) := r.bind fun p => (argN z p.2).map fun x => (⟨p.1.k, p.1.id, p.1.nm, (x.1 : Nat)⟩, x.2)
def endO (r : Option (Fd × List (List UInt8))) : Option Fd := r.bind fun p => if p.2 = [] ∧ mayP p.1 then some p.1 else none
theorem parts_eq (k : Nat) (ws : List (List UInt8)) : partsO k ws = endO (r3O (hasT (k : Nat)).2.2 (r2O (hasT (k : Nat)).2.1 (r1O k ws))) := by
  unfold partsO endO r3O r2O r1O endP
  cases argN (hasT (k : Nat)).1 ws with
  | none => rfl
  | some x =>
    simp only [Option.map_some, Option.bind_some]
    cases argT (hasT (k : Nat)).2.1 x.2 with
    | none => rfl
    | some y =>
      simp only [Option.map_some, Option.bind_some]
      cases argN (hasT (k : Nat)).2.2 y.2 with
      | none => rfl
      | some z => rfl
/-- where Parse stands -/
def Stage (w0 : World) (r0 wb fb ob : Nat) (res : Option (Fd × List (List UInt8))) (w : World) : Prop := ∃ ok ws f, St w0 r0 wb fb ob ws ok f w ∧ (ok = true → res = some (f, ws)) ∧ (ok = false → res = none) ∧ f.id < 4294967296 ∧ f.at_ < 4294967296 ∧ (∀ x ∈ ws, x.length ≤ 1000000) ∧ ws.length ≤ 1000000
end Go.Proofs.YtocfhldmnbmapaaGreatDoor
