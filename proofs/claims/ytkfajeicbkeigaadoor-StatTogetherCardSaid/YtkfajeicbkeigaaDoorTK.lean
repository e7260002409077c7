/- The walk over the library's insertion sort, of names by what each gains. -/
import Derived.Test.YtkfajeicbkeigaaDoorTJ
import Derived.Laws.OwnMore
namespace Go.Proofs.YtkfajeicbkeigaaDoor
open Go.RowKit Go.Maps
/-- a name put in its place, sought from behind -/
def ins (key : Nm → Int) (out : List Nm) (x : Nm) : List Nm :=
  (out.reverse.dropWhile fun y => decide (key y < key x)).reverse ++ x :: (out.reverse.takeWhile fun y => decide (key y < key x)).reverse
def ord (key : Nm → Int) (l : List Nm) : List Nm := l.foldl (ins key) []
theorem ord_snoc (key : Nm → Int) (l : List Nm) (x : Nm) : ord key (l ++ [x]) = ins key (ord key l) x := by
  unfold ord
  rw [List.foldl_append]
  rfl
theorem ins_at {key : Nm → Int} {A B : List Nm} {x : Nm} (hB : ∀ b ∈ B, key b < key x) (hA : A = [] ∨ ∃ A' y, A = A' ++ [y] ∧ ¬ key y < key x) : ins key (A ++ B) x = A ++ x :: B := by
  unfold ins
  have hb : ∀ b ∈ B.reverse, decide (key b < key x) = true := fun b h => by simpa using hB b (by simpa using h)
  rw [List.reverse_append, List.dropWhile_append_of_pos hb, List.takeWhile_append_of_pos hb]
  rcases hA with rfl | ⟨A', y, rfl, hy⟩
  · simp
  · have e : (A' ++ [y]).reverse = y :: A'.reverse := by simp
    rw [e, List.dropWhile_cons_of_neg (by simpa using hy), List.takeWhile_cons_of_neg (by simpa using hy)]
    simp
theorem ins_len (key : Nm → Int) (out : List Nm) (x : Nm) : (ins key out x).length = out.length + 1 := by
  unfold ins
  have := List.takeWhile_append_dropWhile (p := fun y => decide (key y < key x)) (l := out.reverse)
  have h := congrArg List.length this
  rw [List.length_append, List.length_reverse] at h
  simp only [List.length_append, List.length_reverse, List.length_cons]
  omega
theorem ord_len (key : Nm → Int) (l : List Nm) : (ord key l).length = l.length := by
  induction l using snoc_ind with
  | h0 => rfl
  | h1 l x ih => rw [ord_snoc, ins_len, ih, List.length_append]; rfl
theorem ins_mem {key : Nm → Int} {out : List Nm} {x y : Nm} : y ∈ ins key out x ↔ y = x ∨ y ∈ out := by
  unfold ins
  have h := List.takeWhile_append_dropWhile (p := fun y => decide (key y < key x)) (l := out.reverse)
  have : y ∈ out ↔ y ∈ out.reverse.takeWhile (fun y => decide (key y < key x)) ∨ y ∈ out.reverse.dropWhile (fun y => decide (key y < key x)) := by
    rw [← List.mem_append, h, List.mem_reverse]
  rw [this]
  simp only [List.mem_append, List.mem_reverse, List.mem_cons]
  constructor
  · rintro (h | rfl | h)
    · exact .inr (.inr h)
    · exact .inl rfl
    · exact .inr (.inl h)
  · rintro (rfl | h | h)
    · exact .inr (.inl rfl)
    · exact .inr (.inr h)
    · exact .inl h
theorem ord_mem {key : Nm → Int} {l : List Nm} {y : Nm} : y ∈ ord key l ↔ y ∈ l := by
  induction l using snoc_ind with
  | h0 => simp [ord]
  | h1 l x ih => rw [ord_snoc, ins_mem, ih, List.mem_append, List.mem_singleton]; exact Or.comm
/-- the map of gains, behind its box -/
def Gains (W : World) (gb gm : Nat) (key : Nm → Int) (names : List Nm) : Prop :=
  W.heap[gb]? = some (.cells #[.map (some gm)] 92) ∧ ∃ (D : Dat) (N : Nat), W.ownsMap Tryd.prog 9 (plainElem Tryd.prog 3) gm N D ∧ ∀ s ∈ names, NmOk s ∧ D.atKey (nmKey s) (.lit (.int .i64 0)) = .lit (.int .i64 (key s))
theorem Gains.set {W : World} {gb gm : Nat} {key : Nm → Int} {names : List Nm} (h : Gains W gb gm key names) {g i : Nat} {v : Value} (h1 : g ≠ gb) (h2 : g ≠ gm) : Gains (W.setCell ⟨g, i, none⟩ v) gb gm key names := by
  obtain ⟨h3, D, N, h4, h5⟩ := h
  exact ⟨by rw [heap_setCell_other _ _ _ _ (Ne.symm h1)]; exact h3, D, N, h4.setCell (Ne.symm h2) v, h5⟩
theorem Gains.drewN {W : World} {gb gm : Nat} {key : Nm → Int} {names : List Nm} (h : Gains W gb gm key names) (n : Nat) : Gains (W.drewN n) gb gm key names := h
set_option maxRecDepth 100000 in
theorem Gains.look {W : World} {gb gm : Nat} {key : Nm → Int} {names : List Nm} (h : Gains W gb gm key names) {s : Nm} (hs : s ∈ names) : (Instr.lookup 92 (.map (some gm)) (.string (str s)) false).run Tryd.prog W = .ok (.int .i64 (key s)) W := by
  obtain ⟨_, D, N, h4, h5⟩ := h
  obtain ⟨h6, h7⟩ := h5 s hs
  obtain ⟨c, hrun, hat, _⟩ := h4.lookup_int law9 Tryd.underlying92 Tryd.underlying3 (Tryd.zeroValue3 W) (key9 h6)
  rw [h7] at hat
  injection hat with hat
  injection hat with _ hat
  subst hat
  exact hrun
def Small (key : Nm → Int) (names : List Nm) : Prop := ∀ s ∈ names, 0 ≤ key s ∧ key s ≤ 1000000
set_option maxHeartbeats 1000000 in
theorem cmp50 {W : World} {gb gm : Nat} {key : Nm → Int} {names : List Nm} (h : Gains W gb gm key names) (hk : Small key names) {s u : Nm} (hs : s ∈ names) (hu : u ∈ names) :
    Calls Tryd.prog 50 #[.string (str s), .string (str u), .pointer (some ⟨gb, 0, none⟩)] W fun e w' => e = .returned (.int .i64 (key u - key s)) ∧ w' = W := by
  have l1 := h.look hs
  have l2 := h.look hu
  have b1 := hk s hs
  have b2 := hk u hu
  have c0 : W.cell? ⟨gb, 0, none⟩ = some (.map (some gm)) := cell_of_row W gb 0 _ 92 (0, 0) h.1
  generalize key s = x at *
  generalize key u = y at *
  clear h hk hs hu
  go_enter Tryd.func50, Tryd.ntmps50
  go_wp2_with fail
  go_ret
  exact ⟨rfl, rfl⟩
end Go.Proofs.YtkfajeicbkeigaaDoor
