/- The library's insertion sort, of numbers. -/
import Derived.Test.YtijdkgklajdbnaaAL
import Derived.Laws.OwnMore
import Derived.Deep.RegionWith
import Derived.Deep.Slices
import Derived.Deep.WholeRow
import Derived.BigRegion
import Derived.Laws.Rows
namespace Go.Proofs.Ytijdkgklajdbnaa
open Go.RowKit
def Ends1 (A : Act) (W : World) : Exit → Act → World → Prop
  | .normal, a, w => a = A ∧ w = W
  | _, _, _ => False
theorem via {P : Program} {c : Code} {Q : Exit → Act → World → Prop} {a : Act} {w : World} (h : ∃ A W, c.wp P (Ends1 A W) a w ∧ Q .normal A W) : c.wp P Q a w := by
  obtain ⟨A, W, h1, h2⟩ := h
  exact Code.wp_mono (fun e a' w' he => by
    cases e with
    | normal => obtain ⟨rfl, rfl⟩ := he; exact h2
    | _ => exact he.elim) h1
theorem snoc_ind {α : Type} {P : List α → Prop} (h0 : P []) (h1 : ∀ l x, P l → P (l ++ [x])) (l : List α) : P l := by
  have : ∀ n, ∀ l : List α, l.length = n → P l := by
    intro n
    induction n with
    | zero => intro l hl; rw [List.length_eq_zero_iff.1 hl]; exact h0
    | succ n ih =>
      intro l hl
      have hne : l ≠ [] := fun e => by rw [e] at hl; simp at hl
      rw [← List.dropLast_concat_getLast hne]
      exact h1 _ _ (ih _ (by rw [List.length_dropLast, hl]; rfl))
  exact this _ l rfl
/-- a name put in its place, sought from behind -/
def ins (key : Id → Int) (out : List Id) (x : Id) : List Id :=
  (out.reverse.dropWhile fun y => decide (key y < key x)).reverse ++ x :: (out.reverse.takeWhile fun y => decide (key y < key x)).reverse
def ord (key : Id → Int) (l : List Id) : List Id := l.foldl (ins key) []
theorem ord_snoc (key : Id → Int) (l : List Id) (x : Id) : ord key (l ++ [x]) = ins key (ord key l) x := by
  unfold ord
  rw [List.foldl_append]
  rfl
theorem ins_at {key : Id → Int} {A B : List Id} {x : Id} (hB : ∀ b ∈ B, key b < key x) (hA : A = [] ∨ ∃ A' y, A = A' ++ [y] ∧ ¬ key y < key x) : ins key (A ++ B) x = A ++ x :: B := by
  unfold ins
  have hb : ∀ b ∈ B.reverse, decide (key b < key x) = true := fun b h => by simpa using hB b (by simpa using h)
  rw [List.reverse_append, List.dropWhile_append_of_pos hb, List.takeWhile_append_of_pos hb]
  rcases hA with rfl | ⟨A', y, rfl, hy⟩
  · simp
  · have e : (A' ++ [y]).reverse = y :: A'.reverse := by simp
    rw [e, List.dropWhile_cons_of_neg (by simpa using hy), List.takeWhile_cons_of_neg (by simpa using hy)]
    simp
theorem insK_len (key : Id → Int) (out : List Id) (x : Id) : (ins key out x).length = out.length + 1 := by
  unfold ins
  have := List.takeWhile_append_dropWhile (p := fun y => decide (key y < key x)) (l := out.reverse)
  have h := congrArg List.length this
  rw [List.length_append, List.length_reverse] at h
  simp only [List.length_append, List.length_reverse, List.length_cons]
  omega
theorem ord_len (key : Id → Int) (l : List Id) : (ord key l).length = l.length := by
  induction l using snoc_ind with
  | h0 => rfl
  | h1 l x ih => rw [ord_snoc, insK_len, ih, List.length_append]; rfl
theorem ins_mem {key : Id → Int} {out : List Id} {x y : Id} : y ∈ ins key out x ↔ y = x ∨ y ∈ out := by
  unfold ins
  have h := List.takeWhile_append_dropWhile (p := fun y => decide (key y < key x)) (l := out.reverse)
  have : y ∈ out ↔ y ∈ out.reverse.takeWhile (fun y => decide (key y < key x)) ∨ y ∈ out.reverse.dropWhile (fun y => decide (key y < key x)) := by
    rw [← List.mem_append, h, List.mem_reverse]
  rw [this]
  simp only [List.mem_append, List.mem_reverse, List.mem_cons]
  constructor
  · rintro (h | rfl | h)
    · exact .inr (.inr h)
    · exact .inl rfl
    · exact .inr (.inl h)
  · rintro (rfl | h | h)
    · exact .inr (.inl rfl)
    · exact .inr (.inr h)
    · exact .inl h
theorem ord_mem {key : Id → Int} {l : List Id} {y : Id} : y ∈ ord key l ↔ y ∈ l := by
  induction l using snoc_ind with
  | h0 => simp [ord]
  | h1 l x ih => rw [ord_snoc, ins_mem, ih, List.mem_append, List.mem_singleton]; exact Or.comm
/-- the smaller the further ahead -/
def key (x : Id) : Int := -x
theorem key_lt {x y : Id} : key y < key x ↔ x < y := by
  unfold key
  exact Int.neg_lt_neg_iff
theorem nan56 (x : Id) (w : World) : Calls Try.prog 56 #[.int .u32 x] w fun e w' => e = .returned (.bool false) ∧ w' = w := by
  have hx : (x != x) = false := by simp
  go_enter Try.func56, Try.ntmps56
  go_wp2_with fail
  go_ret
  exact ⟨rfl, rfl⟩
theorem less70 (x y : Id) (w : World) : Calls Try.prog 70 #[.int .u32 x, .int .u32 y] w fun e w' => e = .returned (.bool (decide (x < y))) ∧ w' = w := by
  have HC := Lib.hid (fun z => nan56 z w)
  have HR : Hid (∀ b, decide (x < y) = b → decide (x < y) = b) := Lib.hid (fun _ h => h)
  go_enter Try.func70, Try.ntmps70
  go_wp2_with fail
  refine Calls.mono (HC.out _) ?_
  rintro e w1 ⟨rfl, rfl⟩
  go_wp2_with fail
  go_ret
  exact ⟨rfl, rfl⟩
theorem swap_list {α : Type} (P Q : List α) (a b : α) : ((P ++ a :: b :: Q).set (P.length + 1) a).set P.length b = P ++ b :: a :: Q := by
  rw [List.set_append_right _ _ (by omega), show P.length + 1 - P.length = 1 by omega, List.set_append_right _ _ (Nat.le_refl _), Nat.sub_self]
  rfl
theorem idL_mid (P Q : List Id) (a b : Id) : idL (P ++ a :: b :: Q) = idL P ++ .int .u32 a :: .int .u32 b :: idL Q := by simp [idL]
theorem take_one (l : List Id) (h : 0 < l.length) (key : Id → Int) : ord key (l.take 1) ++ l.drop 1 = l := by
  match l, h with
  | x :: r, _ => simp [ord, ins]
theorem grown_drewN' {W V : World} {r : Option Nat} (h : W.grownBy V r) (n : Nat) : W.grownBy (V.drewN n) r := ⟨h.os, h.tape, h.output, h.size, h.block⟩
theorem grown_set {W V : World} {g i : Nat} {v : Value} (h : W.grownBy V (some g)) : W.grownBy (V.setCell ⟨g, i, none⟩ v) (some g) :=
  ⟨h.os, h.tape, h.output, by simpa using h.size, fun k hk hne => by rw [heap_setCell_other _ _ _ _ (fun e => hne (by rw [e]))]; exact h.block k hk hne⟩
def SRow (W : World) (base g cap n : Nat) (l : List Id) : Prop := W.ownsRow base 24 1 (.slice (some ⟨g, 0, none⟩) n cap) n (idL l)
theorem SRow.get {W : World} {base g cap n : Nat} {l : List Id} (h : SRow W base g cap n l) {j : Nat} {s : Id} (hj : l[j]? = some s) (hn : l.length = n) : W.cell? ⟨g, j, none⟩ = some (.int .u32 s) := by
  have hlt := (List.getElem?_eq_some_iff.1 hj).1
  have := World.ownsRow.cellAt h j (by omega)
  rw [this]
  simp [idL, hj]
set_option maxRecDepth 100000 in
set_option maxHeartbeats 8000000 in
theorem sort64 {W : World} {base g cap : Nat} {names : List Id} (h : SRow W base g cap names.length names) (hn : names.length ≤ 12) (hn1 : 1 ≤ names.length) :
    Calls Try.prog 64 #[.slice (some ⟨g, 0, none⟩) names.length cap, .int .i64 0, .int .i64 names.length] W fun e w' => e = .returned (.tuple #[]) ∧ SRow w' base g cap names.length (ord key names) ∧ W.grownBy w' (some g) := by
  have H := Lib.hid h
  have H0 : Hid (ord key (names.take 1) ++ names.drop 1 = names) := Lib.hid (take_one names hn1 key)
  clear h
  obtain ⟨n, hnn⟩ : ∃ n, names.length = n := ⟨_, rfl⟩
  have HN := Lib.hid hnn
  rw [hnn] at H hn hn1 ⊢
  clear hnn
  go_enter Try.func64, Try.ntmps64
  go_wp2_with fail
  go_loopg [6] (n - 1) (fun gk i wr => ∃ k : Nat, 1 ≤ k ∧ k ≤ n ∧ gk = n - k ∧ i = .int .i64 k ∧ SRow wr base g cap n (ord key (names.take k) ++ names.drop k) ∧ W.grownBy wr (some g))
  case atStart => exact ⟨1, Nat.le_refl _, hn1, rfl, rfl, by rw [H0.out]; exact H.out, World.grownBy.refl _ _⟩
  case round =>
    obtain ⟨k, hk1, hk, hgk, rfl, hrow, hgr⟩ := hrel
    have HKK := Lib.hid hgk
    have HR := Lib.hid hrow
    have HGR := Lib.hid hgr
    clear hgk hrow hgr
    by_cases hlt : k < n
    · obtain ⟨x, hx⟩ : ∃ x, names[k]? = some x := ⟨names[k]'(by rw [HN.out]; exact hlt), by simp⟩
      have HX := Lib.hid (List.mem_of_getElem? hx)
      have HT : Hid (names.take (k + 1) = names.take k ++ [x]) := Lib.hid (by rw [List.take_add_one, hx]; rfl)
      have HD : Hid (names.drop k = x :: names.drop (k + 1)) := Lib.hid (by
        have hl : k < names.length := by rw [HN.out]; exact hlt
        rw [List.drop_eq_getElem_cons hl]
        congr 1
        rw [List.getElem?_eq_getElem hl] at hx
        exact Option.some.inj hx)
      have HOL : Hid ((ord key (names.take k)).length = k) := Lib.hid (by rw [ord_len, List.length_take]; have := HN.out; omega)
      have HOM : Hid (∀ y ∈ ord key (names.take k), y ∈ names) := Lib.hid (fun y hy => List.mem_of_mem_take (ord_mem.1 hy))
      have HDL : Hid ((names.drop (k + 1)).length = n - (k + 1)) := Lib.hid (by rw [List.length_drop, HN.out])
      have HOS : Hid (∀ A B, A ++ B = ord key (names.take k) → (∀ b ∈ B, key b < key x) → (A = [] ∨ ∃ A' y, A = A' ++ [y] ∧ ¬ key y < key x) → ord key (names.take (k + 1)) ++ names.drop (k + 1) = A ++ x :: B ++ names.drop (k + 1)) := Lib.hid (fun A B e hb ha => by rw [HT.out, ord_snoc, ← e, ins_at hb ha])
      have HR0 : Hid (SRow wr base g cap n (ord key (names.take k) ++ x :: [] ++ names.drop (k + 1))) := Lib.hid (by have := HR.out; rw [HD.out] at this; simpa using this)
      clear hx
      generalize ord key (names.take k) = O at *
      generalize hTT : names.drop (k + 1) = T at *
      have HTD := Lib.hid hTT
      clear hTT
      go_wp2_with fail
      go_loopg [7] k (fun gj j wQ => ∃ A B : List Id, gj = A.length ∧ j = .int .i64 (A.length : Nat) ∧ A ++ B = O ∧ (∀ b ∈ B, key b < key x) ∧ SRow wQ base g cap n (A ++ x :: B ++ T) ∧ W.grownBy wQ (some g))
      case atStart => exact ⟨O, [], HOL.out.symm, by rw [HOL.out], List.append_nil O, (fun b hb => by cases hb), HR0.out, HGR.out⟩
      case round =>
        obtain ⟨A, B, hgj, rfl, hAB, hB, hrow, hgr⟩ := hrel
        have HJ := Lib.hid hgj
        have HAB := Lib.hid hAB
        have HBB := Lib.hid hB
        have HRQ := Lib.hid hrow
        have HGRQ := Lib.hid hgr
        have HLEN : Hid ((A ++ x :: B ++ T).length = n) := Lib.hid (by
          have e := congrArg List.length hAB
          rw [List.length_append, HOL.out] at e
          simp only [List.length_append, List.length_cons, HDL.out]
          omega)
        have hAk : A.length ≤ k := by
          have e := congrArg List.length hAB
          rw [List.length_append, HOL.out] at e
          omega
        clear hgj hAB hB hrow hgr
        rcases List.eq_nil_or_concat A with hA | ⟨A', y, hA⟩
        · subst hA
          have HE := Lib.hid (HOS.out [] B HAB.out HBB.out (.inl rfl))
          go_wp2_with fail
          go_quiet (fail)
          go_wp2_with fail
          go_roundg (n - (k + 1))
          case measure => rw [HKK.out]; omega
          case rel => exact ⟨k + 1, by omega, by omega, rfl, by go_num, by rw [HTD.out, HE.out]; exact HRQ.out, grown_drewN' HGRQ.out _⟩
        · rw [List.concat_eq_append] at hA
          subst hA
          have hl1 : (A' ++ [y]).length = A'.length + 1 := by simp
          have HYM : Hid (y ∈ names) := Lib.hid (HOM.out y (by rw [← HAB.out]; simp))
          have cj : wr.cell? ⟨g, A'.length + 1, none⟩ = some (.int .u32 x) := HRQ.out.get (by simp) HLEN.out
          have ci : wr.cell? ⟨g, A'.length, none⟩ = some (.int .u32 y) := HRQ.out.get (by simp) HLEN.out
          have HCMP : Hid (∀ nq, Calls Try.prog 70 #[.int .u32 x, .int .u32 y] (wr.drewN nq) fun e w' => e = .returned (.bool (decide (x < y))) ∧ w' = wr.drewN nq) := Lib.hid (fun nq => less70 x y _)
          have fj : wr.frozen? ⟨g, A'.length + 1, none⟩ = false := World.ownsRow.frozenAt HRQ.out _
          have fi : wr.frozen? ⟨g, A'.length, none⟩ = false := World.ownsRow.frozenAt HRQ.out _
          rw [hl1] at hAk ⊢
          have hj0 : (0 : Int) < (A'.length : Int) + 1 := by omega
          have hs1 : IntKind.i64.wrap ((A'.length : Int) + 1 - 1) = (A'.length : Int) := IntWalk.i64_in _ (by omega) |>.trans (by omega)
          obtain ⟨m, hm⟩ : ∃ m, A'.length = m := ⟨_, rfl⟩
          have HM := Lib.hid hm
          rw [hm] at cj ci fj fi hj0 hs1 hAk ⊢
          have hmn : m + 1 < n := by omega
          clear hl1 hm
          have hcast : ((m + 1 : Nat) : Int) = (m : Int) + 1 := by omega
          by_cases hxy : key y < key x
          · have hlt2 : x < y := key_lt.1 hxy
            rw [decide_eq_true hlt2] at HCMP
            have HXY := Lib.hid hxy
            clear hxy hlt2
            go_wp2_with fail
            go_quiet ((go_at_call 70; refine Calls.quiet_of_same (HCMP.out _)))
            go_wp2_with fail
            refine via ?_
            apply Exists.intro
            apply Exists.intro
            refine ⟨?_, ?_⟩
            · go_region
              all_goals exact ⟨rfl, rfl⟩
            have HS1 : Hid (SRow (((wr.drewN (nq + 1)).setCell ⟨g, m + 1, none⟩ (.int .u32 y)).setCell ⟨g, m, none⟩ (.int .u32 x)) base g cap n (A' ++ x :: (y :: B) ++ T)) := Lib.hid (by
              have h1 := (World.ownsRow.stored (show (wr.drewN (nq + 1)).ownsRow base 24 1 (.slice (some ⟨g, 0, none⟩) n cap) n (idL (A' ++ [y] ++ x :: B ++ T)) from HRQ.out) (m + 1) (.int .u32 y)).1
              have h2 := (World.ownsRow.stored h1 m (.int .u32 x)).1
              have e : ((idL (A' ++ [y] ++ x :: B ++ T)).set (m + 1) (.int .u32 y)).set m (.int .u32 x) = idL (A' ++ x :: (y :: B) ++ T) := by
                rw [show A' ++ [y] ++ x :: B ++ T = A' ++ y :: x :: (B ++ T) by simp, show A' ++ x :: (y :: B) ++ T = A' ++ x :: y :: (B ++ T) by simp, idL_mid, idL_mid, ← HM.out, ← idL_len A']
                exact swap_list _ _ _ _
              rw [e] at h2
              exact h2)
            have HGR1 : Hid (W.grownBy (((wr.drewN (nq + 1)).setCell ⟨g, m + 1, none⟩ (.int .u32 y)).setCell ⟨g, m, none⟩ (.int .u32 x)) (some g)) := Lib.hid (grown_set (grown_set (grown_drewN' HGRQ.out _)))
            go_wp2_with fail
            go_roundg m
            case measure => rw [HJ.out, List.length_append]; have := HM.out; simp; omega
            case rel => exact ⟨A', y :: B, HM.out.symm, by rw [HM.out], by rw [← HAB.out]; simp, fun b hb => by
              rcases List.mem_cons.1 hb with rfl | hb
              · exact HXY.out
              · exact HBB.out b hb, HS1.out, HGR1.out⟩
          · have hlt2 : ¬ x < y := fun h => hxy (key_lt.2 h)
            rw [decide_eq_false hlt2] at HCMP
            have HXY := Lib.hid hxy
            clear hxy hlt2
            have HE := Lib.hid (HOS.out (A' ++ [y]) B HAB.out HBB.out (.inr ⟨A', y, rfl, Int.not_lt.1 HXY.out⟩))
            go_wp2_with fail
            go_quiet ((go_at_call 70; refine Calls.quiet_of_same (HCMP.out _)))
            go_wp2_with fail
            go_roundg (n - (k + 1))
            case measure => rw [HKK.out]; omega
            case rel => exact ⟨k + 1, by omega, by omega, rfl, by go_num, by rw [HTD.out, HE.out]; exact HRQ.out, grown_drewN' HGRQ.out _⟩
    · obtain rfl : k = n := by omega
      have HE : Hid (ord key (names.take k) ++ names.drop k = ord key names) := Lib.hid (by have := HN.out; rw [← this, List.take_length, List.drop_length, List.append_nil])
      go_wp2_with fail
      exact bodyPost_end (results_none rfl _ _ _) rfl ⟨rfl, by rw [← HE.out]; exact HR.out, HGR.out⟩
end Go.Proofs.Ytijdkgklajdbnaa
