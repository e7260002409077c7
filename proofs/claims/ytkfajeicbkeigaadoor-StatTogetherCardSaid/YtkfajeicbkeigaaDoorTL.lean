/- The walk over the library's insertion sort, of names by what each gains: the loops. -/
import Derived.Test.YtkfajeicbkeigaaDoorTK
namespace Go.Proofs.YtkfajeicbkeigaaDoor
open Go.RowKit Go.Maps
def strV (l : List Nm) : List Value := l.map fun s => .string (str s)
theorem strV_len (l : List Nm) : (strV l).length = l.length := by simp [strV]
theorem swap_list {α : Type} (P Q : List α) (a b : α) : ((P ++ a :: b :: Q).set (P.length + 1) a).set P.length b = P ++ b :: a :: Q := by
  rw [List.set_append_right _ _ (by omega), show P.length + 1 - P.length = 1 by omega, List.set_append_right _ _ (Nat.le_refl _), Nat.sub_self]
  rfl
theorem strV_mid (P Q : List Nm) (a b : Nm) : strV (P ++ a :: b :: Q) = strV P ++ .string (str a) :: .string (str b) :: strV Q := by simp [strV]
theorem take_one (l : List Nm) (h : 0 < l.length) (key : Nm → Int) : ord key (l.take 1) ++ l.drop 1 = l := by
  match l, h with
  | x :: r, _ => simp [ord, ins]
theorem grown_drewN {W V : World} {r : Option Nat} (h : W.grownBy V r) (n : Nat) : W.grownBy (V.drewN n) r := ⟨h.os, h.tape, h.output, h.size, h.block⟩
theorem grown_set {W V : World} {g i : Nat} {v : Value} (h : W.grownBy V (some g)) : W.grownBy (V.setCell ⟨g, i, none⟩ v) (some g) :=
  ⟨h.os, h.tape, h.output, by simpa using h.size, fun k hk hne => by rw [heap_setCell_other _ _ _ _ (fun e => hne (by rw [e]))]; exact h.block k hk hne⟩
def SRow (W : World) (base g cap n : Nat) (l : List Nm) : Prop := W.ownsRow base 9 1 (.slice (some ⟨g, 0, none⟩) n cap) n (strV l)
theorem SRow.get {W : World} {base g cap n : Nat} {l : List Nm} (h : SRow W base g cap n l) {j : Nat} {s : Nm} (hj : l[j]? = some s) (hn : l.length = n) : W.cell? ⟨g, j, none⟩ = some (.string (str s)) := by
  have hlt := (List.getElem?_eq_some_iff.1 hj).1
  have := World.ownsRow.cellAt h j (by omega)
  rw [this]
  simp [strV, hj]
set_option maxRecDepth 100000 in
set_option maxHeartbeats 8000000 in
theorem sort63 {W : World} {base g cap gb gm : Nat} {key : Nm → Int} {names : List Nm} (h : SRow W base g cap names.length names) (hG : Gains W gb gm key names) (hk : Small key names) (h1 : g ≠ gb) (h2 : g ≠ gm) (hn : names.length ≤ 10) (hn1 : 1 ≤ names.length) :
    Calls Tryd.prog 63 #[.slice (some ⟨g, 0, none⟩) names.length cap, .int .i64 0, .int .i64 names.length, .func (.func 50) #[] #[.pointer (some ⟨gb, 0, none⟩)]] W fun e w' => e = .returned (.tuple #[]) ∧ SRow w' base g cap names.length (ord key names) ∧ W.grownBy w' (some g) := by
  have H := Lib.hid h
  have HG := Lib.hid hG
  have HK := Lib.hid hk
  have HNE := Lib.hid (And.intro h1 h2)
  have H0 : Hid (ord key (names.take 1) ++ names.drop 1 = names) := Lib.hid (take_one names hn1 key)
  clear h hG hk h1 h2
  obtain ⟨n, hnn⟩ : ∃ n, names.length = n := ⟨_, rfl⟩
  have HN := Lib.hid hnn
  rw [hnn] at H hn hn1 ⊢
  clear hnn
  go_enter Tryd.func63, Tryd.ntmps63
  go_wp2_with fail
  go_loopg [8] (n - 1) (fun gk i wr => ∃ k : Nat, 1 ≤ k ∧ k ≤ n ∧ gk = n - k ∧ i = .int .i64 k ∧ SRow wr base g cap n (ord key (names.take k) ++ names.drop k) ∧ Gains wr gb gm key names ∧ W.grownBy wr (some g))
  case atStart => exact ⟨1, Nat.le_refl _, hn1, rfl, rfl, by rw [H0.out]; exact H.out, HG.out, World.grownBy.refl _ _⟩
  case round =>
    obtain ⟨k, hk1, hk, hgk, rfl, hrow, hga, hgr⟩ := hrel
    have HKK := Lib.hid hgk
    have HR := Lib.hid hrow
    have HGA := Lib.hid hga
    have HGR := Lib.hid hgr
    clear hgk hrow hga hgr
    by_cases hlt : k < n
    · obtain ⟨x, hx⟩ : ∃ x, names[k]? = some x := ⟨names[k]'(by rw [HN.out]; exact hlt), by simp⟩
      have HX := Lib.hid (List.mem_of_getElem? hx)
      have HT : Hid (names.take (k + 1) = names.take k ++ [x]) := Lib.hid (by rw [List.take_add_one, hx]; rfl)
      have HD : Hid (names.drop k = x :: names.drop (k + 1)) := Lib.hid (by
        have hl : k < names.length := by rw [HN.out]; exact hlt
        rw [List.drop_eq_getElem_cons hl]
        congr 1
        rw [List.getElem?_eq_getElem hl] at hx
        exact Option.some.inj hx)
      have HOL : Hid ((ord key (names.take k)).length = k) := Lib.hid (by rw [ord_len, List.length_take]; have := HN.out; omega)
      have HOM : Hid (∀ y ∈ ord key (names.take k), y ∈ names) := Lib.hid (fun y hy => List.mem_of_mem_take (ord_mem.1 hy))
      have HDL : Hid ((names.drop (k + 1)).length = n - (k + 1)) := Lib.hid (by rw [List.length_drop, HN.out])
      have HOS : Hid (∀ A B, A ++ B = ord key (names.take k) → (∀ b ∈ B, key b < key x) → (A = [] ∨ ∃ A' y, A = A' ++ [y] ∧ ¬ key y < key x) → ord key (names.take (k + 1)) ++ names.drop (k + 1) = A ++ x :: B ++ names.drop (k + 1)) := Lib.hid (fun A B e hb ha => by rw [HT.out, ord_snoc, ← e, ins_at hb ha])
      have HR0 : Hid (SRow wr base g cap n (ord key (names.take k) ++ x :: [] ++ names.drop (k + 1))) := Lib.hid (by have := HR.out; rw [HD.out] at this; simpa using this)
      clear hx
      generalize ord key (names.take k) = O at *
      generalize hTT : names.drop (k + 1) = T at *
      have HTD := Lib.hid hTT
      clear hTT
      go_wp2_with fail
      go_loopg [9] k (fun gj j wQ => ∃ A B : List Nm, gj = A.length ∧ j = .int .i64 (A.length : Nat) ∧ A ++ B = O ∧ (∀ b ∈ B, key b < key x) ∧ SRow wQ base g cap n (A ++ x :: B ++ T) ∧ Gains wQ gb gm key names ∧ W.grownBy wQ (some g))
      case atStart => exact ⟨O, [], HOL.out.symm, by rw [HOL.out], List.append_nil O, (fun b hb => by cases hb), HR0.out, HGA.out, HGR.out⟩
      case round =>
        obtain ⟨A, B, hgj, rfl, hAB, hB, hrow, hga, hgr⟩ := hrel
        have HJ := Lib.hid hgj
        have HAB := Lib.hid hAB
        have HBB := Lib.hid hB
        have HRQ := Lib.hid hrow
        have HGQ := Lib.hid hga
        have HGRQ := Lib.hid hgr
        have HLEN : Hid ((A ++ x :: B ++ T).length = n) := Lib.hid (by
          have e := congrArg List.length hAB
          rw [List.length_append, HOL.out] at e
          simp only [List.length_append, List.length_cons, HDL.out]
          omega)
        have hAk : A.length ≤ k := by
          have e := congrArg List.length hAB
          rw [List.length_append, HOL.out] at e
          omega
        clear hgj hAB hB hrow hga hgr
        rcases List.eq_nil_or_concat A with hA | ⟨A', y, hA⟩
        · subst hA
          have HE := Lib.hid (HOS.out [] B HAB.out HBB.out (.inl rfl))
          go_wp2_with fail
          go_quiet (fail)
          go_wp2_with fail
          go_roundg (n - (k + 1))
          case measure => rw [HKK.out]; omega
          case rel => exact ⟨k + 1, by omega, by omega, rfl, by go_num, by rw [HTD.out, HE.out]; exact HRQ.out, HGQ.out, grown_drewN HGRQ.out _⟩
        · rw [List.concat_eq_append] at hA
          subst hA
          have hl1 : (A' ++ [y]).length = A'.length + 1 := by simp
          have HYM : Hid (y ∈ names) := Lib.hid (HOM.out y (by rw [← HAB.out]; simp))
          have cj : wr.cell? ⟨g, A'.length + 1, none⟩ = some (.string (str x)) := HRQ.out.get (by simp) HLEN.out
          have ci : wr.cell? ⟨g, A'.length, none⟩ = some (.string (str y)) := HRQ.out.get (by simp) HLEN.out
          have HCMP : Hid (∀ nq, Calls Tryd.prog 50 #[.string (str x), .string (str y), .pointer (some ⟨gb, 0, none⟩)] (wr.drewN nq) fun e w' => e = .returned (.int .i64 (key y - key x)) ∧ w' = wr.drewN nq) := Lib.hid (fun nq => cmp50 (HGQ.out.drewN nq) HK.out HX.out HYM.out)
          have fj : wr.frozen? ⟨g, A'.length + 1, none⟩ = false := World.ownsRow.frozenAt HRQ.out _
          have fi : wr.frozen? ⟨g, A'.length, none⟩ = false := World.ownsRow.frozenAt HRQ.out _
          rw [hl1] at hAk ⊢
          have hj0 : (0 : Int) < (A'.length : Int) + 1 := by omega
          have hs1 : IntKind.i64.wrap ((A'.length : Int) + 1 - 1) = (A'.length : Int) := IntWalk.i64_in _ (by omega) |>.trans (by omega)
          obtain ⟨m, hm⟩ : ∃ m, A'.length = m := ⟨_, rfl⟩
          have HM := Lib.hid hm
          rw [hm] at cj ci fj fi hj0 hs1 hAk ⊢
          have hmn : m + 1 < n := by omega
          clear hl1 hm
          have hcast : ((m + 1 : Nat) : Int) = (m : Int) + 1 := by omega
          have HCMP2 := HCMP
          by_cases hxy : key y < key x
          · have hlt2 : key y - key x < 0 := by omega
            have HXY := Lib.hid hxy
            clear hxy HCMP2
            go_wp2_with fail
            go_quiet ((go_at_call 50; refine Calls.quiet_of_same (HCMP.out _)))
            go_wp2_with fail
            refine via ?_
            apply Exists.intro
            apply Exists.intro
            refine ⟨?_, ?_⟩
            · go_region
              all_goals exact ⟨rfl, rfl⟩
            have HS1 : Hid (SRow (((wr.drewN (nq + 1)).setCell ⟨g, m + 1, none⟩ (.string (str y))).setCell ⟨g, m, none⟩ (.string (str x))) base g cap n (A' ++ x :: (y :: B) ++ T)) := Lib.hid (by
              have h1 := (World.ownsRow.stored (show (wr.drewN (nq + 1)).ownsRow base 9 1 (.slice (some ⟨g, 0, none⟩) n cap) n (strV (A' ++ [y] ++ x :: B ++ T)) from HRQ.out) (m + 1) (.string (str y))).1
              have h2 := (World.ownsRow.stored h1 m (.string (str x))).1
              have e : ((strV (A' ++ [y] ++ x :: B ++ T)).set (m + 1) (.string (str y))).set m (.string (str x)) = strV (A' ++ x :: (y :: B) ++ T) := by
                rw [show A' ++ [y] ++ x :: B ++ T = A' ++ y :: x :: (B ++ T) by simp, show A' ++ x :: (y :: B) ++ T = A' ++ x :: y :: (B ++ T) by simp, strV_mid, strV_mid, ← HM.out, ← strV_len A']
                exact swap_list _ _ _ _
              rw [e] at h2
              exact h2)
            have HG1 : Hid (Gains (((wr.drewN (nq + 1)).setCell ⟨g, m + 1, none⟩ (.string (str y))).setCell ⟨g, m, none⟩ (.string (str x))) gb gm key names) := Lib.hid (((HGQ.out.drewN _).set HNE.out.1 HNE.out.2).set HNE.out.1 HNE.out.2)
            have HGR1 : Hid (W.grownBy (((wr.drewN (nq + 1)).setCell ⟨g, m + 1, none⟩ (.string (str y))).setCell ⟨g, m, none⟩ (.string (str x))) (some g)) := Lib.hid (grown_set (grown_set (grown_drewN HGRQ.out _)))
            go_wp2_with fail
            go_roundg m
            case measure => rw [HJ.out, List.length_append]; have := HM.out; simp; omega
            case rel => exact ⟨A', y :: B, HM.out.symm, by rw [HM.out], by rw [← HAB.out]; simp, fun b hb => by
              rcases List.mem_cons.1 hb with rfl | hb
              · exact HXY.out
              · exact HBB.out b hb, HS1.out, HG1.out, HGR1.out⟩
          · have hlt2 : ¬ key y - key x < 0 := by omega
            have HXY := Lib.hid hxy
            clear hxy HCMP2
            have HE := Lib.hid (HOS.out (A' ++ [y]) B HAB.out HBB.out (.inr ⟨A', y, rfl, Int.not_lt.1 HXY.out⟩))
            go_wp2_with fail
            go_quiet ((go_at_call 50; refine Calls.quiet_of_same (HCMP.out _)))
            go_wp2_with fail
            go_roundg (n - (k + 1))
            case measure => rw [HKK.out]; omega
            case rel => exact ⟨k + 1, by omega, by omega, rfl, by go_num, by rw [HTD.out, HE.out]; exact HRQ.out, HGQ.out, grown_drewN HGRQ.out _⟩
    · obtain rfl : k = n := by omega
      have HE : Hid (ord key (names.take k) ++ names.drop k = ord key names) := Lib.hid (by have := HN.out; rw [← this, List.take_length, List.drop_length, List.append_nil])
      go_wp2_with fail
      exact bodyPost_end (results_none rfl _ _ _) rfl ⟨rfl, by rw [← HE.out]; exact HR.out, HGR.out⟩
end Go.Proofs.YtkfajeicbkeigaaDoor
