/- All numbers of lists; the best of some. -/
import Derived.Test.YtijdkgklajdbnaaAF
namespace Go.Proofs.Ytijdkgklajdbnaa
open Go.RowKit
def allS (a : List Id) (x : Id) : List Id := if x ∈ a then a else a ++ [x]
def allL (a : List Id) (l : List Id) : List Id := l.foldl allS a
def allN (L : List (List Id)) : List Id := L.foldl allL []
theorem allL_step {a l : List Id} {k : Nat} {x : Id} (h : l[k]? = some x) : allL a (l.take (k + 1)) = allS (allL a (l.take k)) x := by
  rw [List.take_add_one, h]
  simp [allL, List.foldl_append]
theorem allN_step {L : List (List Id)} {k : Nat} {l : List Id} (h : L[k]? = some l) : allN (L.take (k + 1)) = allL (allN (L.take k)) l := by
  rw [List.take_add_one, h]
  simp [allN, List.foldl_append]
theorem allS_len (a : List Id) (x : Id) : (allS a x).length ≤ a.length + 1 := by
  unfold allS
  split
  · omega
  · simp
theorem allL_len : ∀ (l a : List Id), (allL a l).length ≤ a.length + l.length
  | [], a => Nat.le_refl _
  | x :: l, a => by
    have h1 := allL_len l (allS a x)
    have h2 := allS_len a x
    show (allL (allS a x) l).length ≤ _
    rw [List.length_cons]
    omega
theorem allN_len : ∀ (L : List (List Id)) (a : List Id), (∀ l ∈ L, l.length ≤ 1000) → (L.foldl allL a).length ≤ a.length + L.length * 1000
  | [], a, _ => by simp
  | l :: L, a, h => by
    have h1 := allN_len L (allL a l) (fun x hx => h x (List.mem_cons_of_mem _ hx))
    have h2 := allL_len l a
    have h3 := h l (List.mem_cons_self ..)
    rw [List.foldl_cons, List.length_cons]
    omega
theorem idL_snoc (a : List Id) (x : Id) : idL (a ++ [x]) = idL a ++ [.int .u32 x] := by simp [idL]
set_option maxRecDepth 100000 in
set_option maxHeartbeats 2000000 in
theorem all35 {A : Option Addr} {c : Nat} {ls : List Lst} {w : World} (h : Ls w A ls) (hn : ls.length ≤ 1000) (hm : ∀ x ∈ ls, x.l.length ≤ 1000) :
    Calls Try.prog 35 #[.slice A ls.length c] w fun e w' => ∃ B d, e = .returned (.slice B (allN (ids ls)).length d) ∧ Ids w' B (allN (ids ls)) ∧ (allN (ids ls)).length ≤ d ∧ (allN (ids ls)).length ≤ 1000000 ∧ Below w.heap.size w w' := by
  have H := Lib.hid h
  have HM := Lib.hid hm
  have hml : ∀ l ∈ ids ls, l.length ≤ 1000 := fun l hl => by
    obtain ⟨x, hx, rfl⟩ := List.mem_map.1 hl
    exact hm x hx
  have HNL : Hid (∀ k, (allN ((ids ls).take k)).length ≤ k * 1000) := Lib.hid (fun k => by
    have := allN_len ((ids ls).take k) [] (fun l hl => hml l (List.mem_of_mem_take hl))
    rw [List.length_take] at this
    have e : min k (ids ls).length ≤ k := Nat.min_le_left _ _
    have e2 := Nat.mul_le_mul_right 1000 e
    unfold allN
    simp only [List.length_nil] at this
    omega)
  have HST : Hid (∀ (k : Nat) (l : List Id), (ids ls)[k]? = some l → allN ((ids ls).take (k + 1)) = allL (allN ((ids ls).take k)) l) := Lib.hid (fun k l h => allN_step h)
  have HEND : Hid (allN ((ids ls).take ls.length) = allN (ids ls)) := Lib.hid (by rw [← ids_len ls, List.take_length])
  have HFIN : Hid ((allN (ids ls)).length ≤ 1000000) := Lib.hid (by
    have := HNL.out ls.length
    rw [HEND.out] at this
    omega)
  have HN0 : Hid (allN ((ids ls).take 0) = []) := Lib.hid rfl
  generalize allN (ids ls) = R at *
  obtain ⟨i0, hi, hz0, hz1, hz2⟩ := info_parts info24
  have I0 := Lib.hid hi
  have Z0 := Lib.hid hz0
  have S0 := Lib.hid hz1
  have Y0 := Lib.hid hz2
  clear h hm hml hi hz0 hz1 hz2
  go_enter Try.func35, Try.ntmps35
  go_wp2_with fail
  go_loopg [3, 4] ls.length (fun gk v i wr => ∃ k : Nat, k ≤ ls.length ∧ gk = ls.length - k ∧ i = .int .i64 k ∧ wr.ownsRow w.heap.size 24 1 v (allN ((ids ls).take k)).length (idL (allN ((ids ls).take k))) ∧ Below w.heap.size w wr)
  case atStart => exact ⟨0, Nat.zero_le _, rfl, rfl, by rw [HN0.out]; exact World.ownsRow_nil _ _ _ _, Below.refl _ _⟩
  case round =>
    obtain ⟨k, hk, hgk, rfl, hown, hb⟩ := hrel
    obtain ⟨VA, VC, rfl⟩ := own_slice hown
    have HK := Lib.hid hgk
    have HO := Lib.hid hown
    have HB := Lib.hid hb
    clear hgk hown hb
    have hk0 : (0 : Int) ≤ (k : Int) := by omega
    by_cases hlt : k < ls.length
    · obtain ⟨x, hx⟩ : ∃ x, ls[k]? = some x := ⟨_, List.getElem?_eq_getElem hlt⟩
      have HGX : Hid (∀ W, Below w.heap.size w W → ∃ b o, A = some ⟨b, o, none⟩ ∧ b < W.heap.size ∧ W.cell? ⟨b, o + k, none⟩ = some (.slice x.A x.l.length x.c) ∧ Ids W x.A x.l ∧ x.l.length ≤ x.c) := Lib.hid (fun W hb => (H.out.below hb).get hx)
      obtain ⟨b, o, hAe, _, _⟩ := HGX.out w (Below.refl _ _)
      subst hAe
      have HCX : Hid (∀ W, Below w.heap.size w W → W.cell? ⟨b, o + k, none⟩ = some (.slice x.A x.l.length x.c) ∧ Ids W x.A x.l) := Lib.hid (fun W hb => by
        obtain ⟨b', o', e, _, h1, h2, _⟩ := HGX.out W hb
        injection e with e
        injection e with e1 e2
        subst e1 e2
        exact ⟨h1, h2⟩)
      have HSK := Lib.hid (HST.out k x.l (ids_get hx))
      have hln := HM.out x (List.mem_of_getElem? hx)
      have hnl := HNL.out k
      obtain ⟨lA, lc, l⟩ := x
      simp only at *
      generalize allN ((ids ls).take k) = A0 at *
      have HAL : Hid (∀ m, (allL A0 (l.take m)).length ≤ 1000000) := Lib.hid (fun m => by
        have h1 := allL_len (l.take m) A0
        have h2 : (l.take m).length ≤ l.length := by rw [List.length_take]; omega
        omega)
      have HA0 : Hid (allL A0 (l.take 0) = A0) := Lib.hid rfl
      have HAE : Hid (allL A0 (l.take l.length) = allL A0 l) := Lib.hid (by rw [List.take_length])
      have hk1 : (k : Int) < (ls.length : Int) := by omega
      clear hx
      go_wp2_with fail
      go_loopg [3, 5] l.length (fun gj v j wq => ∃ m : Nat, m ≤ l.length ∧ gj = l.length - m ∧ j = .int .i64 m ∧ wq.ownsRow w.heap.size 24 1 v (allL A0 (l.take m)).length (idL (allL A0 (l.take m))) ∧ Below w.heap.size w wq)
      case atStart => exact ⟨0, Nat.zero_le _, rfl, rfl, by rw [HA0.out]; exact HO.out, HB.out⟩
      case round =>
        obtain ⟨m, hm, hgm, rfl, hown, hb⟩ := hrel
        obtain ⟨VA2, VC2, rfl⟩ := own_slice hown
        have HMM := Lib.hid hgm
        have HO2 := Lib.hid hown
        have HB2 := Lib.hid hb
        obtain ⟨c1, hli⟩ := HCX.out wr hb
        have HLI := Lib.hid hli
        have ham := HAL.out m
        clear hgm hown hb hli HO HB
        have hm0 : (0 : Int) ≤ (m : Int) := by omega
        by_cases hltm : m < l.length
        · obtain ⟨y, hy⟩ : ∃ y, l[m]? = some y := ⟨_, List.getElem?_eq_getElem hltm⟩
          obtain ⟨lb, lo, rfl, _, hcc⟩ := HLI.out.get hy
          have HST2 := Lib.hid (allL_step (a := A0) hy)
          have HOI : Hid (Ids wr VA2 (allL A0 (l.take m))) := Lib.hid (row_own HO2.out)
          generalize allL A0 (l.take m) = O at *
          have HC33 := Lib.hid (has33 (c := VC2) (x := y) HOI.out ham)
          have hm1 : (m : Int) < (l.length : Int) := by omega
          clear hy
          by_cases hin : y ∈ O
          · have HE : Hid (allL A0 (l.take (m + 1)) = O) := Lib.hid (by rw [HST2.out]; exact if_pos hin)
            rw [decide_eq_true hin] at HC33
            clear hin
            go_wp2_with fail
            refine Calls.mono HC33.out ?_
            rintro e w3 ⟨rfl, rfl⟩
            go_wp2_with fail
            go_roundg (l.length - (m + 1))
            case measure => rw [HMM.out]; omega
            case rel => exact ⟨m + 1, by omega, rfl, by go_num, by rw [HE.out]; exact HO2.out, HB2.out⟩
          · have HE : Hid (allL A0 (l.take (m + 1)) = O ++ [y]) := Lib.hid (by rw [HST2.out]; exact if_neg hin)
            rw [decide_eq_false hin] at HC33
            clear hin
            go_wp2_with fail
            refine Calls.mono HC33.out ?_
            rintro e w3 ⟨rfl, rfl⟩
            go_wp2_with (first
              | (at_builtin; refine wpList_append_own _ rfl (.tmp 31) (.tmp 39) _ rfl w.heap.size 24 i0 _ 1 4 Try.underlying30 I0.out Z0.out S0.out Y0.out rfl (by decide) _ O.length _ rfl (HO2.out.alloc _) _ 1 1 [.int .u32 y] rfl rfl (new1 _ _ _ _ rfl) (by simp [Value.oneCell']) (by unfold maxLen; omega) (by omega) (by have := HB2.out.size; simp; omega) ?_))
            intro v8 w8 hown8 hg8 _
            obtain ⟨V8, C8, rfl⟩ := own_slice hown8
            have HO8 := Lib.hid hown8
            have HB8 : Hid (Below w.heap.size w w8) := Lib.hid ((HB2.out.alloc HB2.out.size _).grown hg8 (by have := HB2.out.size; simp; omega) (fun j e => (HO2.out.lt j e).1))
            clear hown8 hg8
            go_wp2_with fail
            go_roundg (l.length - (m + 1))
            case measure => rw [HMM.out]; omega
            case rel => exact ⟨m + 1, by omega, rfl, by go_num, by rw [HE.out, idL_snoc, List.length_append]; exact HO8.out, HB8.out⟩
        · obtain rfl : m = l.length := by omega
          go_wp2_with fail
          go_roundg (ls.length - (k + 1))
          case measure => rw [HK.out]; omega
          case rel => exact ⟨k + 1, by omega, rfl, by go_num, by rw [HSK.out, ← HAE.out]; exact HO2.out, HB2.out⟩
    · obtain rfl : k = ls.length := by omega
      rw [HEND.out] at HO ⊢
      go_wp2_with fail
      go_ret
      exact ⟨VA, VC, rfl, row_own HO.out, own_cap HO.out, HFIN.out, HB.out⟩
end Go.Proofs.Ytijdkgklajdbnaa
