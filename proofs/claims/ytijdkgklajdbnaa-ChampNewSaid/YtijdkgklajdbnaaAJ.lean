/- How many lists have each number: a map. -/
import Derived.Test.YtijdkgklajdbnaaAI
import Derived.Maps.OwnOps
import Derived.Maps.RangeWalk
import Derived.Maps.Views
import Derived.Maps.OwnSet
import Derived.Maps.OwnIn
import Derived.DeepKeys4
namespace Go.Proofs.Ytijdkgklajdbnaa
open Go.RowKit
open Go.Maps
theorem law24 : Keyed Try.prog 24 := int_keyed Try.underlying24
theorem wf24 {x : Id} (h : IdOk x) : (Lit.int .u32 x).wf = true := by
  show (decide (IntKind.u32.min ≤ x) && decide (x ≤ IntKind.u32.max)) = true
  rw [Bool.and_eq_true, decide_eq_true_eq, decide_eq_true_eq]
  exact ⟨h.1, h.2⟩
theorem wf3 {n : Nat} (h : n ≤ 10000000) : (Lit.int .i64 (n : Int)).wf = true := by
  show (decide (IntKind.i64.min ≤ (n : Int)) && decide ((n : Int) ≤ IntKind.i64.max)) = true
  rw [Bool.and_eq_true, decide_eq_true_eq, decide_eq_true_eq]
  exact ⟨Int.le_trans (by decide) (Int.natCast_nonneg n), Int.le_trans (show (n : Int) ≤ 10000000 by omega) (by decide)⟩
/-- a map of numbers, as a function -/
def CMap (D : DataW Unit) (f : Id → Nat) : Prop := IsMap D ∧ ∀ x, D.atKey (.int .u32 x) (.lit (.int .i64 0)) = .lit (.int .i64 (f x : Nat)) ∧ Maps.has D (.int .u32 x) = decide (0 < f x)
theorem CMap.nil : CMap (.map []) (fun _ => 0) := ⟨isMap_empty, fun _ => ⟨rfl, rfl⟩⟩
theorem CMap.put {D : DataW Unit} {f g : Id → Nat} (h : CMap D f) {x : Id} (hg : ∀ y, g y = f y + if y = x then 1 else 0) : CMap (D.put (.int .u32 x) (.lit (.int .i64 ((f x + 1 : Nat) : Int)))) g := by
  refine ⟨h.1.put _ _, fun y => ?_⟩
  by_cases e : y = x
  · subst e
    rw [hg, if_pos rfl]
    exact ⟨atKey_put_same h.1 (show WideAt.IsKeyLit (.int .u32 y) from trivial) _ _, by rw [has_put_same h.1 (show WideAt.IsKeyLit (.int .u32 y) from trivial)]; simp⟩
  · rw [hg, if_neg e]
    have hne : (Lit.int IntKind.u32 y) ≠ .int .u32 x := fun q => e (by injection q)
    exact ⟨by rw [atKey_put_other hne]; exact (h.2 y).1, by rw [has_put_other hne]; exact (h.2 y).2⟩
def cntF (l : List Id) (x : Id) : Nat := l.count x
theorem cntF_snoc (l : List Id) (x y : Id) : cntF (l ++ [x]) y = cntF l y + if y = x then 1 else 0 := by
  unfold cntF
  rw [List.count_append, List.count_singleton]
  by_cases e : y = x
  · simp [e]
  · simp [e, Ne.symm e]
theorem cntF_le (l : List Id) (x : Id) : cntF l x ≤ l.length := List.count_le_length
theorem flat_take {L : List (List Id)} {k : Nat} {l : List Id} (h : L[k]? = some l) : (L.take (k + 1)).flatten = (L.take k).flatten ++ l := by
  rw [List.take_add_one, h]
  simp
theorem take_snoc {l : List Id} {k : Nat} {x : Id} (h : l[k]? = some x) : l.take (k + 1) = l.take k ++ [x] := by
  rw [List.take_add_one, h]
  rfl
theorem flat_len2 : ∀ (L : List (List Id)), (∀ l ∈ L, l.length ≤ 1000) → L.flatten.length ≤ L.length * 1000
  | [], _ => by simp
  | l :: L, h => by
    have h1 := flat_len2 L (fun x hx => h x (List.mem_cons_of_mem _ hx))
    have h3 := h l (List.mem_cons_self ..)
    rw [List.flatten_cons, List.length_append, List.length_cons]
    omega
def Cnts (w : World) (b : Nat) (f : Id → Nat) : Prop := ∃ n D, n ≤ 1000000 ∧ CMap D f ∧ w.ownsMap Try.prog 24 (plainElem Try.prog 3) b n D
theorem Cnts.below {w w' : World} {b : Nat} {f : Id → Nat} (h : Cnts w b f) (hb : Below w.heap.size w w') : Cnts w' b f := by
  obtain ⟨n, D, h1, h2, h3⟩ := h
  exact ⟨n, D, h1, h2, h3.kept (grown_of_below hb) (by simp)⟩
set_option maxRecDepth 100000 in
set_option maxHeartbeats 2000000 in
theorem counts28 {A : Option Addr} {c : Nat} {ls : List Lst} {w : World} (h : Ls w A ls) (hn : ls.length ≤ 1000) (hm : ∀ x ∈ ls, x.l.length ≤ 1000) (hid : ∀ x ∈ ls, ∀ y ∈ x.l, IdOk y) :
    Calls Try.prog 28 #[.slice A ls.length c] w fun e w' => ∃ b, e = .returned (.map (some b)) ∧ Cnts w' b (cntF (ids ls).flatten) ∧ w.heap.size ≤ b ∧ Below w.heap.size w w' := by
  have H := Lib.hid h
  have HM := Lib.hid hm
  have HID := Lib.hid hid
  have hml : ∀ l ∈ ids ls, l.length ≤ 1000 := fun l hl => by
    obtain ⟨x, hx, rfl⟩ := List.mem_map.1 hl
    exact hm x hx
  have HNL : Hid (∀ k, ((ids ls).take k).flatten.length ≤ k * 1000) := Lib.hid (fun k => by
    have := flat_len2 ((ids ls).take k) (fun l hl => hml l (List.mem_of_mem_take hl))
    rw [List.length_take] at this
    have e : min k (ids ls).length ≤ k := Nat.min_le_left _ _
    have e2 := Nat.mul_le_mul_right 1000 e
    omega)
  have HST : Hid (∀ (k : Nat) (l : List Id), (ids ls)[k]? = some l → ((ids ls).take (k + 1)).flatten = ((ids ls).take k).flatten ++ l) := Lib.hid (fun k l h => flat_take h)
  have HEND : Hid (((ids ls).take ls.length).flatten = (ids ls).flatten) := Lib.hid (by rw [← ids_len ls, List.take_length])
  have HN0 : Hid (((ids ls).take 0).flatten = []) := Lib.hid (by simp)
  have hfin := HNL.out ls.length
  rw [HEND.out] at hfin
  generalize (ids ls).flatten = R at *
  have hmm := @run_makeMap Try.prog
  clear h hm hml hid
  go_enter Try.func28, Try.ntmps28
  go_wp2_with fail
  have HM0 : Hid ((w.alloc (.map #[] 0)).ownsMap Try.prog 24 (plainElem Try.prog 3) w.heap.size 0 (DataW.map [] : DataW Unit)) := Lib.hid (World.ownsMap_made w Try.prog 24 (plainElem Try.prog 3))
  clear hmm
  go_loopg [11] ls.length (fun gk i wr => ∃ (k : Nat) (D : DataW Unit), k ≤ ls.length ∧ gk = ls.length - k ∧ i = .int .i64 k ∧ CMap D (cntF ((ids ls).take k).flatten) ∧ wr.ownsMap Try.prog 24 (plainElem Try.prog 3) w.heap.size ((ids ls).take k).flatten.length D ∧ Below w.heap.size w wr)
  case atStart => exact ⟨0, .map [], Nat.zero_le _, rfl, rfl, by rw [HN0.out]; exact CMap.nil, by rw [HN0.out]; exact HM0.out, (Below.refl _ _).alloc (Nat.le_refl _) _⟩
  case round =>
    obtain ⟨k, D, hk, hgk, rfl, hcm, hmap, hb⟩ := hrel
    have HK := Lib.hid hgk
    have HCM := Lib.hid hcm
    have HMP := Lib.hid hmap
    have HB := Lib.hid hb
    clear hgk hcm hmap hb
    have hk0 : (0 : Int) ≤ (k : Int) := by omega
    by_cases hlt : k < ls.length
    · obtain ⟨x, hx⟩ : ∃ x, ls[k]? = some x := ⟨_, List.getElem?_eq_getElem hlt⟩
      obtain ⟨b, o, rfl, _, c1, _, _⟩ := (H.out.below HB.out).get hx
      have HLI : Hid (∀ W, Below w.heap.size w W → Ids W x.A x.l) := Lib.hid (fun W hW => by
        obtain ⟨_, _, _, _, _, h2, _⟩ := (H.out.below hW).get hx
        exact h2)
      have HSK := Lib.hid (HST.out k x.l (ids_get hx))
      have HIX := Lib.hid (HID.out x (List.mem_of_getElem? hx))
      have hln := HM.out x (List.mem_of_getElem? hx)
      have hnl := HNL.out k
      obtain ⟨lA, lc, l⟩ := x
      simp only at *
      generalize ((ids ls).take k).flatten = F0 at *
      have HF0 : Hid (F0 ++ l.take 0 = F0) := Lib.hid (by simp)
      have HFE : Hid (F0 ++ l.take l.length = F0 ++ l) := Lib.hid (by rw [List.take_length])
      have hk1 : (k : Int) < (ls.length : Int) := by omega
      clear hx
      go_wp2_with fail
      clear c1
      go_loopg [17] l.length (fun gj j wq => ∃ (m : Nat) (D : DataW Unit), m ≤ l.length ∧ gj = l.length - m ∧ j = .int .i64 m ∧ CMap D (cntF (F0 ++ l.take m)) ∧ wq.ownsMap Try.prog 24 (plainElem Try.prog 3) w.heap.size (F0 ++ l.take m).length D ∧ Below w.heap.size w wq)
      case atStart => exact ⟨0, D, Nat.zero_le _, rfl, rfl, by rw [HF0.out]; exact HCM.out, by rw [HF0.out]; exact HMP.out, HB.out⟩
      case round =>
        obtain ⟨m, D2, hm, hgm, rfl, hcm, hmap, hb⟩ := hrel
        have HMM := Lib.hid hgm
        have HCM2 := Lib.hid hcm
        have HMP2 := Lib.hid hmap
        have HB2 := Lib.hid hb
        clear hgm hcm hmap hb HCM HMP HB
        have hm0 : (0 : Int) ≤ (m : Int) := by omega
        by_cases hltm : m < l.length
        · obtain ⟨y, hy⟩ : ∃ y, l[m]? = some y := ⟨_, List.getElem?_eq_getElem hltm⟩
          obtain ⟨lb, lo, rfl, _, hcc⟩ := (HLI.out wr HB2.out).get hy
          have HTS : Hid (F0 ++ l.take (m + 1) = (F0 ++ l.take m) ++ [y]) := Lib.hid (by rw [take_snoc hy, List.append_assoc])
          have HYO := Lib.hid (HIX.out y (List.mem_of_getElem? hy))
          have hfl : (F0 ++ l.take m).length ≤ 1000000 := by
            rw [List.length_append, List.length_take]
            omega
          generalize F0 ++ l.take m = F at *
          have HAT := Lib.hid ((HCM2.out.2 y).1)
          have hcf := cntF_le F y
          have HKEY : Hid (keyOf Try.prog 24 (.int .u32 y) = some (.int .u32 y)) := Lib.hid (keyOf_int_mk Try.underlying24 (wf24 HYO.out))
          have HNX : Hid (∀ d, d = cntF F y → CMap (D2.put (.int .u32 y) (.lit (.int .i64 ((d + 1 : Nat) : Int)))) (cntF (F ++ [y]))) := Lib.hid (fun d hd => by rw [hd]; exact HCM2.out.put (fun z => cntF_snoc F y z))
          obtain ⟨d, hd⟩ : ∃ d, cntF F y = d := ⟨_, rfl⟩
          have HD := Lib.hid hd
          rw [hd] at HAT hcf
          have HW1 : Hid ((Lit.int .i64 ((d + 1 : Nat) : Int)).wf = true) := Lib.hid (wf3 (by omega))
          have hm1 : (m : Int) < (l.length : Int) := by omega
          have hdi : ((d + 1 : Nat) : Int) = (d : Int) + 1 := by omega
          obtain ⟨N, hN⟩ : ∃ N, F.length = N := ⟨_, rfl⟩
          have HNN := Lib.hid hN
          rw [hN] at HMP2 hcf hfl
          clear hy hd hN
          go_wp2_with (first
            | (at_lookup; refine wpList_lookup_own_int _ rfl _ _ 49 rfl 24 3 .i64 law24 Try.underlying49 Try.underlying3 (Try.zeroValue3 _) w.heap.size _ _ rfl HMP2.out _ _ rfl HKEY.out ?_; intro c hat hwc; obtain rfl : c = (d : Int) := by (have := hat.symm.trans HAT.out; simpa using this))
            | (at_mapUpdate; refine wpList_mapUpdate_own _ rfl _ _ _ 49 rfl 24 3 law24 Try.underlying49 _ w.heap.size N _ rfl HMP2.out (by simp only [maxLen]; omega) _ _ _ rfl rfl HKEY.out (.lit (.int .i64 ((d + 1 : Nat) : Int))) [] (by rw [← hdi]; exact plainElem_int Try.underlying3 HW1.out) ?_; intro w1 hown1 hgrow1; have HN1 := Lib.hid hown1; have HG1 := Lib.hid hgrow1; clear hown1 hgrow1))
          go_wp2_with fail
          go_roundg (l.length - (m + 1))
          case measure => rw [HMM.out]; omega
          case rel => exact ⟨m + 1, _, by omega, rfl, by go_num, by rw [HTS.out]; exact HNX.out d HD.out.symm, by rw [HTS.out, List.length_append, HNN.out]; exact HN1.out, HB2.out.grown HG1.out HB2.out.size (fun j e => by cases e; exact Nat.le_refl _)⟩
        · obtain rfl : m = l.length := by omega
          rw [HFE.out] at HCM2 HMP2
          go_wp2_with fail
          go_roundg (ls.length - (k + 1))
          case measure => rw [HK.out]; omega
          case rel => exact ⟨k + 1, D2, by omega, rfl, by go_num, by rw [HSK.out]; exact HCM2.out, by rw [HSK.out]; exact HMP2.out, HB2.out⟩
    · obtain rfl : k = ls.length := by omega
      rw [HEND.out] at HCM HMP
      go_wp2_with fail
      go_ret
      exact ⟨w.heap.size, rfl, ⟨R.length, D, by omega, HCM.out, HMP.out⟩, Nat.le_refl _, HB.out⟩
end Go.Proofs.Ytijdkgklajdbnaa
