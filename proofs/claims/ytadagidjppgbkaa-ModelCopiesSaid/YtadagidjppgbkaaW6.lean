/- The walk over model.Run. -/
import Derived.Test.YtadagidjppgbkaaW5
namespace Go.Proofs.Ytadagidjppgbkaa
open Go.RowKit Go.Maps Go.Sort
def RunPost (cs : List CallT) (n : Nat) (w : World) (e : Ending) (w' : World) : Prop :=
  ∃ v g b s l B, e = .returned (.tuple #[v, .pointer (some ⟨g, 0, none⟩)]) ∧ l.length = n ∧ AwAt w g b s w' ∧ Sim s (runAt cs n) ∧ (∀ k, k ≤ n → ∃ s, Sim s (runAt cs k)) ∧ w'.ownsRow B 39 3 v n (repsL l) ∧ RepsOk w' B cs l ∧ w.heap.size ≤ B ∧ g < B ∧ b < B ∧ s.n ≤ n
theorem RepsOk.step {w w' : World} {B : Nat} {cs : List CallT} {l : List RepT} (h : RepsOk w B cs l) (hk : ∀ (n : Nat) (v : Value) (xs : List Value), w.ownsRow B 9 1 v n xs → w'.ownsRow B 9 1 v n xs) : RepsOk w' B cs l := fun i x hi => ⟨hk _ _ _ (h i x hi).1, (h i x hi).2⟩
theorem RepsOk.snoc {w : World} {B : Nat} {cs : List CallT} {l : List RepT} (h : RepsOk w B cs l) {x : RepT} {c : CallT} (hx : w.ownsRow B 9 1 x.v x.a.ks.length (x.a.ks.map encStr)) (hc : cs[l.length]? = some c) (ha : x.a = (runAt cs l.length).ans c.op c.nm c.da) : RepsOk w B cs (l ++ [x]) := by
  intro i y hy
  by_cases hi : i < l.length
  · rw [List.getElem?_append_left hi] at hy
    exact h i y hy
  · have : i = l.length := by
      have := (List.getElem?_eq_some_iff.1 hy).1
      simp at this; omega
    subst this
    simp at hy
    subst hy
    exact ⟨hx, c, hc, ha⟩
theorem row_turn' {w w' : World} {base n g b e size : Nat} {v : Value} {xs : List Value} (h : w.ownsRow base e size v n xs) (ht : Turn g b w w') (hg : g < base) (hb : b < base) : w'.ownsRow base e size v n xs := by
  rcases h.2 with h2 | ⟨r, c, cur, hv, hbr, hh, hrest⟩
  · exact ⟨h.1, .inl h2⟩
  · exact ⟨h.1, .inr ⟨r, c, cur, hv, hbr, (ht.block r (Array.getElem?_eq_some_iff.1 hh).1 (by omega) (by omega)).trans hh, hrest⟩⟩
theorem row_below' {w w' : World} {base n e size : Nat} {v : Value} {xs : List Value} (h : w.ownsRow base e size v n xs) (hb : Below w.heap.size w w') : w'.ownsRow base e size v n xs :=
  h.kept (row := none) ⟨hb.os, hb.tape, hb.output, hb.size, fun k hk _ => hb.block k hk⟩ (by cases v.ownBlock <;> simp)
theorem row_lower {w : World} {base base' n e size : Nat} {v : Value} {xs : List Value} (h : w.ownsRow base e size v n xs) (hb : base' ≤ base) : w.ownsRow base' e size v n xs := by
  rcases h.2 with h2 | ⟨r, c, cur, hv, hbr, hrest⟩
  · exact ⟨h.1, .inl h2⟩
  · exact ⟨h.1, .inr ⟨r, c, cur, hv, Nat.le_trans hb hbr, hrest⟩⟩
theorem row_ne2 {w w' : World} {base B n m : Nat} {v u : Value} {xs ys : List Value} (h : w.ownsRow B 9 1 v n xs) (ho : w.ownsRow base 39 3 u m ys) (hg : w.grownBy w' u.ownBlock) : w'.ownsRow B 9 1 v n xs := by
  rcases ho.2 with ⟨hu, _⟩ | ⟨r, c, cur, hu, _⟩
  · subst hu
    exact h.kept hg (by cases v.ownBlock <;> simp [Value.ownBlock])
  · subst hu
    exact row_ne h ho (by simpa [Value.ownBlock] using hg)
set_option maxRecDepth 100000 in
set_option maxHeartbeats 4000000 in
theorem run22 (A0 : Option Addr) (n c0 : Nat) (cs : List CallT) (w : World) (hl : Cls w w.heap.size A0 n cs) (hnc : n ≤ c0) (hn : n ≤ 1000) :
    Calls Try.prog 22 #[.slice A0 n c0] w (RunPost cs n w) := by
  obtain ⟨i0, hi, hz0, hz1, hz2⟩ := info_parts info39'
  have I0 := Lib.hid hi
  have Z0 := Lib.hid hz0
  have S0 := Lib.hid hz1
  have Y0 := Lib.hid hz2
  have HL := Lib.hid hl
  clear hl hi hz0 hz1 hz2
  go_enter Try.func22, Try.ntmps22
  go_wp2_with fail
  refine (new8 _).mono ?_
  rintro e w1 ⟨g, b, rfl, hb1, hg1, hb2, hm1⟩
  have HA1 : Hid (AwAt w g b st0 w1) := ⟨hm1, hb1, hg1, hb2⟩
  have HLT := Lib.hid hm1.lt
  clear hm1 hb1 hg1 hb2
  go_wp2_with fail
  go_loopg [5, 7, 11] n (fun gk v _ i wr => ∃ (k : Nat) (s : Md) (l : List RepT), k ≤ n ∧ gk = n - k ∧ i = .int .i64 k ∧ l.length = k ∧ wr.ownsRow w1.heap.size 39 3 v k (repsL l) ∧ AwAt w g b s wr ∧ Sim s (runAt cs k) ∧ s.n ≤ k ∧ RepsOk wr w1.heap.size cs l ∧ (∀ j, j ≤ k → ∃ s, Sim s (runAt cs j)) ∧ w1.heap.size ≤ wr.heap.size)
  case atStart => exact ⟨0, _, [], Nat.zero_le _, rfl, rfl, rfl, World.ownsRow_nil _ _ _ _, HA1.out, sim0, Nat.le_refl _, fun i x h => by simp at h, fun j hj => ⟨st0, by rw [Nat.le_zero.1 hj]; exact sim0⟩, Nat.le_refl _⟩
  case round =>
    obtain ⟨k, s, l, hk, hgk, rfl, hll, hrow, haw, hsim, hsn, hreps, hall, hsz⟩ := hrel
    have HK := Lib.hid hgk
    have HLL := Lib.hid hll
    have HROW := Lib.hid hrow
    have HAW := Lib.hid haw
    have HSIM := Lib.hid hsim
    have HSN := Lib.hid hsn
    have HREPS := Lib.hid hreps
    have HALL := Lib.hid hall
    have HSZ := Lib.hid hsz
    clear hgk hll hrow haw hsim hsn hreps hall hsz
    by_cases hlt : k < n
    · obtain ⟨x, hx⟩ : ∃ x, cs[k]? = some x := ⟨cs[k]'(by rw [HL.out.1]; exact hlt), by simp⟩
      obtain ⟨z1, z2⟩ := HL.out.2.1 x (List.mem_of_getElem? hx)
      obtain ⟨bb, o, rfl, hbb, hcc⟩ := (HL.out.below HAW.out.2.1).2.2 (by omega)
      obtain ⟨a0, a1, a2⟩ := hcc k x hx
      have HX := Lib.hid hx
      clear hcc hx
      obtain ⟨op, nm, da⟩ := x
      simp only at *
      have HB2 : Hid (Below wr.heap.size wr (wr.alloc (.cells #[.int .i64 op, .string nm, .string da] 30))) := (Below.refl _ _).alloc (Nat.le_refl _) _
      have hAW2 := HAW.out.turn (HAW.out.1.below HB2.out) (Turn.of_below HB2.out)
      have HAW2 := Lib.hid hAW2
      have HD := Lib.hid (do_all hAW2.1 HSIM.out (by have := HSN.out; simp only [maxLen]; omega) op nm da z1 z2)
      have hst := runAt_succ HX.out
      have HST := Lib.hid hst
      clear hst hAW2
      generalize hr2 : (runAt cs k).step op nm da = r2 at *
      generalize han : (runAt cs k).ans op nm da = an at *
      have HAN := Lib.hid han
      clear hr2 han
      obtain ⟨E, D, ks⟩ := an
      go_wp2_with fail
      refine Calls.mono HD.out ?_
      rintro e w2 ⟨s2, v2, rfl, hrow2, hm2, ht2, hsim2, hn2⟩
      have HAW3 := Lib.hid (HAW2.out.turn hm2 ht2)
      have HSIM2 := Lib.hid hsim2
      have HN2 := Lib.hid hn2
      have HROW2 := Lib.hid (row_turn' (row_below' HROW.out HB2.out) ht2 HLT.out.1 HLT.out.2)
      have HREP2 : Hid (RepsOk w2 w1.heap.size cs l) := HREPS.out.step fun m u xs h => row_turn (row_below h HB2.out) ht2 HLT.out.1 HLT.out.2
      have HNEW : Hid (w2.ownsRow w1.heap.size 9 1 v2 ks.length (ks.map encStr)) := row_lower hrow2 (by have := HSZ.out; simp; omega)
      have HSZ2 : Hid (w1.heap.size ≤ w2.heap.size) := Nat.le_trans HSZ.out (Nat.le_trans HB2.out.size ht2.size)
      obtain ⟨A2, c2, rfl⟩ := own_slice hrow2
      clear hrow2 hm2 ht2 hsim2 hn2
      unfold replyV
      go_wp2_with (first
        | (at_builtin; refine wpList_append_own _ rfl (.tmp 15) (.tmp 19) _ rfl w1.heap.size 39 i0 _ 3 48 Try.underlying57 I0.out Z0.out S0.out Y0.out rfl (by decide) _ k _ rfl (HROW2.out.alloc _) _ 1 1 [.int .i64 E, .string D, .slice A2 ks.length c2] rfl rfl ?news (by simp [Value.oneCell']) (by simp only [maxLen]; omega) (by omega) ?hbase ?_))
      case news =>
        intro j u hu
        rw [Addr.add_mid, Nat.zero_add, World.cell?_alloc_new]
        simpa using hu
      case hbase => have := HSZ2.out; simp; omega
      intro v3 w3 hown3 hg3 hnil3
      have HO2 := HROW2.out.alloc (.cells #[.int .i64 E, .string D, .slice A2 ks.length c2] 39)
      have hb2 : Below w2.heap.size w2 (w2.alloc (.cells #[.int .i64 E, .string D, .slice A2 ks.length c2] 39)) := (Below.refl _ _).alloc (Nat.le_refl _) _
      have hb3 : Below w1.heap.size w2 w3 := ((Below.refl w1.heap.size w2).alloc HSZ2.out _).grown hg3 (by have := HSZ2.out; simp; omega) (fun q hq => (HO2.lt q hq).1)
      have HAW4 : Hid (AwAt w g b s2 w3) := ⟨⟨(hb3.block g HLT.out.1).trans HAW3.out.1.1, ownsMap_block HAW3.out.1.2 (hb3.block b HLT.out.2)⟩, HAW3.out.2.1.trans (hb3.mono HA1.out.2.1.size), HAW3.out.2.2⟩
      have HREP3 : Hid (RepsOk w3 w1.heap.size cs l) := HREP2.out.step fun m u xs h => row_ne2 (row_below h hb2) HO2 hg3
      have HNEW3 := Lib.hid (row_ne2 (row_below HNEW.out hb2) HO2 hg3)
      have HOWN3 := Lib.hid hown3
      clear hown3 hg3 hnil3 HO2 hb2
      go_wp2
      go_roundg (n - (k + 1))
      case measure => rw [HK.out]; omega
      case rel =>
        refine ⟨k + 1, s2, l ++ [⟨⟨E, D, ks⟩, .slice A2 ks.length c2⟩], by omega, rfl, by go_num, by simp [HLL.out], ?_, HAW4.out, ?_, Nat.le_trans HN2.out (Nat.succ_le_succ HSN.out), ?_, ?_, ?_⟩
        · rw [repsL_snoc]; exact HOWN3.out
        · rw [HST.out]; exact HSIM2.out
        · exact HREP3.out.snoc HNEW3.out (by rw [HLL.out]; exact HX.out) (by rw [HLL.out]; exact HAN.out.symm)
        · intro j hj
          by_cases h : j ≤ k
          · exact HALL.out j h
          · obtain rfl : j = k + 1 := by omega
            exact ⟨s2, by rw [HST.out]; exact HSIM2.out⟩
        · exact Nat.le_trans HSZ2.out hb3.size
    · obtain rfl : k = n := by omega
      go_wp2
      go_ret2
      have hlt := HLT.out
      exact ⟨_, g, b, s, l, w1.heap.size, rfl, HLL.out, HAW.out, HSIM.out, HALL.out, HROW.out, HREPS.out, HA1.out.2.1.size, hlt.1, hlt.2, HSN.out⟩
end Go.Proofs.Ytadagidjppgbkaa
