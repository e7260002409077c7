/- Words between blanks; the walk over words. -/
import Derived.Test.YtjakkmioofbcaaaDoorA5
import Derived.WalkMore
import Derived.ScopeJumps
namespace Go.Proofs.YtjakkmioofbcaaaDoor
open Go.RowKit
/-- a text, parted at a byte -/
def splitL (by_ : UInt8) : List UInt8 → List (List UInt8)
  | [] => [[]]
  | c :: r => if c = by_ then [] :: splitL by_ r else
    match splitL by_ r with
    | [] => [[c]]
    | h :: t => (c :: h) :: t
theorem splitL_ne (x : UInt8) (l : List UInt8) : splitL x l ≠ [] := by
  cases l with
  | nil => simp [splitL]
  | cons c r =>
    rw [splitL]
    split
    · simp
    · split <;> simp
theorem splitL_noSep {x : UInt8} {h : List UInt8} (hn : x ∉ h) : splitL x h = [h] := by
  induction h with
  | nil => rfl
  | cons c r ih =>
    simp only [List.mem_cons, not_or] at hn
    rw [splitL, if_neg (fun e => hn.1 e.symm), ih hn.2]
theorem splitL_app {x : UInt8} {h : List UInt8} (hn : x ∉ h) (t : List UInt8) : splitL x (h ++ x :: t) = h :: splitL x t := by
  induction h with
  | nil => simp [splitL]
  | cons c r ih =>
    simp only [List.mem_cons, not_or] at hn
    rw [List.cons_append, splitL, if_neg (fun e => hn.1 e.symm), ih hn.2]
theorem index_one (x : UInt8) : ∀ l : List UInt8, (Lib.index l [x] = -1 ∧ x ∉ l) ∨ (∃ h t, l = h ++ x :: t ∧ x ∉ h ∧ Lib.index l [x] = (h.length : Int))
  | [] => .inl ⟨rfl, by simp⟩
  | c :: r => by
    by_cases e : c = x
    · subst e
      refine .inr ⟨[], r, rfl, by simp, ?_⟩
      unfold Lib.index
      simp
    · have hp : List.isPrefixOf [x] (c :: r) = false := by
        simp [List.isPrefixOf]
        exact fun h => e h.symm
      rcases index_one x r with ⟨h1, h2⟩ | ⟨h, t, rfl, h2, h3⟩
      · refine .inl ⟨?_, by simp [h2]; exact fun h => e h.symm⟩
        unfold Lib.index
        rw [hp, h1]
        rfl
      · refine .inr ⟨c :: h, t, rfl, by simp [h2]; exact fun h => e h.symm, ?_⟩
        unfold Lib.index
        rw [hp, h3]
        have : ((h.length : Int) == -1) = false := by rw [beq_eq_false_iff_ne]; omega
        simp [this]
theorem cut_split (x : UInt8) (l : List UInt8) : (Lib.cut l [x] = (l, [], false) ∧ splitL x l = [l]) ∨ (∃ h t, Lib.cut l [x] = (h, t, true) ∧ splitL x l = h :: splitL x t ∧ l = h ++ x :: t ∧ x ∉ h) := by
  rcases index_one x l with ⟨h1, h2⟩ | ⟨h, t, rfl, h2, h3⟩
  · refine .inl ⟨?_, splitL_noSep h2⟩
    unfold Lib.cut
    rw [h1, if_neg (by omega)]
  · refine .inr ⟨h, t, ?_, splitL_app h2 t, rfl, h2⟩
    unfold Lib.cut
    rw [h3, if_pos (by omega)]
    simp
def strsV (l : List (List UInt8)) : List Value := l.map fun s => .string (str s)
theorem strsV_append (a b : List (List UInt8)) : strsV (a ++ b) = strsV a ++ strsV b := by simp [strsV]
theorem strsV_len (a : List (List UInt8)) : (strsV a).length = a.length := by simp [strsV]
/-- the length of the longest instance that the library looks for by hand is some number -/
def Lg (w : World) : Prop := 0 < w.heap.size ∧ ∃ m, w.cell? ⟨0, 0, none⟩ = some (.int .i64 m)
theorem Lg.below {B : Nat} {w w' : World} (h : Lg w) (hB : 0 < B) (hb : Below B w w') : Lg w' := by
  obtain ⟨h0, m, hm⟩ := h
  exact ⟨Nat.lt_of_lt_of_le h0 hb.size, m, by rw [hb.cell (p := ⟨0, 0, none⟩) hB]; exact hm⟩
set_option maxRecDepth 100000 in
set_option maxHeartbeats 4000000 in
theorem words18 (l : List UInt8) (hl : l.length ≤ 1000000) (w : World) (hlg : Lg w) : Calls Tryd.prog 40 #[.string (str l)] w fun e w' => ∃ v, e = .returned v ∧ w'.ownsRow w.heap.size 9 1 v (splitL 32 l).length (strsV (splitL 32 l)) ∧ Below w.heap.size w w' := by
  obtain ⟨i0, hi, hz0, hz1, hz2⟩ := info_parts info9
  have I0 := Lib.hid hi
  have Z0 := Lib.hid hz0
  have S0 := Lib.hid hz1
  have Y0 := Lib.hid hz2
  have HLG := Lib.hid hlg
  clear hi hz0 hz1 hz2 hlg
  go_enter Tryd.func40, Tryd.ntmps40
  go_wp2
  refine wp_scope_jumps 0 (fun a' w' => ∃ (r : List UInt8) (acc : List (List UInt8)) (out u4 u5 u6 u7 u8 u9 u10 u11 u12 u13 u14 u15 u16 u17 u18 u19 : Value), a' = { tmps := #[.string (str r), undef, .slice none 0 0, out, u4, u5, u6, u7, u8, u9, u10, u11, u12, u13, u14, u15, u16, u17, u18, u19], defers := [] } ∧ splitL 32 l = acc ++ splitL 32 r ∧ r.length + acc.length ≤ l.length ∧ w'.ownsRow w.heap.size 9 1 out acc.length (strsV acc) ∧ Below w.heap.size w w') (fun a' _ => match a'.tmps.getD 0 undef with | .string s => s.size | _ => 0) rfl ?_ ?_
  · have HR : Hid (w.ownsRow w.heap.size 9 1 (.slice none 0 0) 0 (strsV [])) := Lib.hid (World.ownsRow_nil _ _ _ _)
    have HB : Hid (Below w.heap.size w w) := Lib.hid (Below.refl _ _)
    obtain ⟨hp, m, hm⟩ := HLG.out
    have HLEN : Hid (l.length + 0 ≤ l.length) := Lib.hid (Nat.le_refl _)
    have HS : Hid (splitL 32 l = [] ++ splitL 32 l) := Lib.hid rfl
    have hc := Tryd.strings_Cut (str l) ⟨#[32]⟩ m w (by rw [str_size]; have := HLEN.out; omega) hm
    have he : (Lib.cut (str l).data.toList (⟨#[32]⟩ : ByteArray).data.toList) = Lib.cut l [32] := rfl
    rw [he] at hc
    have HSO : Hid (w.heap.size ≤ w.heap.size) := Lib.hid HB.out.size
    rcases cut_split 32 l with ⟨h1, h2⟩ | ⟨h, t, h1, h2, h3, h4⟩
    · rw [h1] at hc
      have HC := Lib.hid hc
      have H2 := Lib.hid h2
      clear hm hc he h1 h2
      go_wp2_with fail
      go_step3
      go_wp2_with fail
      refine Calls.mono HC.out ?_
      rintro e w1 ⟨rfl, q, rfl⟩
      go_wp2_with (first
        | (at_builtin; refine wpList_append_own _ rfl (.tmp 13) (.tmp 15) _ rfl w.heap.size 9 i0 _ 1 16 Tryd.underlying52 I0.out Z0.out S0.out Y0.out rfl (by decide) _ _ _ rfl ((HR.out.drewN q).alloc _) _ 1 1 [.string (str l)] rfl rfl (new1 _ _ _ _ rfl) (by simp [Value.oneCell']) (by have := HLEN.out; unfold maxLen; omega) (by have := HLEN.out; omega) (Nat.le_trans HSO.out (by simp)) ?_))
      intro v' w2 hown' hgrow _
      obtain ⟨A3, ac3, hv3⟩ := own_slice hown'
      subst hv3
      have HO := Lib.hid hown'
      have HB2 : Hid (Below w.heap.size w w2) := Lib.hid (((below_drewN HB.out q).alloc HSO.out _).grown hgrow (Nat.le_trans HSO.out (by simp)) (fun j e => (HR.out.lt j e).1))
      clear hown' hgrow
      go_wp2
      simp only [Exit.jump]
      go_ret
      refine ⟨_, rfl, ?_, HB2.out⟩
      rw [HS.out, H2.out, strsV_append, List.length_append]
      exact HO.out
    · rw [h1] at hc
      have HC := Lib.hid hc
      have H2 := Lib.hid h2
      have H3 : Hid (l.length = h.length + t.length + 1) := Lib.hid (by rw [h3]; simp; omega)
      clear hm hc he h1 h2 h3 h4
      go_wp2_with fail
      go_step3
      go_wp2_with fail
      refine Calls.mono HC.out ?_
      rintro e w1 ⟨rfl, q, rfl⟩
      go_wp2_with (first
        | (at_builtin; refine wpList_append_own _ rfl (.tmp 13) (.tmp 15) _ rfl w.heap.size 9 i0 _ 1 16 Tryd.underlying52 I0.out Z0.out S0.out Y0.out rfl (by decide) _ _ _ rfl ((HR.out.drewN q).alloc _) _ 1 1 [.string (str h)] rfl rfl (new1 _ _ _ _ rfl) (by simp [Value.oneCell']) (by have := HLEN.out; unfold maxLen; omega) (by have := HLEN.out; omega) (Nat.le_trans HSO.out (by simp)) ?_))
      intro v' w2 hown' hgrow _
      obtain ⟨A3, ac3, hv3⟩ := own_slice hown'
      subst hv3
      have HO := Lib.hid hown'
      have HB2 : Hid (Below w.heap.size w w2) := Lib.hid (((below_drewN HB.out q).alloc HSO.out _).grown hgrow (Nat.le_trans HSO.out (by simp)) (fun j e => (HR.out.lt j e).1))
      clear hown' hgrow
      go_wp2
      go_step3
      refine ⟨rfl, ⟨t, [] ++ [h], _, _, _, _, _, _, _, _, _, _, _, _, _, _, _, _, _, rfl, ?_, ?_, ?_, HB2.out⟩⟩
      · rw [HS.out, H2.out, List.append_assoc]; rfl
      · have := H3.out; have := HLEN.out; simp; omega
      · rw [strsV_append, List.length_append]; exact HO.out
  · rintro a' wr ⟨r, acc, out, u4, u5, u6, u7, u8, u9, u10, u11, u12, u13, u14, u15, u16, u17, u18, u19, rfl, hs, hlen, hr, hb⟩
    obtain ⟨AA, ac, hv⟩ := own_slice hr
    subst hv
    have HR := Lib.hid hr
    have HB := Lib.hid hb
    have HS := Lib.hid hs
    have HLEN := Lib.hid hlen
    obtain ⟨hp, m, hm⟩ := HLG.out.below HLG.out.1 hb
    clear hr hb hs hlen
    have hc := Tryd.strings_Cut (str r) ⟨#[32]⟩ m wr (by rw [str_size]; have := HLEN.out; omega) hm
    have he : (Lib.cut (str r).data.toList (⟨#[32]⟩ : ByteArray).data.toList) = Lib.cut r [32] := rfl
    rw [he] at hc
    have HSO : Hid (w.heap.size ≤ wr.heap.size) := Lib.hid HB.out.size
    rcases cut_split 32 r with ⟨h1, h2⟩ | ⟨h, t, h1, h2, h3, h4⟩
    · rw [h1] at hc
      have HC := Lib.hid hc
      have H2 := Lib.hid h2
      clear hm hc he h1 h2
      go_wp2_with fail
      refine Calls.mono HC.out ?_
      rintro e w1 ⟨rfl, q, rfl⟩
      go_wp2_with (first
        | (at_builtin; refine wpList_append_own _ rfl (.tmp 13) (.tmp 15) _ rfl w.heap.size 9 i0 _ 1 16 Tryd.underlying52 I0.out Z0.out S0.out Y0.out rfl (by decide) _ _ _ rfl ((HR.out.drewN q).alloc _) _ 1 1 [.string (str r)] rfl rfl (new1 _ _ _ _ rfl) (by simp [Value.oneCell']) (by have := HLEN.out; unfold maxLen; omega) (by have := HLEN.out; omega) (Nat.le_trans HSO.out (by simp)) ?_))
      intro v' w2 hown' hgrow _
      obtain ⟨A3, ac3, hv3⟩ := own_slice hown'
      subst hv3
      have HO := Lib.hid hown'
      have HB2 : Hid (Below w.heap.size w w2) := Lib.hid (((below_drewN HB.out q).alloc HSO.out _).grown hgrow (Nat.le_trans HSO.out (by simp)) (fun j e => (HR.out.lt j e).1))
      clear hown' hgrow
      go_wp2
      simp only [Exit.jump]
      go_ret
      refine ⟨_, rfl, ?_, HB2.out⟩
      rw [HS.out, H2.out, strsV_append, List.length_append]
      exact HO.out
    · rw [h1] at hc
      have HC := Lib.hid hc
      have H2 := Lib.hid h2
      have H3 : Hid (r.length = h.length + t.length + 1) := Lib.hid (by rw [h3]; simp; omega)
      clear hm hc he h1 h2 h3 h4
      go_wp2_with fail
      refine Calls.mono HC.out ?_
      rintro e w1 ⟨rfl, q, rfl⟩
      go_wp2_with (first
        | (at_builtin; refine wpList_append_own _ rfl (.tmp 13) (.tmp 15) _ rfl w.heap.size 9 i0 _ 1 16 Tryd.underlying52 I0.out Z0.out S0.out Y0.out rfl (by decide) _ _ _ rfl ((HR.out.drewN q).alloc _) _ 1 1 [.string (str h)] rfl rfl (new1 _ _ _ _ rfl) (by simp [Value.oneCell']) (by have := HLEN.out; unfold maxLen; omega) (by have := HLEN.out; omega) (Nat.le_trans HSO.out (by simp)) ?_))
      intro v' w2 hown' hgrow _
      obtain ⟨A3, ac3, hv3⟩ := own_slice hown'
      subst hv3
      have HO := Lib.hid hown'
      have HB2 : Hid (Below w.heap.size w w2) := Lib.hid (((below_drewN HB.out q).alloc HSO.out _).grown hgrow (Nat.le_trans HSO.out (by simp)) (fun j e => (HR.out.lt j e).1))
      clear hown' hgrow
      go_wp2
      go_step3
      refine ⟨rfl, ⟨t, acc ++ [h], _, _, _, _, _, _, _, _, _, _, _, _, _, _, _, _, _, rfl, ?_, ?_, ?_, HB2.out⟩, ?_⟩
      · rw [HS.out, H2.out, List.append_assoc]; rfl
      · have := H3.out; have := HLEN.out; simp; omega
      · rw [strsV_append, List.length_append]; exact HO.out
      · show (str t).size < (str r).size
        rw [str_size, str_size]; have := H3.out; omega
end Go.Proofs.YtjakkmioofbcaaaDoor
