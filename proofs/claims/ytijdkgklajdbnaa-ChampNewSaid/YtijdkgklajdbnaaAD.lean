/- The lists of a set of hooks. -/
import Derived.Test.YtijdkgklajdbnaaAC
namespace Go.Proofs.Ytijdkgklajdbnaa
open Go.RowKit
def toldL (hs : List Fp) (ls : List Lst) : List Lst := (setF hs).map (listG hs ls)
theorem told_len (hs : List Fp) (ls : List Lst) : (toldL hs ls).length = (setF hs).length := List.length_map ..
theorem inner_told {w : World} {hs : List Fp} {ls : List Lst} (h : Inner w ls) : Inner w (toldL hs ls) := fun x hx => by
  obtain ⟨y, _, rfl⟩ := List.mem_map.1 hx
  rcases listG_in (hs := hs) (ls := ls) (x := y) with e | e
  · rw [e]; exact ⟨Ids.nil _ _, Nat.le_refl _⟩
  · exact h _ e
theorem lsL_snoc (a : List Lst) (x : Lst) : lsL (a ++ [x]) = lsL a ++ [lsV x] := by simp [lsL]
theorem map_take_snoc {α β : Type} {f : α → β} {l : List α} {k : Nat} {x : α} (h : l[k]? = some x) : (l.take (k + 1)).map f = (l.take k).map f ++ [f x] := by
  rw [List.take_add_one, h, List.map_append]
  rfl
set_option maxRecDepth 100000 in
set_option maxHeartbeats 2000000 in
theorem told31 {A B : Option Addr} {c d : Nat} {hs : List Fp} {ls : List Lst} {w : World} (h : Fps w A hs) (hl : Ls w B ls) (ha : AllFp hs) (hn : hs.length ≤ 1000) :
    Calls Try.prog 31 #[.slice A hs.length c, .slice B ls.length d] w fun e w' => ∃ C q, e = .returned (.slice C (toldL hs ls).length q) ∧ Ls w' C (toldL hs ls) ∧ (toldL hs ls).length ≤ q ∧ Below w.heap.size w w' := by
  have HS := Lib.hid (rset24 (c := c) h ha hn)
  have HLI := Lib.hid hl.2
  have HC := Lib.hid (fun (W : World) (hb : Below w.heap.size w W) (x : Fp) (hx : IsFp x) => list12 (c := c) (d := d) (h.below hb) (hl.below hb) ha hx (by omega))
  have HAS := Lib.hid (setF_fp ha)
  have hsl : (setF hs).length ≤ 1000 := by have := setF_len hs; omega
  have HTS : Hid (∀ k x, (setF hs)[k]? = some x → (toldL hs ls).take (k + 1) = (toldL hs ls).take k ++ [listG hs ls x]) := Lib.hid (fun k x h => by
    rw [List.take_add_one]
    unfold toldL
    rw [List.getElem?_map, h]
    rfl)
  have HTL := Lib.hid (told_len hs ls)
  have HIT := Lib.hid (inner_told (hs := hs) HLI.out)
  have HTF : Hid ((toldL hs ls).take (setF hs).length = toldL hs ls) := Lib.hid (by rw [← told_len hs ls, List.take_length])
  generalize toldL hs ls = T at *
  generalize setF hs = S at *
  obtain ⟨i0, hi, hz0, hz1, hz2⟩ := info_parts info30
  have I0 := Lib.hid hi
  have Z0 := Lib.hid hz0
  have S0 := Lib.hid hz1
  have Y0 := Lib.hid hz2
  clear h hl ha hi hz0 hz1 hz2
  go_enter Try.func31, Try.ntmps31
  go_wp2_with fail
  refine Calls.mono HS.out ?_
  rintro e w1 ⟨SA, sc, rfl, hsf, _, _, hb1⟩
  have HSF := Lib.hid hsf
  have HB1 := Lib.hid hb1
  clear hsf hb1
  go_wp2_with fail
  go_loopg [6, 7] S.length (fun gk v i wr => ∃ k : Nat, k ≤ S.length ∧ gk = S.length - k ∧ i = .int .i64 k ∧ wr.ownsRow w1.heap.size 30 1 v k (lsL (T.take k)) ∧ Below w1.heap.size w1 wr)
  case atStart => exact ⟨0, Nat.zero_le _, rfl, rfl, World.ownsRow_nil _ _ _ _, Below.refl _ _⟩
  case round =>
    obtain ⟨k, hk, hgk, rfl, hown, hb⟩ := hrel
    obtain ⟨VA, VC, rfl⟩ := own_slice hown
    have HK := Lib.hid hgk
    have HO := Lib.hid hown
    have HB := Lib.hid hb
    have HBW : Hid (Below w.heap.size w wr) := Lib.hid (HB1.out.trans (hb.mono HB1.out.size))
    clear hgk hown hb
    by_cases hlt : k < S.length
    · obtain ⟨x, hx⟩ : ∃ x, S[k]? = some x := ⟨_, List.getElem?_eq_getElem hlt⟩
      have HXF := Lib.hid (HAS.out x (List.mem_of_getElem? hx))
      obtain ⟨b, o, rfl, _, hr⟩ := (HSF.out.below HB.out).get HAS.out hx
      have HRW := Lib.hid hr
      have HIX := Lib.hid (info29f HXF.out)
      have HTK := Lib.hid (HTS.out k x hx)
      have HCX := Lib.hid (HC.out wr HBW.out x HXF.out)
      generalize listG hs ls x = r at *
      have hk0 : (0 : Int) ≤ (k : Int) := by omega
      have hk1 : (k : Int) < (S.length : Int) := by omega
      clear hx hr
      go_wp2_with ((with_reducible refine wpList_load_mid (op := ⟨some 22, _, _, _, _, _⟩) rfl 29 (.tmp 21) rfl b (o + k * 32) ?_ (fpL x) _ HRW.out Try.underlying29 rfl HIX.out ?_); rfl)
      refine Calls.mono HCX.out ?_
      rintro e w2 ⟨rfl, hb2⟩
      have HB2 : Hid (Below w1.heap.size w1 w2) := Lib.hid (HB.out.trans (hb2.mono HB.out.size))
      have HBW2 : Hid (Below w.heap.size w w2) := Lib.hid (HB1.out.trans (HB2.out.mono HB1.out.size))
      have HO2 := Lib.hid (own_below HO.out hb2)
      clear hb2
      go_wp2_with (first
        | (at_builtin; refine wpList_append_own _ rfl (.tmp 16) (.tmp 24) _ rfl w1.heap.size 30 i0 _ 1 24 Try.underlying23 I0.out Z0.out S0.out Y0.out rfl (by decide) _ k _ rfl (HO2.out.alloc _) _ 1 1 [.slice r.A r.l.length r.c] rfl rfl (new1 _ _ _ _ rfl) (by simp [Value.oneCell']) (by unfold maxLen; omega) (by omega) (by have := HB2.out.size; simp; omega) ?_))
      intro v8 w8 hown8 hg8 _
      obtain ⟨V8, C8, rfl⟩ := own_slice hown8
      have HO8 := Lib.hid hown8
      have HB8 : Hid (Below w1.heap.size w1 w8) := Lib.hid ((HB2.out.alloc HB2.out.size _).grown hg8 (by have := HB2.out.size; simp; omega) (fun j e => (HO2.out.lt j e).1))
      clear hown8 hg8
      go_wp2_with fail
      go_roundg (S.length - (k + 1))
      case measure => rw [HK.out]; omega
      case rel => exact ⟨k + 1, by omega, rfl, by go_num, by rw [HTK.out, lsL_snoc]; exact HO8.out, HB8.out⟩
    · obtain rfl : k = S.length := by omega
      rw [HTF.out] at HO
      have HO' : Hid (wr.ownsRow w1.heap.size 30 1 (.slice VA T.length VC) T.length (lsL T)) := Lib.hid (by rw [HTL.out]; exact HO.out)
      go_wp2_with fail
      go_ret
      exact ⟨VA, VC, by rw [HTL.out]; rfl, ⟨row_own HO'.out, HIT.out.below HBW.out⟩, own_cap HO'.out, HBW.out⟩
end Go.Proofs.Ytijdkgklajdbnaa
