/- The reference's score, and its choice. -/
import Derived.Test.YtijdkgklajdbnaaAH
namespace Go.Proofs.Ytijdkgklajdbnaa
open Go.RowKit
set_option maxRecDepth 100000 in
set_option maxHeartbeats 2000000 in
theorem rscore13 {A B : Option Addr} {c d : Nat} {hs : List Fp} {ls : List Lst} {man : Id} {w : World} (h : Fps w A hs) (hl : Ls w B ls) (ha : AllFp hs) (hn : hs.length ≤ 1000) (hm : ∀ x ∈ ls, x.l.length ≤ 1000) :
    Calls Try.prog 13 #[.slice A hs.length c, .slice B ls.length d, .int .u32 man] w fun e w' => e = .returned (.int .i64 (scoreN (ids (toldL hs ls)) man [] : Nat)) ∧ Below w.heap.size w w' := by
  have HT := Lib.hid (told31 (c := c) (d := d) h hl ha hn)
  have hnt : (toldL hs ls).length ≤ 1000 := by have := told_len hs ls; have := setF_len hs; omega
  have HM : Hid (∀ x ∈ toldL hs ls, x.l.length ≤ 1000000) := Lib.hid (fun x hx => by
    obtain ⟨y, _, rfl⟩ := List.mem_map.1 hx
    rcases listG_in (hs := hs) (ls := ls) (x := y) with e | e
    · rw [e]; exact Nat.zero_le _
    · have := hm _ e; omega)
  generalize toldL hs ls = T at *
  have HSC := Lib.hid (fun (W : World) (C : Option Addr) (q : Nat) (hls : Ls W C T) => score30 (c := q) (d := 0) (man := man) (B := none) (ch := []) hls (Ids.nil _ _) hnt HM.out (Nat.zero_le _))
  generalize scoreN (ids T) man [] = r at *
  clear h hl ha hm
  go_enter Try.func13, Try.ntmps13
  go_wp2_with fail
  refine Calls.mono HT.out ?_
  rintro e w1 ⟨C, q, rfl, hls, _, hb1⟩
  have HC := Lib.hid (HSC.out w1 C q hls)
  have HB1 := Lib.hid hb1
  clear hls hb1
  go_wp2_with fail
  refine Calls.mono HC.out ?_
  rintro e w2 ⟨rfl, n, rfl⟩
  go_wp2_with fail
  go_ret
  exact ⟨rfl, below_drewN HB1.out n⟩
/-- one by one, as long as there is one -/
def chooseG (bf : List Id → Id × Nat) (most : Int) : Nat → List Id → List Id
  | 0, out => out
  | n + 1, out => if (out.length : Int) < most ∧ (out.length : Int) < 64 then (if 0 < (bf out).2 then chooseG bf most n (out ++ [(bf out).1]) else out) else out
theorem choose_stop {bf : List Id → Id × Nat} {most : Int} {n : Nat} {out : List Id} (h : ¬ ((out.length : Int) < most ∧ (out.length : Int) < 64)) : chooseG bf most (n + 1) out = out := if_neg h
theorem choose_no {bf : List Id → Id × Nat} {most : Int} {n : Nat} {out : List Id} (h : (out.length : Int) < most ∧ (out.length : Int) < 64) (h2 : ¬ 0 < (bf out).2) : chooseG bf most (n + 1) out = out := by
  unfold chooseG
  rw [if_pos h, if_neg h2]
theorem choose_yes {bf : List Id → Id × Nat} {most : Int} {n : Nat} {out : List Id} (h : (out.length : Int) < most ∧ (out.length : Int) < 64) (h2 : 0 < (bf out).2) : chooseG bf most (n + 1) out = chooseG bf most n (out ++ [(bf out).1]) := by
  conv => lhs; unfold chooseG
  rw [if_pos h, if_pos h2]
def refB (L : List (List Id)) (out : List Id) : Id × Nat := bestN (fun x => scoreN L x out) (allN L)
def refChoose (L : List (List Id)) (most : Int) : List Id := chooseG (refB L) most 65 []
set_option maxRecDepth 100000 in
set_option maxHeartbeats 2000000 in
theorem rchoose21 {A B : Option Addr} {c d : Nat} {hs : List Fp} {ls : List Lst} {most : Int} {w : World} (h : Fps w A hs) (hl : Ls w B ls) (ha : AllFp hs) (hn : hs.length ≤ 1000) (hm : ∀ x ∈ ls, x.l.length ≤ 1000) :
    Calls Try.prog 21 #[.slice A hs.length c, .slice B ls.length d, .int .i64 most] w fun e w' => ∃ C q, e = .returned (.slice C (refChoose (ids (toldL hs ls)) most).length q) ∧ Ids w' C (refChoose (ids (toldL hs ls)) most) ∧ (refChoose (ids (toldL hs ls)) most).length ≤ q ∧ (refChoose (ids (toldL hs ls)) most).length ≤ 64 ∧ Below w.heap.size w w' := by
  have HT := Lib.hid (told31 (c := c) (d := d) h hl ha hn)
  have hnt : (toldL hs ls).length ≤ 1000 := by have := told_len hs ls; have := setF_len hs; omega
  have HM : Hid (∀ x ∈ toldL hs ls, x.l.length ≤ 1000) := Lib.hid (fun x hx => by
    obtain ⟨y, _, rfl⟩ := List.mem_map.1 hx
    rcases listG_in (hs := hs) (ls := ls) (x := y) with e | e
    · rw [e]; exact Nat.zero_le _
    · exact hm _ e)
  generalize toldL hs ls = T at *
  have HR0 : Hid (chooseG (refB (ids T)) most 65 [] = refChoose (ids T) most) := Lib.hid rfl
  have HRB : Hid (∀ out, refB (ids T) out = bestN (fun x => scoreN (ids T) x out) (allN (ids T))) := Lib.hid (fun out => rfl)
  generalize refChoose (ids T) most = R at *
  generalize refB (ids T) = bf at *
  obtain ⟨i0, hi, hz0, hz1, hz2⟩ := info_parts info24
  have I0 := Lib.hid hi
  have Z0 := Lib.hid hz0
  have S0 := Lib.hid hz1
  have Y0 := Lib.hid hz2
  clear h hl ha hm hi hz0 hz1 hz2
  go_enter Try.func21, Try.ntmps21
  go_wp2_with fail
  refine Calls.mono HT.out ?_
  rintro e w1 ⟨C, q, rfl, hls, _, hb1⟩
  have HLS := Lib.hid hls
  have HB1 := Lib.hid hb1
  have HAL := Lib.hid (all35 (c := q) hls hnt HM.out)
  clear hls hb1
  go_wp2_with fail
  refine Calls.mono HAL.out ?_
  rintro e w2 ⟨D, p, rfl, hof, _, hofl, hb2⟩
  have HOF := Lib.hid hof
  have HB2 : Hid (Below w.heap.size w w2) := Lib.hid (HB1.out.trans (hb2.mono HB1.out.size))
  have HCB : Hid (∀ W, Below w2.heap.size w2 W → ∀ (out : List Id) (O : Option Addr) (oc : Nat), Ids W O out → out.length ≤ 64 → Calls Try.prog 36 #[.slice C T.length q, .slice D (allN (ids T)).length p, .slice O out.length oc] W fun e w' => e = .returned (.tuple #[.int .u32 (bf out).1, .bool (decide (0 < (bf out).2))]) ∧ ∃ n, w' = W.drewN n) := Lib.hid (fun W hW out O oc ho hol => by
    rw [HRB.out]
    exact best36 (HLS.out.below (hb2.trans (hW.mono hb2.size))) (HOF.out.below hW) ho hnt (fun x hx => by have := HM.out x hx; omega) (by omega) hofl)
  clear hof hb2 HRB HAL HLS
  generalize (allN (ids T)).length = AN at *
  go_wp2_with fail
  go_loopg [9] 65 (fun gk v wr => ∃ (n : Nat) (out : List Id), gk = n ∧ 65 ≤ n + out.length ∧ out.length ≤ 64 ∧ chooseG bf most n out = R ∧ wr.ownsRow w2.heap.size 24 1 v out.length (idL out) ∧ Below w2.heap.size w2 wr)
  case atStart => exact ⟨65, [], rfl, by simp, by simp, HR0.out, World.ownsRow_nil _ _ _ _, Below.refl _ _⟩
  case round =>
    obtain ⟨n, out, hgk, h65, h64, hch, hown, hb⟩ := hrel
    obtain ⟨VA, VC, rfl⟩ := own_slice hown
    have HK := Lib.hid hgk
    have HO := Lib.hid hown
    have HB := Lib.hid hb
    have HCH := Lib.hid hch
    have HBW : Hid (Below w.heap.size w wr) := Lib.hid (HB2.out.trans (hb.mono HB2.out.size))
    have HOI : Hid (Ids wr VA out) := Lib.hid (row_own hown)
    clear hgk hown hb hch
    obtain ⟨n, rfl⟩ : ∃ m, n = m + 1 := ⟨n - 1, by omega⟩
    by_cases h1 : (out.length : Int) < most
    · by_cases h2 : (out.length : Int) < 64
      · have HCX := Lib.hid (HCB.out wr HB.out out VA VC HOI.out h64)
        cases hb : decide (0 < (bf out).2)
        case true =>
          have hb' := of_decide_eq_true hb
          rw [hb] at HCX
          have HE : Hid (chooseG bf most n (out ++ [(bf out).1]) = R) := Lib.hid (by rw [← HCH.out, choose_yes ⟨h1, h2⟩ hb'])
          generalize (bf out).1 = x at *
          clear hb hb'
          go_wp2_with fail
          refine Calls.mono HCX.out ?_
          rintro e w3 ⟨rfl, m, rfl⟩
          have HO3 := Lib.hid (own_below HO.out (below_drewN (Below.refl _ _) m))
          have HB3 : Hid (Below w2.heap.size w2 (wr.drewN m)) := Lib.hid (below_drewN HB.out m)
          go_wp2_with (first
            | (at_builtin; refine wpList_append_own _ rfl (.tmp 36) (.tmp 38) _ rfl w2.heap.size 24 i0 _ 1 4 Try.underlying30 I0.out Z0.out S0.out Y0.out rfl (by decide) _ out.length _ rfl (HO3.out.alloc _) _ 1 1 [.int .u32 x] rfl rfl (new1 _ _ _ _ rfl) (by simp [Value.oneCell']) (by unfold maxLen; omega) (by omega) (by have := HB3.out.size; simp at this ⊢; omega) ?_))
          intro v8 w8 hown8 hg8 _
          obtain ⟨V8, C8, rfl⟩ := own_slice hown8
          have HO8 := Lib.hid hown8
          have HB8 : Hid (Below w2.heap.size w2 w8) := Lib.hid ((HB3.out.alloc HB3.out.size _).grown hg8 (by have := HB3.out.size; simp at this ⊢; omega) (fun j e => (HO3.out.lt j e).1))
          clear hown8 hg8
          go_wp2_with fail
          go_roundg n
          case measure => rw [HK.out]; omega
          case rel => exact ⟨n, out ++ [x], rfl, by simp; omega, by simp; omega, HE.out, by rw [idL_snoc, List.length_append]; exact HO8.out, HB8.out⟩
        case false =>
          have hb' := of_decide_eq_false hb
          rw [hb] at HCX
          have HE : Hid (out = R) := Lib.hid (by rw [← HCH.out, choose_no ⟨h1, h2⟩ hb'])
          clear hb hb'
          go_wp2_with fail
          refine Calls.mono HCX.out ?_
          rintro e w3 ⟨rfl, m, rfl⟩
          go_wp2_with fail
          go_ret
          rw [← HE.out]
          exact ⟨VA, VC, rfl, fun hl => HOI.out hl, own_cap HO.out, h64, below_drewN HBW.out m⟩
      · have HE : Hid (out = R) := Lib.hid (by rw [← HCH.out, choose_stop (fun h => h2 h.2)])
        go_wp2_with fail
        go_ret
        rw [← HE.out]
        exact ⟨VA, VC, rfl, HOI.out, own_cap HO.out, h64, HBW.out⟩
    · have HE : Hid (out = R) := Lib.hid (by rw [← HCH.out, choose_stop (fun h => h1 h.1)])
      go_wp2_with fail
      go_ret
      rw [← HE.out]
      exact ⟨VA, VC, rfl, HOI.out, own_cap HO.out, h64, HBW.out⟩
end Go.Proofs.Ytijdkgklajdbnaa
