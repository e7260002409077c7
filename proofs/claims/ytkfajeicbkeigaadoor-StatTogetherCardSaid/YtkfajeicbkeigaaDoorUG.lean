/- The walk over the law's to: the uses copied. -/
import Derived.Test.YtkfajeicbkeigaaDoorUF
import Derived.Deep.AppendLies
namespace Go.Proofs.YtkfajeicbkeigaaDoor
open Go.RowKit Go.Maps
theorem info78 : (Tryd.prog.info? 78).map (fun i => (i.zero, i.size, i.bytes)) = some (some (.agg #[.int .u32 0, .int .i64 0, .int .i64 0]), 3, 24) := by kernel_rfl
def Copy (base : Nat) (W : World) (v : Us) : Prop := W.ownsRow base 78 3 (.slice v.A v.cs.length v.c) v.cs.length (v.cs.flatMap ckV)
theorem like_snoc {vs us : List Us} (h : Like vs us) {v u : Us} (h1 : v.nm = u.nm) (h2 : v.cs = u.cs) : Like (vs ++ [v]) (us ++ [u]) := by
  unfold Like bare at *
  rw [List.map_append, List.map_append, h]
  unfold bareU
  simp [h1, h2]
set_option maxRecDepth 100000 in
set_option maxHeartbeats 8000000 in
theorem to17 {A : Option Addr} {c : Nat} {us : List Us} {w : World} (h : Uss w A us) (hn : us.length ≤ 10) (hm : ∀ u ∈ us, u.cs.length ≤ 12) :
    Calls Tryd.prog 17 #[.slice A us.length c] w fun e w' => ∃ B d vs, e = .returned (.slice B vs.length d) ∧ Uss w' B vs ∧ Like vs us ∧ Below w.heap.size w w' := by
  have H := Lib.hid h
  have HM := Lib.hid hm
  clear h hm
  obtain ⟨i0, hi0, hz0, hz1, hz2⟩ := info_parts info78
  have I0 := Lib.hid hi0
  have Z0 := Lib.hid hz0
  have S0 := Lib.hid hz1
  have Y0 := Lib.hid hz2
  clear hi0 hz0 hz1 hz2
  obtain ⟨i1, hi0, hz0, hz1, hz2⟩ := info_parts info81
  have I1 := Lib.hid hi0
  have Z1 := Lib.hid hz0
  have S1 := Lib.hid hz1
  have Y1 := Lib.hid hz2
  clear hi0 hz0 hz1 hz2
  go_enter Tryd.func17, Tryd.ntmps17
  go_wp2_with fail
  go_loopg [3, 4] us.length (fun gk v i wr => ∃ (k : Nat) (vs : List Us), k ≤ us.length ∧ gk = us.length - k ∧ i = .int .i64 k ∧ Like vs (us.take k) ∧ wr.ownsRow w.heap.size 81 2 v k (vs.flatMap usV) ∧ (∀ u ∈ vs, Copy w.heap.size wr u) ∧ Below w.heap.size w wr)
  case atStart => exact ⟨0, [], Nat.zero_le _, rfl, rfl, rfl, World.ownsRow_nil _ _ _ _, (fun u hu => by cases hu), Below.refl _ _⟩
  case round =>
    obtain ⟨k, vs, hk, hgk, rfl, hlk, hown, hcp, hb⟩ := hrel
    obtain ⟨OA, OC, rfl⟩ := own_slice hown
    have HK := Lib.hid hgk
    have HL := Lib.hid hlk
    have HO := Lib.hid hown
    have HP := Lib.hid hcp
    have HB := Lib.hid hb
    clear hgk hlk hown hcp hb
    have hk0 : (0 : Int) ≤ (k : Int) := by omega
    by_cases hlt : k < us.length
    · obtain ⟨u, hu⟩ : ∃ u, us[k]? = some u := ⟨us[k]'hlt, by simp⟩
      have HGU : Hid (∀ W, Below w.heap.size w W → ∃ b o, A = some ⟨b, o, none⟩ ∧ b < W.heap.size ∧ W.rangeAt b (o + k * 2) (usV u) ∧ Cks W u.A u.cs) := Lib.hid (fun W hb => (H.out.below hb).get hu)
      obtain ⟨b, o, hA, _, _, _⟩ := HGU.out w (Below.refl _ _)
      subst hA
      have HGV : Hid (∀ W, Below w.heap.size w W → W.cell? ⟨b, o + k * 2, none⟩ = some (.string (str u.nm)) ∧ W.cell? ⟨b, o + k * 2 + 1, none⟩ = some (.slice u.A u.cs.length u.c) ∧ Cks W u.A u.cs) := Lib.hid (fun W hb => by
        obtain ⟨b', o', e, _, h2, h3⟩ := HGU.out W hb
        injection e with e
        injection e with e1 e2
        subst e1 e2
        exact ⟨h2 0 _ rfl, h2 1 _ rfl, h3⟩)
      have HTK : Hid (us.take (k + 1) = us.take k ++ [u]) := Lib.hid (by rw [List.take_add_one, hu]; rfl)
      have hcl := HM.out u (List.mem_of_getElem? hu)
      have hk1 : (k : Int) < (us.length : Int) := by omega
      clear hu
      obtain ⟨nm, uA, uc, cs⟩ := u
      simp only at *
      have c0 := (HGV.out _ HB.out).1
      obtain ⟨t, ht⟩ : ∃ t, wr.heap.size = t := ⟨_, rfl⟩
      have HT := Lib.hid ht
      have HS0 : Hid ((wr.alloc (.cells #[.string (str nm), .slice none 0 0] 81)).heap[t]? = some (.cells #[.string (str nm), .slice none 0 0] 81)) := Lib.hid (by subst ht; exact heap_alloc_new _ _)
      have HBA : Hid (Below t wr (wr.alloc (.cells #[.string (str nm), .slice none 0 0] 81))) := Lib.hid (by subst ht; exact (Below.refl _ _).alloc (Nat.le_refl _) _)
      have HWT : Hid (w.heap.size ≤ t) := Lib.hid (by subst ht; exact HB.out.size)
      clear ht
      go_wp2_with fail
      rw [HT.out]
      rename World => wo
      go_loopg [6] cs.length (fun gj j wQ => ∃ (m : Nat) (VA : Option Addr) (VC : Nat), m ≤ cs.length ∧ gj = cs.length - m ∧ j = .int .i64 m ∧ wQ.heap[t]? = some (.cells #[.string (str nm), .slice VA m VC] 81) ∧ wQ.ownsRow (t + 1) 78 3 (.slice VA m VC) m ((cs.take m).flatMap ckV) ∧ Below t wo wQ)
      case atStart => exact ⟨0, none, 0, Nat.zero_le _, rfl, rfl, HS0.out, World.ownsRow_nil _ _ _ _, HBA.out⟩
      case round =>
        obtain ⟨m, VA, VC, hm, hgm, rfl, ht, hrow, hbq⟩ := hrel
        have HMM := Lib.hid hgm
        have HTT := Lib.hid ht
        have HR := Lib.hid hrow
        have HBQ := Lib.hid hbq
        have HBW : Hid (Below w.heap.size w wr) := Lib.hid (HB.out.trans (hbq.mono HWT.out))
        have HTL : Hid (t + 1 ≤ wr.heap.size) := Lib.hid (by have := (Array.getElem?_eq_some_iff.1 ht).1; omega)
        clear hgm ht hrow hbq
        have hm0 : (0 : Int) ≤ (m : Int) := by omega
        obtain ⟨_, c1, hck⟩ := HGV.out _ HBW.out
        have HCK := Lib.hid hck
        clear hck
        by_cases hlt2 : m < cs.length
        · obtain ⟨x, hx⟩ : ∃ x, cs[m]? = some x := ⟨cs[m]'hlt2, by simp⟩
          obtain ⟨b2, o2, hA2, _, hr2⟩ := HCK.out.get hx
          subst hA2
          have f0 := hr2 0 _ rfl
          have f1 := hr2 1 _ rfl
          have f2 := hr2 2 _ rfl
          rw [Nat.add_zero] at f0
          have HTX : Hid ((cs.take (m + 1)).flatMap ckV = (cs.take m).flatMap ckV ++ ckV x) := Lib.hid (by rw [List.take_add_one, hx, Option.toList_some, List.flatMap_append]; simp)
          obtain ⟨⟨xb, xs⟩, xl⟩ := x
          simp only at f0 f1 f2
          clear hr2 hx
          have hm1 : (m : Int) < (cs.length : Int) := by omega
          have ct1 : wr.cell? ⟨t, 1, none⟩ = some (.slice VA m VC) := cell_of_row wr t 1 _ 81 (0, 0) HTT.out
          have ct1b := cell_al (.cells #[.int .u32 xb, .int .i64 xs, .int .i64 xl] 78) ct1
          obtain ⟨W9, hW9⟩ : ∃ W, W = (wr.alloc (.cells #[.int .u32 xb, .int .i64 xs, .int .i64 xl] 78)).drew := ⟨_, rfl⟩
          have HB9 : Hid (Below wr.heap.size wr W9) := Lib.hid (by subst hW9; exact below_drew ((Below.refl _ _).alloc (Nat.le_refl _) _))
          have HR9 := Lib.hid (own_below HR.out HB9.out)
          obtain ⟨gg, cap, W10, hrun, hown10, hg10⟩ : ∃ gg cap W', (Builtin.append_ #[79, 79] 79 #[.slice VA m VC, .slice (some ⟨wr.heap.size, 0, none⟩) 1 1]).run Tryd.prog (wr.alloc (.cells #[.int .u32 xb, .int .i64 xs, .int .i64 xl] 78)).drew = .ok (.slice (some ⟨gg, 0, none⟩) (m + 1) cap) W' ∧ W'.ownsRow (t + 1) 78 3 (.slice (some ⟨gg, 0, none⟩) (m + 1) cap) (m + 1) ((cs.take m).flatMap ckV ++ [.int .u32 xb, .int .i64 xs, .int .i64 xl]) ∧ W9.grownBy W' (Value.slice VA m VC).ownBlock := by
            rw [← hW9]
            obtain ⟨gg, cap, w', h1, h2, h3, _, _⟩ := run_append_lies (P := Tryd.prog) W9 79 79 (t + 1) 78 i0 _ 3 24 Tryd.underlying79 I0.out Z0.out S0.out Y0.out rfl (by decide) _ _ _ HR9.out ⟨wr.heap.size, 0, none⟩ 1 1 [.int .u32 xb, .int .i64 xs, .int .i64 xl] rfl (by rw [hW9]; exact new3 wr _ _ _ 78 _ rfl) (by simp [Value.oneCell']) (by omega) (by unfold maxLen; omega) (by omega) (by have h1 := HTL.out; have h2 := HB9.out.size; omega) _ rfl
            exact ⟨_, _, _, h1, h2, h3⟩
          have HT10 : Hid (W10.heap[t]? = some (.cells #[.string (str nm), .slice VA m VC] 81)) := Lib.hid ((hg10.block t (by have h1 := HTL.out; have h2 := HB9.out.size; omega) (fun e => by have := (HR9.out.lt t e.symm).1; omega)).trans ((HB9.out.block _ (by have := HTL.out; omega)).trans HTT.out))
          have ct1c : W10.cell? ⟨t, 1, none⟩ = some (.slice VA m VC) := cell_of_row W10 t 1 _ 81 (0, 0) HT10.out
          have cf1c : W10.frozen? ⟨t, 1, none⟩ = false := frozen_of_row W10 t 1 _ 81 HT10.out
          have HTZ : Hid ((W10.setCell ⟨t, 1, none⟩ (.slice (some ⟨gg, 0, none⟩) (m + 1) cap)).heap[t]? = some (.cells #[.string (str nm), .slice (some ⟨gg, 0, none⟩) (m + 1) cap] 81)) := Lib.hid (heap_setCell_same _ t 1 _ 81 _ HT10.out)
          have HRZ : Hid ((W10.setCell ⟨t, 1, none⟩ (.slice (some ⟨gg, 0, none⟩) (m + 1) cap)).ownsRow (t + 1) 78 3 (.slice (some ⟨gg, 0, none⟩) (m + 1) cap) (m + 1) ((cs.take (m + 1)).flatMap ckV)) := Lib.hid (by
            rw [HTX.out]
            exact ownsRow_setCell_below hown10 (a := ⟨t, 1, none⟩) (Nat.lt_succ_self t) _)
          have HBZ : Hid (Below t wo (W10.setCell ⟨t, 1, none⟩ (.slice (some ⟨gg, 0, none⟩) (m + 1) cap))) := Lib.hid (((HBQ.out.trans (HB9.out.mono (by have := HTL.out; omega))).grown hg10 (by have h1 := HTL.out; have h2 := HB9.out.size; omega) (fun j e => by have := (HR9.out.lt j e).1; omega)).setCell (Nat.le_refl _) _)
          clear hW9 hown10 hg10
          have HRUN := Lib.hid hrun
          clear hrun
          go_wp2_with fail
          refine via ?_
          apply Exists.intro
          apply Exists.intro
          refine ⟨?_, ?_⟩
          · go_region_law (refine step_append_run rfl (.tmp 30) (.tmp 50) 79 rfl rfl rfl HRUN.out ?_)
            all_goals exact ⟨rfl, rfl⟩
          clear ct1 ct1b ct1c cf1c f0 f1 f2 c1
          go_wp2_with fail
          go_roundg (cs.length - (m + 1))
          case measure => rw [HMM.out]; omega
          case rel => exact ⟨m + 1, some ⟨gg, 0, none⟩, cap, by omega, rfl, by go_num, HTZ.out, HRZ.out, HBZ.out⟩
        · obtain rfl : m = cs.length := by omega
          have HFL : Hid ((cs.take cs.length).flatMap ckV = cs.flatMap ckV) := Lib.hid (by rw [List.take_length])
          rw [HFL.out] at HR
          have ct0 : wr.cell? ⟨t, 0, none⟩ = some (.string (str nm)) := cell_of_row wr t 0 _ 81 (0, 0) HTT.out
          have ct1 : wr.cell? ⟨t, 1, none⟩ = some (.slice VA cs.length VC) := cell_of_row wr t 1 _ 81 (0, 0) HTT.out
          have HBR : Hid (Below wo.heap.size wo wr) := Lib.hid (by rw [HT.out]; exact HBQ.out)
          have HOQ := Lib.hid (own_below HO.out HBR.out)
          have HPQ : Hid (∀ u ∈ vs, Copy w.heap.size wr u) := Lib.hid (fun u hu => own_below (HP.out u hu) HBR.out)
          have HCN : Hid (Copy w.heap.size wr ⟨nm, VA, VC, cs⟩) := Lib.hid (own_mono HR.out (by have := HWT.out; omega))
          go_wp2_with (first
            | (at_builtin; refine wpList_append_own _ rfl (.tmp 53) (.tmp 55) _ rfl w.heap.size 81 i1 _ 2 40 Tryd.underlying42 I1.out Z1.out S1.out Y1.out rfl (by decide) _ k _ rfl (HOQ.out.alloc _) _ 1 1 [.string (str nm), .slice VA cs.length VC] rfl rfl (new2 _ _ _ _ _ rfl) (by simp [Value.oneCell']) (by unfold maxLen; omega) (by omega) (by have := HBW.out.size; simp; omega) ?_))
          intro v8 w8 hown8 hg8 _
          obtain ⟨V8, C8, rfl⟩ := own_slice hown8
          have HO8 := Lib.hid hown8
          have HB8 : Hid (Below w.heap.size w w8) := Lib.hid ((HBW.out.alloc HBW.out.size _).grown hg8 (by have := HBW.out.size; simp; omega) (fun j e => (HOQ.out.lt j e).1))
          have HP8 : Hid (∀ u ∈ vs ++ [⟨nm, VA, VC, cs⟩], Copy w.heap.size w8 u) := Lib.hid (fun u hu => by
            have hc : Copy w.heap.size wr u := by
              rcases List.mem_append.1 hu with hu | hu
              · exact HPQ.out u hu
              · rw [List.mem_singleton] at hu
                subst hu
                exact HCN.out
            exact World.ownsRow.kept (World.ownsRow.alloc hc _) hg8 (own_ne hc HOQ.out (by decide)))
          clear hown8 hg8 ct0 ct1 c1
          go_wp2_with fail
          go_roundg (us.length - (k + 1))
          case measure => rw [HK.out]; omega
          case rel => exact ⟨k + 1, vs ++ [⟨nm, VA, VC, cs⟩], by omega, rfl, by go_num, by rw [HTK.out]; exact like_snoc HL.out rfl rfl, by rw [List.flatMap_append]; exact HO8.out, HP8.out, HB8.out⟩
    · obtain rfl : k = us.length := by omega
      have HE : Hid (Like vs us) := Lib.hid (by have := HL.out; rwa [List.take_length] at this)
      go_wp2_with fail
      go_ret
      exact ⟨OA, OC, vs, by rw [HE.out.len]; rfl, ⟨row_own HO.out, fun u hu => row_own (HP.out u hu)⟩, HE.out, HB.out⟩
end Go.Proofs.YtkfajeicbkeigaaDoor
