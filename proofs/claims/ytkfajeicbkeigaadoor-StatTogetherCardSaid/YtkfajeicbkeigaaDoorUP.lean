/- The walk over StatTogether. -/
import Derived.Test.YtkfajeicbkeigaaDoorUK
import Derived.Test.YtkfajeicbkeigaaDoorUO
import Derived.Deep.DeepCutAuto
import Derived.Maps.AppendAt
namespace Go.Proofs.YtkfajeicbkeigaaDoor
open Go.RowKit Go.Maps
def Bls (w : World) (A : Option Addr) (bs : List Bool) : Prop := Row w A (bs.map Value.bool)
theorem Bls.below {w w' : World} {A : Option Addr} {bs : List Bool} (h : Bls w A bs) (hb : Below w.heap.size w w') : Bls w' A bs := Row.below h hb
theorem Bls.get {w : World} {A : Option Addr} {bs : List Bool} (h : Bls w A bs) {k : Nat} {b : Bool} (hk : bs[k]? = some b) : ∃ g o, A = some ⟨g, o, none⟩ ∧ ∀ V, Below w.heap.size w V → V.cell? ⟨g, o + k, none⟩ = some (.bool b) := by
  obtain ⟨g, o, rfl, hl, hr⟩ := h (by intro e; rw [List.map_eq_nil_iff] at e; rw [e] at hk; cases hk)
  exact ⟨g, o, rfl, fun V hV => (hV.cell (p := ⟨g, o + k, none⟩) hl).trans (hr k _ (by rw [List.getElem?_map, hk]; rfl))⟩
/-- two rows of names that grow side by side -/
def Two (W : World) (B : Nat) (v1 : Value) (L1 : List Nm) (v2 : Value) (L2 : List Nm) : Prop :=
  W.ownsRow B 9 1 v1 L1.length (strV L1) ∧ W.ownsRow B 9 1 v2 L2.length (strV L2) ∧ (v1.ownBlock = none ∨ v1.ownBlock ≠ v2.ownBlock)
theorem Two.swap {W : World} {B : Nat} {v1 v2 : Value} {L1 L2 : List Nm} (h : Two W B v1 L1 v2 L2) : Two W B v2 L2 v1 L1 := ⟨h.2.1, h.1, by
  rcases h.2.2 with h | h
  · cases h2 : v2.ownBlock with
    | none => exact .inl rfl
    | some g => right; rw [h]; exact fun e => nomatch e
  · exact .inr (fun e => h e.symm)⟩
theorem Two.alloc {W : World} {B : Nat} {v1 v2 : Value} {L1 L2 : List Nm} (h : Two W B v1 L1 v2 L2) (o : Obj) : Two (W.alloc o) B v1 L1 v2 L2 := ⟨h.1.alloc o, h.2.1.alloc o, h.2.2⟩
theorem Two.push {W W' : World} {B : Nat} {v1 v2 v' : Value} {L1 L2 : List Nm} {s : Nm} (h : Two W B v1 L1 v2 L2) (hown : W'.ownsRow B 9 1 v' (L1.length + 1) (strV L1 ++ [.string (str s)])) (hg : W.grownBy W' v1.ownBlock) (hat : v'.ownBlock = v1.ownBlock ∨ v'.ownBlock = some W.heap.size) :
    Two W' B v' (L1 ++ [s]) v2 L2 := by
  refine ⟨?_, h.2.1.kept hg (h.swap.2.2), ?_⟩
  · rw [List.length_append]
    show W'.ownsRow B 9 1 v' (L1.length + 1) (strV (L1 ++ [s]))
    rw [strV, List.map_append]
    exact hown
  · rcases hat with h1 | h1
    · rw [h1]; exact h.2.2
    · right
      rw [h1]
      intro e
      have := (h.2.1.lt _ e.symm).2
      omega
theorem Two.below {W W' : World} {B : Nat} {v1 v2 : Value} {L1 L2 : List Nm} (h : Two W B v1 L1 v2 L2) (hb : Below W.heap.size W W') : Two W' B v1 L1 v2 L2 := ⟨own_below h.1 hb, own_below h.2.1 hb, h.2.2⟩
theorem Two.below_grown {W W' : World} {B : Nat} {w : World} {v1 v2 : Value} {L1 L2 : List Nm} (h : Two W B v1 L1 v2 L2) (hb : Below B w W) (hg : W.grownBy W' v1.ownBlock) (hB : B ≤ W.heap.size) : Below B w W' := hb.grown hg hB (fun j e => (h.1.lt j e).1)
theorem at_two (cs : List Ck) (p : Plc) : atI cs p = -1 ∨ ∃ i : Nat, atI cs p = (i : Int) := by
  by_cases h : p ∈ cs.map (·.1)
  · obtain ⟨i, _, h1, _⟩ := atI_yes h
    exact .inr ⟨i, h1⟩
  · exact .inl (atI_no h)
theorem own_cap {w : World} {base e size n : Nat} {A : Option Addr} {c : Nat} {xs : List Value} (h : w.ownsRow base e size (.slice A n c) n xs) : n ≤ c := by
  rcases h.2 with ⟨h2, hn⟩ | ⟨g, cap, cur, h2, hg, hh, hn, hm, hs, ht⟩
  · subst hn; exact Nat.zero_le _
  · injection h2 with h2 _ h3
    subst h3
    exact hn
theorem nms_new (W : World) (ns : List Nm) (g : Nat) (hg : g = W.heap.size) : Nms (W.alloc (.cells (ns.map fun s => Value.string (str s)).toArray 9)) (some ⟨g, 0, none⟩) ns := fun _ => ⟨g, 0, rfl, by rw [hg, World.size_alloc]; omega, fun j v hj => by
  rw [Nat.zero_add, cell_of_row _ g j _ 9 (0, 0) (by rw [hg]; exact heap_alloc_new _ _)]
  simpa using hj⟩
set_option maxRecDepth 100000 in
set_option maxHeartbeats 8000000 in
theorem together7 {A SA : Option Addr} {c sc : Nat} {us : List Us} {bs : List Bool} {w : World} (h : Uss w A us) (hn : us.length ≤ 9223372036854775807) (hu : ∀ u ∈ us, NmOk u.nm ∧ (∀ c ∈ u.cs, CkOk c) ∧ u.cs.length ≤ 9223372036854775807) (hbs : Bls w SA bs) (hbl : bs.length ≤ 9223372036854775807) (ht : Tb w) :
    Calls Tryd.prog 7 #[.slice A us.length c, .slice SA bs.length sc] w fun e w' => e = .returned (.bool true) ∧ Below w.heap.size w w' := by
  have H := Lib.hid h
  have HU := Lib.hid hu
  have HBS := Lib.hid hbs
  have HT := Lib.hid ht
  have HF := Lib.hid (few16 (c := c) h hn (fun u hu' => (hu u hu').2.2))
  obtain ⟨i0, hi0, hz0, hz1, hz2⟩ := info_parts info9
  have I0 := Lib.hid hi0
  have Z0 := Lib.hid hz0
  have S0 := Lib.hid hz1
  have Y0 := Lib.hid hz2
  clear h hu hbs ht hi0 hz0 hz1 hz2
  go_enter Tryd.func7, Tryd.ntmps7
  go_wp2_with fail
  refine Calls.mono HF.out ?_
  rintro e w1 ⟨⟨b, rfl, hb⟩, hb1⟩
  have HB1 := Lib.hid hb1
  clear hb1
  cases b
  · clear hb
    go_wp2_with fail
    refine Calls.mono (awake13 _ (HT.out.below HB1.out)) ?_
    rintro e z ⟨rfl, hz⟩
    have HZ : Hid (Below w.heap.size w z) := Lib.hid (HB1.out.trans (hz.mono HB1.out.size))
    clear hz
    go_wp2_with fail
    go_ret
    exact ⟨rfl, HZ.out⟩
  · have HL : Hid (Lim us) := Lib.hid (lim_of_few (hb rfl) (fun u hu => (HU.out u hu).1))
    have HOK : Hid (AllOk us) := Lib.hid (fun u hu => (HU.out u hu).2.1)
    clear hb
    have h10 := HL.out.1
    go_wp2_with fail
    refine Calls.mono (to17 (c := c) (H.out.below HB1.out) HL.out.1 (fun u hu => (HL.out.2 u hu).1)) ?_
    rintro e w2 ⟨B, d, vs, rfl, hvs, hlk, hb2⟩
    have HVS := Lib.hid hvs
    have HLK := Lib.hid hlk
    have HB2 : Hid (Below w.heap.size w w2) := Lib.hid (HB1.out.trans (hb2.mono HB1.out.size))
    clear hvs hlk hb2
    go_wp2_with fail
    refine Calls.mono (count18 (c := c) (H.out.below HB2.out) HL.out.1) ?_
    rintro e w3 ⟨C, d3, rfl, huc, hb3⟩
    have HUC := Lib.hid huc
    have HB3 : Hid (Below w.heap.size w w3) := Lib.hid (HB2.out.trans (hb3.mono HB2.out.size))
    have HVS3 := Lib.hid (HVS.out.below hb3)
    clear huc hb3
    have HCH := Lib.hid (rcheck19 (c := d3) HUC.out HL.out.cnt)
    have HLV := Lib.hid (HLK.out.lim HL.out)
    have HOV := Lib.hid (HLK.out.ok HOK.out)
    rcases chk_two (cnt us) with hch | hch
    · rw [hch] at HCH
      have HCZ := Lib.hid hch
      have HG : Hid (∀ (ns : List Nm) (NA : Option Addr) (cc : Nat) (V : World), Below w3.heap.size w3 V → Nms V NA ns → (∀ s ∈ ns, NmOk s) → ns.length ≤ 1000 → ns.length ≤ cc → Calls Tryd.prog 23 #[.slice B vs.length d, .slice NA ns.length cc] V fun e w' => e = .returned (.int .i64 (totF us fun l => allIn l ns)) ∧ Below V.heap.size V w') := Lib.hid (fun ns NA cc V hV h1 h2 h3 h4 => by
        have q := gains23 (c := d) (cc := cc) (HVS3.out.below hV) HLV.out HOV.out h1 h3 h2 h4
        rw [HLK.out.tot] at q
        exact q)
      have HWH : Hid (∀ V, Below w3.heap.size w3 V → Calls Tryd.prog 22 #[.slice B vs.length d] V fun e w' => e = .returned (.int .i64 (totF us fun _ => true)) ∧ Below V.heap.size V w') := Lib.hid (fun V hV => by
        have q := whole22 (c := d) (HVS3.out.below hV) HLV.out HOV.out
        rw [HLK.out.tot] at q
        exact q)
      have HNOC : Hid (∀ s ∈ nmsU (cnt us), NmOk s) := Lib.hid (fun s hs => by
        obtain ⟨u, hu, rfl⟩ := List.mem_map.1 hs
        exact (HL.out.2 u (cnt_sub u hu)).2)
      have hcl : (cnt us).length ≤ 10 := HL.out.cnt.1
      have HNL : Hid ((nmsU (cnt us)).length = (cnt us).length) := Lib.hid (by simp [nmsU])
      clear hch
      go_wp2_with fail
      refine Calls.mono HCH.out ?_
      rintro e v0 ⟨rfl, hv0⟩
      rw [hv0]
      clear hv0 v0
      have HV0 : Hid (Below w3.heap.size w3 w3) := Lib.hid (Below.refl _ _)
      obtain ⟨us', hus⟩ : ∃ us', cnt us = us' := ⟨_, rfl⟩
      have HUS := Lib.hid hus
      rw [hus] at HUC HNOC HNL hcl ⊢
      clear hus
      go_wp2_with fail
      go_loopg [7, 8, 9] us'.length (fun gk v1 v2 i wr => ∃ (k : Nat) (P : List Nm), k ≤ us'.length ∧ gk = us'.length - k ∧ i = .int .i64 k ∧ Two wr w3.heap.size v1 (nmsU (us'.take k)) v2 P ∧ (∀ s ∈ P, s ∈ nmsU us') ∧ P.length ≤ k ∧ Below w3.heap.size w3 wr)
      case atStart => exact ⟨0, [], Nat.zero_le _, rfl, rfl, ⟨World.ownsRow_nil _ _ _ _, World.ownsRow_nil _ _ _ _, .inl rfl⟩, (fun s hs => nomatch hs), Nat.le_refl _, HV0.out⟩
      case round =>
        obtain ⟨k, P, hk, hgk, rfl, htwo, hP, hPl, hb⟩ := hrel
        have HK := Lib.hid hgk
        have HTW := Lib.hid htwo
        have HP := Lib.hid hP
        have HB := Lib.hid hb
        have HBW : Hid (Below w.heap.size w wr) := Lib.hid (HB3.out.trans (hb.mono HB3.out.size))
        obtain ⟨A1, c1, rfl⟩ := own_slice htwo.1
        obtain ⟨A2, c2, rfl⟩ := own_slice htwo.2.1
        clear hgk htwo hP hb
        by_cases hlt : k < us'.length
        · obtain ⟨u, hu⟩ : ∃ u, us'[k]? = some u := ⟨us'[k]'hlt, by simp⟩
          have HTL : Hid ((nmsU (us'.take k)).length = k) := Lib.hid (by simp [nmsU]; omega)
          have HTK : Hid (nmsU (us'.take (k + 1)) = nmsU (us'.take k) ++ [u.nm]) := Lib.hid (by unfold nmsU; rw [List.take_add_one, hu, List.map_append]; rfl)
          have HIN : Hid (u.nm ∈ nmsU us') := Lib.hid (List.mem_map.2 ⟨u, List.mem_of_getElem? hu, rfl⟩)
          have HGU : Hid (∀ W, Below w3.heap.size w3 W → ∃ b o, C = some ⟨b, o, none⟩ ∧ b < W.heap.size ∧ W.rangeAt b (o + k * 2) (usV u) ∧ Cks W u.A u.cs) := Lib.hid (fun W hb => (HUC.out.below hb).get hu)
          obtain ⟨b, o, hA, _, _, _⟩ := HGU.out w3 (Below.refl _ _)
          subst hA
          have HGV : Hid (∀ W, Below w3.heap.size w3 W → W.cell? ⟨b, o + k * 2, none⟩ = some (.string (str u.nm))) := Lib.hid (fun W hb => by
            obtain ⟨b', o', e, _, h2, h3⟩ := HGU.out W hb
            injection e with e
            injection e with e1 e2
            subst e1 e2
            exact h2 0 _ rfl)
          obtain ⟨nm, uA, uc, cs⟩ := u
          simp only at *
          generalize nmsU (us'.take k) = O at *
          have c0 := HGV.out _ HB.out
          have hk0 : (0 : Int) ≤ (k : Int) := by omega
          have hk1 : (k : Int) < (us'.length : Int) := by omega
          have hol := HTL.out
          rw [show (List.length O : Nat) = k from hol] at *
          clear hol
          clear hu
          go_wp2_with (first
            | (at_builtin; refine wpList_append_own_at _ rfl (.tmp 33) (.tmp 39) _ rfl w3.heap.size 9 i0 _ 1 16 Tryd.underlying40 I0.out Z0.out S0.out Y0.out rfl (by decide) _ O.length _ (by rw [HTL.out]; rfl) (HTW.out.alloc _).1 _ 1 1 [.string (str nm)] rfl rfl (new1 _ _ _ _ rfl) (by simp [Value.oneCell']) (by rw [HTL.out]; unfold maxLen; omega) (by rw [HTL.out]; omega) (by have := HB.out.size; simp; omega) ?_))
          intro v8 w8 hown8 hg8 _ hat8
          obtain ⟨A8, C8, rfl⟩ := own_slice hown8
          have htw8 := (HTW.out.alloc (.cells #[.string (str nm)] 9)).push hown8 hg8 (by rw [World.size_alloc]; exact hat8)
          have HB8 : Hid (Below w3.heap.size w3 w8) := Lib.hid ((HTW.out.alloc (.cells #[.string (str nm)] 9)).below_grown (HB.out.alloc HB.out.size _) hg8 (by have := HB.out.size; simp; omega))
          have HT8 := Lib.hid htw8
          have c8 := HGV.out _ HB8.out
          clear hown8 hg8 hat8 htw8 c0
          have HBW8 : Hid (Below w.heap.size w w8) := Lib.hid (HB3.out.trans (HB8.out.mono HB3.out.size))
          have HPI : Hid (∀ s ∈ P ++ [nm], s ∈ nmsU us') := Lib.hid (fun s hs => by
            rcases List.mem_append.1 hs with hs | hs
            · exact HP.out s hs
            · rw [List.mem_singleton] at hs; subst hs; exact HIN.out)
          by_cases hks : k < bs.length
          · obtain ⟨q, hq⟩ : ∃ q, bs[k]? = some q := ⟨_, List.getElem?_eq_getElem hks⟩
            obtain ⟨sb, so, rfl, hsc⟩ := HBS.out.get hq
            have cs0 := hsc _ HBW8.out
            clear hsc hq
            have hks1 : (k : Int) < (bs.length : Int) := by omega
            cases q
            case false =>
              go_wp2_with fail
              go_roundg (us'.length - (k + 1))
              case measure => rw [HK.out]; omega
              case rel => exact ⟨k + 1, P, by omega, rfl, by go_num, by rw [HTK.out]; exact HT8.out, HP.out, by omega, HB8.out⟩
            case true =>
              go_wp2_with (first
                | (at_builtin; refine wpList_append_own_at _ rfl (.tmp 51) (.tmp 57) _ rfl w3.heap.size 9 i0 _ 1 16 Tryd.underlying40 I0.out Z0.out S0.out Y0.out rfl (by decide) _ P.length _ rfl (HT8.out.alloc _).2.1 _ 1 1 [.string (str nm)] rfl rfl (new1 _ _ _ _ rfl) (by simp [Value.oneCell']) (by unfold maxLen; omega) (by omega) (by have := HB8.out.size; simp; omega) ?_))
              intro v9 w9 hown9 hg9 _ hat9
              obtain ⟨A9, C9, rfl⟩ := own_slice hown9
              have htw9 := ((HT8.out.alloc (.cells #[.string (str nm)] 9)).swap.push hown9 hg9 (by rw [World.size_alloc]; exact hat9)).swap
              have HB9 : Hid (Below w3.heap.size w3 w9) := Lib.hid ((HT8.out.alloc (.cells #[.string (str nm)] 9)).swap.below_grown (HB8.out.alloc HB8.out.size _) hg9 (by have := HB8.out.size; simp; omega))
              have HT9 := Lib.hid htw9
              clear hown9 hg9 hat9 htw9 c8 cs0
              go_wp2_with fail
              go_roundg (us'.length - (k + 1))
              case measure => rw [HK.out]; omega
              case rel => exact ⟨k + 1, P ++ [nm], by omega, rfl, by go_num, by rw [HTK.out]; exact HT9.out, HPI.out, by rw [List.length_append]; simp; omega, HB9.out⟩
          · have hks1 : ¬ (k : Int) < (bs.length : Int) := by omega
            clear c8
            go_wp2_with fail
            go_roundg (us'.length - (k + 1))
            case measure => rw [HK.out]; omega
            case rel => exact ⟨k + 1, P, by omega, rfl, by go_num, by rw [HTK.out]; exact HT8.out, HP.out, by omega, HB8.out⟩
        · obtain rfl : k = us'.length := by omega
          rw [List.take_length] at HTW ⊢
          have HNA : Hid (Nms wr A1 (nmsU us')) := Lib.hid (row_own HTW.out.1)
          have HNP : Hid (Nms wr A2 P) := Lib.hid (row_own HTW.out.2.1)
          have HGA : Hid (∀ V, Below wr.heap.size wr V → Calls Tryd.prog 23 #[.slice B vs.length d, .slice A1 (nmsU us').length c1] V fun e w' => e = .returned (.int .i64 (totF us fun _ => true)) ∧ Below V.heap.size V w') := Lib.hid (fun V hV => by
            have q := HG.out (nmsU us') A1 c1 V (HB.out.trans (hV.mono HB.out.size)) (HNA.out.below hV) HNOC.out (by have := HNL.out; omega) (own_cap HTW.out.1)
            have e := gains_all HCZ.out
            rw [HUS.out] at e
            rw [e] at q
            exact q)
          have HGP : Hid (∀ V, Below wr.heap.size wr V → Calls Tryd.prog 23 #[.slice B vs.length d, .slice A2 P.length c2] V fun e w' => e = .returned (.int .i64 (totF us fun l => allIn l P)) ∧ Below V.heap.size V w') := Lib.hid (fun V hV => HG.out P A2 c2 V (HB.out.trans (hV.mono HB.out.size)) (HNP.out.below hV) (fun s hs => HNOC.out s (HP.out s hs)) (by omega) (own_cap HTW.out.2.1))
          have HGN : Hid (∀ V, Below w3.heap.size w3 V → Calls Tryd.prog 23 #[.slice B vs.length d, .slice none 0 0] V fun e w' => e = .returned (.int .i64 0) ∧ Below V.heap.size V w') := Lib.hid (fun V hV => by
            have q := HG.out [] none 0 V hV (Row.nil _ _) (fun s hs => nomatch hs) (Nat.zero_le _) (Nat.le_refl _)
            rw [gains_none HCZ.out] at q
            exact q)
          have hle : (totF us fun l => allIn l P) ≤ totF us fun _ => true := by
            have e := gains_all HCZ.out
            rw [HUS.out] at e
            rw [← e]
            exact gains_more HCZ.out HP.out
          have hle2 : decide ((totF us fun _ => true) < totF us fun l => allIn l P) = false := decide_eq_false (by omega)
          have HTWO : Hid (∀ u v : Us, us'[0]? = some u → us'[1]? = some v → (totF us fun l => allIn l [u.nm, v.nm]) = (totF us fun l => allIn l [u.nm]) + (totF us fun l => allIn l [v.nm]) + aloneF us' u v (pl (prs us')).length) := Lib.hid (fun u v hu hv => by
            have e := gains_two (us := us) HCZ.out (u := u) (v := v) (by rw [HUS.out]; exact hu) (by rw [HUS.out]; exact hv)
            rw [HUS.out] at e
            exact e)
          generalize (totF us fun _ => true) = WH at *
          generalize (totF us fun l => allIn l P) = GP at *
          have HY0 : Hid (Below wr.heap.size wr wr) := Lib.hid (Below.refl _ _)
          go_wp2_with fail
          refine Calls.mono (HGA.out _ HY0.out) ?_
          rintro e y1 ⟨rfl, hv⟩
          have HY1 : Hid (Below wr.heap.size wr y1) := Lib.hid (HY0.out.trans (hv.mono HY0.out.size))
          clear hv
          go_wp2_with fail
          refine Calls.mono (HWH.out _ (HB.out.trans (HY1.out.mono HB.out.size))) ?_
          rintro e y2 ⟨rfl, hv⟩
          have HY2 : Hid (Below wr.heap.size wr y2) := Lib.hid (HY1.out.trans (hv.mono HY1.out.size))
          clear hv
          go_wp2_with fail
          refine Calls.mono (HGP.out _ HY2.out) ?_
          rintro e y3 ⟨rfl, hv⟩
          have HY3 : Hid (Below wr.heap.size wr y3) := Lib.hid (HY2.out.trans (hv.mono HY2.out.size))
          clear hv
          go_wp2_with fail
          refine Calls.mono (HGA.out _ HY3.out) ?_
          rintro e y4 ⟨rfl, hv⟩
          have HY4 : Hid (Below wr.heap.size wr y4) := Lib.hid (HY3.out.trans (hv.mono HY3.out.size))
          clear hv
          go_wp2_with fail
          by_cases h2 : us'.length < 2
          · have h2i : (us'.length : Int) < 2 := by omega
            refine Calls.mono (HGN.out _ (HB.out.trans (HY4.out.mono HB.out.size))) ?_
            rintro e y5 ⟨rfl, hv⟩
            have HY5 : Hid (Below wr.heap.size wr y5) := Lib.hid (HY4.out.trans (hv.mono HY4.out.size))
            clear hv
            have HY : Hid (Below w3.heap.size w3 y5) := Lib.hid (HB.out.trans (HY5.out.mono HB.out.size))
            have HYW : Hid (Below w.heap.size w y5) := Lib.hid (HB3.out.trans (HY.out.mono HB3.out.size))
            go_wp2_with fail
            refine Calls.mono (awake13 _ (HT.out.below HYW.out)) ?_
            rintro e z ⟨rfl, hz⟩
            have HZ : Hid (Below w.heap.size w z) := Lib.hid (HYW.out.trans (hz.mono HYW.out.size))
            clear hz
            go_wp2_with fail
            go_ret
            exact ⟨rfl, HZ.out⟩
          · obtain ⟨u0, hu0⟩ : ∃ u, us'[0]? = some u := ⟨_, List.getElem?_eq_getElem (by omega)⟩
            obtain ⟨u1, hu1⟩ : ∃ u, us'[1]? = some u := ⟨_, List.getElem?_eq_getElem (by omega)⟩
            have h2i : ¬ (us'.length : Int) < 2 := by omega
            refine Calls.mono (HGN.out _ (HB.out.trans (HY4.out.mono HB.out.size))) ?_
            rintro e y5 ⟨rfl, hv⟩
            have HY5 : Hid (Below wr.heap.size wr y5) := Lib.hid (HY4.out.trans (hv.mono HY4.out.size))
            clear hv
            have HY : Hid (Below w3.heap.size w3 y5) := Lib.hid (HB.out.trans (HY5.out.mono HB.out.size))
            have HYW : Hid (Below w.heap.size w y5) := Lib.hid (HB3.out.trans (HY.out.mono HB3.out.size))
            have hG0 : ∀ W, Below w3.heap.size w3 W → ∃ b o, C = some ⟨b, o, none⟩ ∧ b < W.heap.size ∧ W.rangeAt b (o + 0 * 2) (usV u0) ∧ Cks W u0.A u0.cs := fun W hb => (HUC.out.below hb).get hu0
            have hG1 : ∀ W, Below w3.heap.size w3 W → ∃ b o, C = some ⟨b, o, none⟩ ∧ b < W.heap.size ∧ W.rangeAt b (o + 1 * 2) (usV u1) ∧ Cks W u1.A u1.cs := fun W hb => (HUC.out.below hb).get hu1
            obtain ⟨b, o, hA, _, _, _⟩ := hG0 w3 (Below.refl _ _)
            subst hA
            have HCE : Hid (∀ W, Below w3.heap.size w3 W → (W.cell? ⟨b, o, none⟩ = some (.string (str u0.nm)) ∧ W.cell? ⟨b, o + 1, none⟩ = some (.slice u0.A u0.cs.length u0.c) ∧ W.cell? ⟨b, o + 2, none⟩ = some (.string (str u1.nm)) ∧ W.cell? ⟨b, o + 2 + 1, none⟩ = some (.slice u1.A u1.cs.length u1.c)) ∧ Cks W u0.A u0.cs ∧ Cks W u1.A u1.cs) := Lib.hid (fun W hb => by
              obtain ⟨b', o', e, _, p0, p1⟩ := hG0 W hb
              injection e with e
              injection e with e1 e2
              subst e1 e2
              obtain ⟨b', o', e, _, q0, q1⟩ := hG1 W hb
              injection e with e
              injection e with e1 e2
              subst e1 e2
              exact ⟨⟨p0 0 _ rfl, p0 1 _ rfl, q0 0 _ rfl, q0 1 _ rfl⟩, p1, q1⟩)
            clear hG0 hG1
            have HM0 := Lib.hid (List.mem_of_getElem? hu0)
            have HM1 := Lib.hid (List.mem_of_getElem? hu1)
            have HN0 : Hid (NmOk u0.nm) := Lib.hid (HNOC.out _ (List.mem_map.2 ⟨u0, HM0.out, rfl⟩))
            have HN1 : Hid (NmOk u1.nm) := Lib.hid (HNOC.out _ (List.mem_map.2 ⟨u1, HM1.out, rfl⟩))
            have HTE := Lib.hid (HTWO.out u0 u1 hu0 hu1)
            have HLC : Hid (Lim us') := Lib.hid (by rw [← HUS.out]; exact HL.out.cnt)
            have HCZ' : Hid (chk us' = 0) := Lib.hid (by rw [← HUS.out]; exact HCZ.out)
            have HPF : Hid (PlFew (pl (prs us'))) := Lib.hid ⟨pl_few HLC.out, fun c hc' => by
              obtain ⟨x, hx, rfl⟩ := pl_of c hc'
              obtain ⟨u, hu, c', hc2, rfl⟩ := mem_prs.1 hx
              exact chk_ok HCZ'.out u hu c' hc2⟩
            have HA0 : Hid (∀ W, Below w3.heap.size w3 W → ∀ p : Plc, Calls Tryd.prog 33 #[.slice u0.A u0.cs.length u0.c, .agg #[.int .u32 p.1, .int .i64 p.2]] W fun e w' => e = .returned (.int .i64 (atI u0.cs p)) ∧ Below W.heap.size W w') := Lib.hid (fun W hb p => at33 (HCE.out W hb).2.1 (by have := (HLC.out.2 u0 HM0.out).1; omega) p)
            have HA1 : Hid (∀ W, Below w3.heap.size w3 W → ∀ p : Plc, Calls Tryd.prog 33 #[.slice u1.A u1.cs.length u1.c, .agg #[.int .u32 p.1, .int .i64 p.2]] W fun e w' => e = .returned (.int .i64 (atI u1.cs p)) ∧ Below W.heap.size W w') := Lib.hid (fun W hb p => at33 (HCE.out W hb).2.2 (by have := (HLC.out.2 u1 HM1.out).1; omega) p)
            have HBY : Hid (∀ W, Below w3.heap.size w3 W → ∀ (p : Plc) (g : Nat), g = W.heap.size → Calls Tryd.prog 34 #[.slice (some ⟨b, o, none⟩) us'.length d3, .agg #[.int .u32 p.1, .int .i64 p.2], .slice (some ⟨g, 0, none⟩) 2 2] (W.alloc (.cells #[.string (str u0.nm), .string (str u1.nm)] 9)) fun e w' => e = .returned (.bool (byB us' p [u0.nm, u1.nm])) ∧ Below W.heap.size W w') := Lib.hid (fun W hb p g hg => by
              have hW : Below W.heap.size W (W.alloc (.cells #[.string (str u0.nm), .string (str u1.nm)] 9)) := (Below.refl _ _).alloc (Nat.le_refl _) _
              have q := by34 (c := d3) (cc := 2) (vs := us') (ns := [u0.nm, u1.nm]) (HUC.out.below (hb.trans (hW.mono hb.size))) HLC.out (nms_new W [u0.nm, u1.nm] g hg) (by simp) p
              exact q.mono (fun e w' h => ⟨h.1, hW.trans (h.2.mono hW.size)⟩))
            have HG1 : Hid (∀ (s : Nm) (W : World), NmOk s → Below w3.heap.size w3 W → ∀ g, g = W.heap.size → Calls Tryd.prog 23 #[.slice B vs.length d, .slice (some ⟨g, 0, none⟩) 1 1] (W.alloc (.cells #[.string (str s)] 9)) fun e w' => e = .returned (.int .i64 (totF us fun l => allIn l [s])) ∧ Below W.heap.size W w') := Lib.hid (fun s W hs hb g hg => by
              have hW : Below W.heap.size W (W.alloc (.cells #[.string (str s)] 9)) := (Below.refl _ _).alloc (Nat.le_refl _) _
              have q := HG.out [s] (some ⟨g, 0, none⟩) 1 _ (hb.trans (hW.mono hb.size)) (nms_new W [s] g hg) (fun t ht => by rw [List.mem_singleton] at ht; subst ht; exact hs) (by simp) (Nat.le_refl _)
              exact q.mono (fun e w' h => ⟨h.1, hW.trans (h.2.mono hW.size)⟩))
            have HG2 : Hid (∀ (W : World), Below w3.heap.size w3 W → ∀ g, g = W.heap.size → Calls Tryd.prog 23 #[.slice B vs.length d, .slice (some ⟨g, 0, none⟩) 2 2] (W.alloc (.cells #[.string (str u0.nm), .string (str u1.nm)] 9)) fun e w' => e = .returned (.int .i64 ((totF us fun l => allIn l [u0.nm]) + (totF us fun l => allIn l [u1.nm]) + aloneF us' u0 u1 (pl (prs us')).length)) ∧ Below W.heap.size W w') := Lib.hid (fun W hb g hg => by
              have hW : Below W.heap.size W (W.alloc (.cells #[.string (str u0.nm), .string (str u1.nm)] 9)) := (Below.refl _ _).alloc (Nat.le_refl _) _
              have q := HG.out [u0.nm, u1.nm] (some ⟨g, 0, none⟩) 2 _ (hb.trans (hW.mono hb.size)) (nms_new W [u0.nm, u1.nm] g hg) (fun t ht => by
                rcases List.mem_cons.1 ht with ht | ht
                · rw [ht]; exact HN0.out
                · rw [List.mem_singleton] at ht; rw [ht]; exact HN1.out) (by simp) (Nat.le_refl _)
              rw [HTE.out] at q
              exact q.mono (fun e w' h => ⟨h.1, hW.trans (h.2.mono hW.size)⟩))
            have HG10 := Lib.hid (fun W => HG1.out u0.nm W HN0.out)
            have HG11 := Lib.hid (fun W => HG1.out u1.nm W HN1.out)
            have HAL : Hid (∀ p, aloneB us' u0 u1 p = (decide (0 ≤ atI u0.cs p) && decide (0 ≤ atI u1.cs p) && byB us' p [u0.nm, u1.nm])) := Lib.hid (fun p => rfl)
            have HSP : Hid (∀ k, k ≤ (pl (prs us')).length → 0 ≤ aloneF us' u0 u1 k ∧ aloneF us' u0 u1 k ≤ 4096 * k) := Lib.hid (fun k hk => sumT_span HPF.out.2 k hk)
            have HST : Hid (∀ (k : Nat) (c : Ck), (pl (prs us'))[k]? = some c → aloneF us' u0 u1 (k + 1) = aloneF us' u0 u1 k + (if aloneB us' u0 u1 c.1 then c.2 else 0)) := Lib.hid (fun k c h => sumT_step h)
            have HT0 : Hid (aloneF us' u0 u1 0 = 0) := Lib.hid rfl
            have HPLC : Hid (∀ W, Below w3.heap.size w3 W → Calls Tryd.prog 32 #[.slice (some ⟨b, o, none⟩) us'.length d3] W fun e w' => ∃ B d, e = .returned (.slice B (pl (prs us')).length d) ∧ Cks w' B (pl (prs us')) ∧ Below W.heap.size W w') := Lib.hid (fun W hb => places32 (c := d3) (HUC.out.below hb) HLC.out)
            have HTA : Hid (0 ≤ (totF us fun l => allIn l [u0.nm]) ∧ (totF us fun l => allIn l [u0.nm]) ≤ 1000000 ∧ 0 ≤ (totF us fun l => allIn l [u1.nm]) ∧ (totF us fun l => allIn l [u1.nm]) ≤ 1000000) := Lib.hid (by
              have hp : ∀ c ∈ pl (prs (cnt us)), 1 ≤ c.2 ∧ c.2 ≤ 4096 := by rw [HUS.out]; exact HPF.out.2
              have hf : (pl (prs (cnt us))).length ≤ 120 := by rw [HUS.out]; exact HPF.out.1
              have h1 := sumT_span (g := fun p => allIn (nmF (prs (cnt us)) p) [u0.nm]) hp _ (Nat.le_refl _)
              have h2 := sumT_span (g := fun p => allIn (nmF (prs (cnt us)) p) [u1.nm]) hp _ (Nat.le_refl _)
              rw [totF_yes HCZ.out, totF_yes HCZ.out]
              omega)
            clear HTE HTWO HG HG1 hu0 hu1 HM0 HM1
            have hta := HTA.out
            generalize (totF us fun l => allIn l [u0.nm]) = T0 at *
            generalize (totF us fun l => allIn l [u1.nm]) = T1 at *
            generalize aloneF us' u0 u1 = F at *
            generalize aloneB us' u0 u1 = AB at *
            generalize pl (prs us') = L at *
            have hLn := HPF.out.1
            obtain ⟨⟨n0, m0, n1, m1⟩, _, _⟩ := HCE.out _ HY.out
            go_wp2_with fail
            go_quiet (fail)
            go_wp2_with fail
            clear n0 m0 n1 m1
            refine Calls.mono (HPLC.out _ (below_drewN HY.out nq)) ?_
            rintro e w5 ⟨PA, d5, rfl, hck, hb5⟩
            have HCK := Lib.hid hck
            have HB5 : Hid (Below w3.heap.size w3 w5) := Lib.hid ((below_drewN HY.out nq).trans (hb5.mono (below_drewN HY.out nq).size))
            clear hck hb5
            go_wp2_with fail
            go_loopg [12, 14] L.length (fun gk r i wr => ∃ k : Nat, k ≤ L.length ∧ gk = L.length - k ∧ i = .int .i64 k ∧ r = .int .i64 (F k) ∧ Below w5.heap.size w5 wr)
            case atStart => exact ⟨0, Nat.zero_le _, rfl, rfl, by rw [HT0.out], Below.refl _ _⟩
            case round =>
              obtain ⟨k, hk, hgk, rfl, rfl, hb⟩ := hrel
              have HK := Lib.hid hgk
              have HBR := Lib.hid hb
              have HBR3 : Hid (Below w3.heap.size w3 wr) := Lib.hid (HB5.out.trans (hb.mono HB5.out.size))
              clear hgk hb
              by_cases hlt : k < L.length
              · obtain ⟨x, hx⟩ : ∃ x, L[k]? = some x := ⟨L[k]'hlt, by simp⟩
                have HGX : Hid (∀ W, Below w5.heap.size w5 W → ∃ b o, PA = some ⟨b, o, none⟩ ∧ b < W.heap.size ∧ W.rangeAt b (o + k * 3) (ckV x)) := Lib.hid (fun W hb => (HCK.out.below hb).get hx)
                obtain ⟨pb, po, hA, _, _⟩ := HGX.out w5 (Below.refl _ _)
                subst hA
                have HCX : Hid (∀ W, Below w5.heap.size w5 W → W.cell? ⟨pb, po + k * 3, none⟩ = some (.int .u32 x.1.1) ∧ W.cell? ⟨pb, po + k * 3 + 1, none⟩ = some (.int .i64 x.1.2) ∧ W.cell? ⟨pb, po + k * 3 + 2, none⟩ = some (.int .i64 x.2) ∧ W.cell? ⟨b, o + 1, none⟩ = some (.slice u0.A u0.cs.length u0.c) ∧ W.cell? ⟨b, o + 2 + 1, none⟩ = some (.slice u1.A u1.cs.length u1.c)) := Lib.hid (fun W hb => by
                  obtain ⟨b', o', e, _, h2⟩ := HGX.out W hb
                  injection e with e
                  injection e with e1 e2
                  subst e1 e2
                  obtain ⟨⟨_, q1, _, q3⟩, _, _⟩ := HCE.out W (HB5.out.trans (hb.mono HB5.out.size))
                  exact ⟨h2 0 _ rfl, h2 1 _ rfl, h2 2 _ rfl, q1, q3⟩)
                have HSX := Lib.hid (HST.out k x hx)
                have hsp := HSP.out k hk
                have hsp2 := HPF.out.2 x (List.mem_of_getElem? hx)
                have hk0 : (0 : Int) ≤ (k : Int) := by omega
                have hk1 : (k : Int) < (L.length : Int) := by omega
                have HAX := Lib.hid (HAL.out x.1)
                have HX0 : Hid (∀ W, Below w5.heap.size w5 W → Calls Tryd.prog 33 #[.slice u0.A u0.cs.length u0.c, .agg #[.int .u32 x.1.1, .int .i64 x.1.2]] W fun e w' => e = .returned (.int .i64 (atI u0.cs x.1)) ∧ Below w5.heap.size w5 w') := Lib.hid (fun W hb => (HA0.out W (HB5.out.trans (hb.mono HB5.out.size)) x.1).mono (fun e w' h => ⟨h.1, hb.trans (h.2.mono hb.size)⟩))
                have HX1 : Hid (∀ W, Below w5.heap.size w5 W → Calls Tryd.prog 33 #[.slice u1.A u1.cs.length u1.c, .agg #[.int .u32 x.1.1, .int .i64 x.1.2]] W fun e w' => e = .returned (.int .i64 (atI u1.cs x.1)) ∧ Below w5.heap.size w5 w') := Lib.hid (fun W hb => (HA1.out W (HB5.out.trans (hb.mono HB5.out.size)) x.1).mono (fun e w' h => ⟨h.1, hb.trans (h.2.mono hb.size)⟩))
                have HX2 : Hid (∀ W, Below w5.heap.size w5 W → ∀ g, g = W.heap.size → Calls Tryd.prog 34 #[.slice (some ⟨b, o, none⟩) us'.length d3, .agg #[.int .u32 x.1.1, .int .i64 x.1.2], .slice (some ⟨g, 0, none⟩) 2 2] (W.alloc (.cells #[.string (str u0.nm), .string (str u1.nm)] 9)) fun e w' => e = .returned (.bool (byB us' x.1 [u0.nm, u1.nm])) ∧ Below w5.heap.size w5 w') := Lib.hid (fun W hb g hg => (HBY.out W (HB5.out.trans (hb.mono HB5.out.size)) x.1 g hg).mono (fun e w' h => ⟨h.1, hb.trans (h.2.mono hb.size)⟩))
                obtain ⟨⟨xb, xs⟩, xl⟩ := x
                simp only at *
                have hz0 := at_two u0.cs (xb, xs)
                have hz1 := at_two u1.cs (xb, xs)
                generalize byB us' (xb, xs) [u0.nm, u1.nm] = YB at *
                generalize atI u0.cs (xb, xs) = a0 at *
                generalize atI u1.cs (xb, xs) = a1 at *
                generalize hab : AB (xb, xs) = ab at *
                clear hx hab
                obtain ⟨f0, f1, f2, f3, f4⟩ := HCX.out _ HBR.out
                go_upto_region 24 with fail
                go_cut [134] (fun s wx => s = .bool ab ∧ Below w5.heap.size w5 wx)
                case first =>
                  have HCS : Hid (∀ W, Below w5.heap.size w5 W → W.cell? ⟨pb, po + k * 3, none⟩ = some (.int .u32 xb) ∧ W.cell? ⟨pb, po + k * 3 + 1, none⟩ = some (.int .i64 xs) ∧ W.cell? ⟨b, o + 1, none⟩ = some (.slice u0.A u0.cs.length u0.c) ∧ W.cell? ⟨b, o + 2 + 1, none⟩ = some (.slice u1.A u1.cs.length u1.c)) := Lib.hid (fun W hb => by
                    obtain ⟨q0, q1, _, q3, q4⟩ := HCX.out W hb
                    exact ⟨q0, q1, q3, q4⟩)
                  have HR0 : Hid (Below w5.heap.size w5 wr.drew) := Lib.hid (below_drew HBR.out)
                  clear f0 f1 f2 f3 f4
                  have hl0 : 0 < us'.length := by omega
                  have hl1 : 1 < us'.length := by omega
                  have hl2 : (1 : Int) < (us'.length : Int) := by omega
                  rcases hz0 with rfl | ⟨i0, rfl⟩
                  · have he : ab = false := by rw [HAX.out]; rfl
                    subst he
                    clear hz1
                    refine wp_region_held_drew (S := (fun W => W.cell? ⟨pb, po + k * 3, none⟩ = some (.int .u32 xb) ∧ W.cell? ⟨pb, po + k * 3 + 1, none⟩ = some (.int .i64 xs) ∧ W.cell? ⟨b, o + 1, none⟩ = some (.slice u0.A u0.cs.length u0.c) ∧ W.cell? ⟨b, o + 2 + 1, none⟩ = some (.slice u1.A u1.cs.length u1.c))) (by kernel_rfl) ?_ (fun hSx => ?_)
                    · exact HCS.out _ HR0.out
                    refine wpAnyH_take (i := 0) (oi := ⟨some 99, _, _, _, _, none⟩) (v := ?_) rfl (by kernel_rfl) (by kernel_rfl) (by kernel_rfl) (fun _ _ _ h => h) (Or.inl ⟨by kernel_rfl, ?_⟩) hSx ?_
                    rotate_left 1
                    focus (intro wx hSw; obtain ⟨s0, s1, s2, s3⟩ := hSw; go_simp; first | done | with_reducible rfl)
                    try simp only [Act.put, List.setIfInBounds_toArray, List.set_cons_zero, List.set_cons_succ]
                    refine wpAnyH_take (i := 1) (oi := ⟨some 100, _, _, _, _, none⟩) (v := ?_) rfl (by kernel_rfl) (by kernel_rfl) (by kernel_rfl) (fun _ _ _ h => h) (Or.inl ⟨by kernel_rfl, ?_⟩) hSx ?_
                    rotate_left 1
                    focus (intro wx hSw; obtain ⟨s0, s1, s2, s3⟩ := hSw; go_simp; first | done | with_reducible rfl)
                    try simp only [Act.put, List.setIfInBounds_toArray, List.set_cons_zero, List.set_cons_succ]
                    refine wpAnyH_take (i := 2) (oi := ⟨some 101, _, _, _, _, none⟩) (v := ?_) rfl (by kernel_rfl) (by kernel_rfl) (by kernel_rfl) (fun _ _ _ h => h) (Or.inl ⟨by kernel_rfl, ?_⟩) hSx ?_
                    rotate_left 1
                    focus (intro wx hSw; obtain ⟨s0, s1, s2, s3⟩ := hSw; go_simp; first | done | with_reducible rfl)
                    try simp only [Act.put, List.setIfInBounds_toArray, List.set_cons_zero, List.set_cons_succ]
                    refine wpAnyH_take (i := 3) (oi := ⟨some 102, _, _, _, _, none⟩) (v := ?_) rfl (by kernel_rfl) (by kernel_rfl) (by kernel_rfl) (fun _ _ _ h => h) (Or.inl ⟨by kernel_rfl, ?_⟩) hSx ?_
                    rotate_left 1
                    focus (intro wx hSw; obtain ⟨s0, s1, s2, s3⟩ := hSw; go_simp; first | done | with_reducible rfl)
                    try simp only [Act.put, List.setIfInBounds_toArray, List.set_cons_zero, List.set_cons_succ]
                    refine wpAnyH_take (i := 4) (oi := ⟨some 103, _, _, _, _, none⟩) (v := ?_) rfl (by kernel_rfl) (by kernel_rfl) (by kernel_rfl) (fun _ _ _ h => h) (Or.inl ⟨by kernel_rfl, ?_⟩) hSx ?_
                    rotate_left 1
                    focus (intro wx hSw; obtain ⟨s0, s1, s2, s3⟩ := hSw; go_simp; first | done | with_reducible rfl)
                    try simp only [Act.put, List.setIfInBounds_toArray, List.set_cons_zero, List.set_cons_succ]
                    refine wpAnyH_take (i := 5) (oi := ⟨some 104, _, _, _, _, none⟩) (v := ?_) rfl (by kernel_rfl) (by kernel_rfl) (by kernel_rfl) (fun _ _ _ h => h) (Or.inl ⟨by kernel_rfl, ?_⟩) hSx ?_
                    rotate_left 1
                    focus (intro wx hSw; obtain ⟨s0, s1, s2, s3⟩ := hSw; go_simp; first | done | with_reducible rfl)
                    try simp only [Act.put, List.setIfInBounds_toArray, List.set_cons_zero, List.set_cons_succ]
                    refine wpAnyH_take (i := 6) (oi := ⟨some 105, _, _, _, _, none⟩) (v := ?_) rfl (by kernel_rfl) (by kernel_rfl) (by kernel_rfl) (fun _ _ _ h => h) (Or.inl ⟨by kernel_rfl, ?_⟩) hSx ?_
                    rotate_left 1
                    focus (intro wx hSw; obtain ⟨s0, s1, s2, s3⟩ := hSw; go_simp; first | done | with_reducible rfl)
                    try simp only [Act.put, List.setIfInBounds_toArray, List.set_cons_zero, List.set_cons_succ]
                    refine wpAnyH_take (i := 7) (oi := ⟨some 106, _, _, _, _, none⟩) (v := ?_) rfl (by kernel_rfl) (by kernel_rfl) (by kernel_rfl) (fun _ _ _ h => h) (Or.inl ⟨by kernel_rfl, ?_⟩) hSx ?_
                    rotate_left 1
                    focus (intro wx hSw; obtain ⟨s0, s1, s2, s3⟩ := hSw; go_simp; first | done | with_reducible rfl)
                    try simp only [Act.put, List.setIfInBounds_toArray, List.set_cons_zero, List.set_cons_succ]
                    refine wpAnyH_take (i := 8) (oi := ⟨some 107, _, _, _, _, none⟩) (v := ?_) rfl (by kernel_rfl) (by kernel_rfl) (by kernel_rfl) (fun _ _ _ h => h) (Or.inl ⟨by kernel_rfl, ?_⟩) hSx ?_
                    rotate_left 1
                    focus (intro wx hSw; obtain ⟨s0, s1, s2, s3⟩ := hSw; go_simp; first | done | with_reducible rfl)
                    try simp only [Act.put, List.setIfInBounds_toArray, List.set_cons_zero, List.set_cons_succ]
                    refine wpAnyH_ready (rs := [9]) (by kernel_rfl) (by simp) ?_
                    refine AllReadyH.cons (o := ⟨some 108, _, _, _, _, none⟩) rfl (fun KK hKK => ?_) AllReadyH.nil
                    go_simp
                    with_reducible refine Calls.mono (HX0.out _ HR0.out) ?_
                    rintro e z1 ⟨rfl, hz⟩
                    have HR1 := Lib.hid hz
                    clear hz
                    refine hKK.out _ _ (HCS.out _ HR1.out) (fun hSy => ?_)
                    clear hKK hSx
                    have hSx := hSy
                    clear hSy KK
                    try simp only [Act.put, List.setIfInBounds_toArray, List.set_cons_zero, List.set_cons_succ]
                    refine wpAnyH_take (i := 10) (oi := ⟨some 109, _, _, _, _, none⟩) (v := ?_) rfl (by kernel_rfl) (by kernel_rfl) (by kernel_rfl) (fun _ _ _ h => h) (Or.inl ⟨by kernel_rfl, ?_⟩) hSx ?_
                    rotate_left 1
                    focus (intro wx hSw; obtain ⟨s0, s1, s2, s3⟩ := hSw; go_simp; first | done | with_reducible rfl)
                    try simp only [Act.put, List.setIfInBounds_toArray, List.set_cons_zero, List.set_cons_succ]
                    refine wpAnyH_take (i := 11) (oi := ⟨some 110, _, _, _, _, none⟩) (v := ?_) rfl (by kernel_rfl) (by kernel_rfl) (by kernel_rfl) (fun _ _ _ h => h) (Or.inl ⟨by kernel_rfl, ?_⟩) hSx ?_
                    rotate_left 1
                    focus (intro wx hSw; obtain ⟨s0, s1, s2, s3⟩ := hSw; go_simp; first | done | with_reducible rfl)
                    try simp only [Act.put, List.setIfInBounds_toArray, List.set_cons_zero, List.set_cons_succ]
                    refine wpAnyH_take (i := 12) (oi := ⟨some 111, _, _, _, _, some (11, true)⟩) (v := undef) rfl (by kernel_rfl) (by kernel_rfl) (by kernel_rfl) (fun _ _ _ h => h) (Or.inr ⟨by kernel_rfl, rfl⟩) hSx ?_
                    try simp only [Act.put, List.setIfInBounds_toArray, List.set_cons_zero, List.set_cons_succ]
                    refine wpAnyH_take (i := 13) (oi := ⟨some 112, _, _, _, _, some (11, true)⟩) (v := undef) rfl (by kernel_rfl) (by kernel_rfl) (by kernel_rfl) (fun _ _ _ h => h) (Or.inr ⟨by kernel_rfl, rfl⟩) hSx ?_
                    try simp only [Act.put, List.setIfInBounds_toArray, List.set_cons_zero, List.set_cons_succ]
                    refine wpAnyH_take (i := 14) (oi := ⟨some 113, _, _, _, _, some (11, true)⟩) (v := undef) rfl (by kernel_rfl) (by kernel_rfl) (by kernel_rfl) (fun _ _ _ h => h) (Or.inr ⟨by kernel_rfl, rfl⟩) hSx ?_
                    try simp only [Act.put, List.setIfInBounds_toArray, List.set_cons_zero, List.set_cons_succ]
                    refine wpAnyH_take (i := 15) (oi := ⟨some 114, _, _, _, _, some (11, true)⟩) (v := undef) rfl (by kernel_rfl) (by kernel_rfl) (by kernel_rfl) (fun _ _ _ h => h) (Or.inr ⟨by kernel_rfl, rfl⟩) hSx ?_
                    try simp only [Act.put, List.setIfInBounds_toArray, List.set_cons_zero, List.set_cons_succ]
                    refine wpAnyH_take (i := 16) (oi := ⟨some 115, _, _, _, _, some (11, true)⟩) (v := undef) rfl (by kernel_rfl) (by kernel_rfl) (by kernel_rfl) (fun _ _ _ h => h) (Or.inr ⟨by kernel_rfl, rfl⟩) hSx ?_
                    try simp only [Act.put, List.setIfInBounds_toArray, List.set_cons_zero, List.set_cons_succ]
                    refine wpAnyH_take (i := 17) (oi := ⟨some 116, _, _, _, _, some (11, true)⟩) (v := undef) rfl (by kernel_rfl) (by kernel_rfl) (by kernel_rfl) (fun _ _ _ h => h) (Or.inr ⟨by kernel_rfl, rfl⟩) hSx ?_
                    try simp only [Act.put, List.setIfInBounds_toArray, List.set_cons_zero, List.set_cons_succ]
                    refine wpAnyH_take (i := 18) (oi := ⟨some 117, _, _, _, _, some (11, true)⟩) (v := undef) rfl (by kernel_rfl) (by kernel_rfl) (by kernel_rfl) (fun _ _ _ h => h) (Or.inr ⟨by kernel_rfl, rfl⟩) hSx ?_
                    try simp only [Act.put, List.setIfInBounds_toArray, List.set_cons_zero, List.set_cons_succ]
                    refine wpAnyH_take (i := 19) (oi := ⟨some 118, _, _, _, _, some (11, true)⟩) (v := undef) rfl (by kernel_rfl) (by kernel_rfl) (by kernel_rfl) (fun _ _ _ h => h) (Or.inr ⟨by kernel_rfl, rfl⟩) hSx ?_
                    try simp only [Act.put, List.setIfInBounds_toArray, List.set_cons_zero, List.set_cons_succ]
                    refine wpAnyH_take (i := 20) (oi := ⟨some 119, _, _, _, _, some (11, true)⟩) (v := undef) rfl (by kernel_rfl) (by kernel_rfl) (by kernel_rfl) (fun _ _ _ h => h) (Or.inr ⟨by kernel_rfl, rfl⟩) hSx ?_
                    try simp only [Act.put, List.setIfInBounds_toArray, List.set_cons_zero, List.set_cons_succ]
                    refine wpAnyH_take (i := 21) (oi := ⟨some 120, _, _, _, _, some (11, true)⟩) (v := undef) rfl (by kernel_rfl) (by kernel_rfl) (by kernel_rfl) (fun _ _ _ h => h) (Or.inr ⟨by kernel_rfl, rfl⟩) hSx ?_
                    try simp only [Act.put, List.setIfInBounds_toArray, List.set_cons_zero, List.set_cons_succ]
                    refine wpAnyH_take (i := 22) (oi := ⟨some 121, _, _, _, _, some (11, true)⟩) (v := undef) rfl (by kernel_rfl) (by kernel_rfl) (by kernel_rfl) (fun _ _ _ h => h) (Or.inr ⟨by kernel_rfl, rfl⟩) hSx ?_
                    try simp only [Act.put, List.setIfInBounds_toArray, List.set_cons_zero, List.set_cons_succ]
                    refine wpAnyH_take (i := 23) (oi := ⟨some 122, _, _, _, _, none⟩) (v := ?_) rfl (by kernel_rfl) (by kernel_rfl) (by kernel_rfl) (fun _ _ _ h => h) (Or.inl ⟨by kernel_rfl, ?_⟩) hSx ?_
                    rotate_left 1
                    focus (intro wx hSw; obtain ⟨s0, s1, s2, s3⟩ := hSw; go_simp; first | done | with_reducible rfl)
                    try simp only [Act.put, List.setIfInBounds_toArray, List.set_cons_zero, List.set_cons_succ]
                    refine wpAnyH_take (i := 24) (oi := ⟨some 123, _, _, _, _, none⟩) (v := ?_) rfl (by kernel_rfl) (by kernel_rfl) (by kernel_rfl) (fun _ _ _ h => h) (Or.inl ⟨by kernel_rfl, ?_⟩) hSx ?_
                    rotate_left 1
                    focus (intro wx hSw; obtain ⟨s0, s1, s2, s3⟩ := hSw; go_simp; first | done | with_reducible rfl)
                    try simp only [Act.put, List.setIfInBounds_toArray, List.set_cons_zero, List.set_cons_succ]
                    refine wpAnyH_take (i := 25) (oi := ⟨some 124, _, _, _, _, some (24, true)⟩) (v := undef) rfl (by kernel_rfl) (by kernel_rfl) (by kernel_rfl) (fun _ _ _ h => h) (Or.inr ⟨by kernel_rfl, rfl⟩) hSx ?_
                    try simp only [Act.put, List.setIfInBounds_toArray, List.set_cons_zero, List.set_cons_succ]
                    refine wpAnyH_take (i := 26) (oi := ⟨some 125, _, _, _, _, some (24, true)⟩) (v := undef) rfl (by kernel_rfl) (by kernel_rfl) (by kernel_rfl) (fun _ _ _ h => h) (Or.inr ⟨by kernel_rfl, rfl⟩) hSx ?_
                    try simp only [Act.put, List.setIfInBounds_toArray, List.set_cons_zero, List.set_cons_succ]
                    refine wpAnyH_take (i := 27) (oi := ⟨some 126, _, _, _, _, some (24, true)⟩) (v := undef) rfl (by kernel_rfl) (by kernel_rfl) (by kernel_rfl) (fun _ _ _ h => h) (Or.inr ⟨by kernel_rfl, rfl⟩) hSx ?_
                    try simp only [Act.put, List.setIfInBounds_toArray, List.set_cons_zero, List.set_cons_succ]
                    refine wpAnyH_take (i := 28) (oi := ⟨some 127, _, _, _, _, some (24, true)⟩) (v := undef) rfl (by kernel_rfl) (by kernel_rfl) (by kernel_rfl) (fun _ _ _ h => h) (Or.inr ⟨by kernel_rfl, rfl⟩) hSx ?_
                    try simp only [Act.put, List.setIfInBounds_toArray, List.set_cons_zero, List.set_cons_succ]
                    refine wpAnyH_take (i := 29) (oi := ⟨some 128, _, _, _, _, some (24, true)⟩) (v := undef) rfl (by kernel_rfl) (by kernel_rfl) (by kernel_rfl) (fun _ _ _ h => h) (Or.inr ⟨by kernel_rfl, rfl⟩) hSx ?_
                    try simp only [Act.put, List.setIfInBounds_toArray, List.set_cons_zero, List.set_cons_succ]
                    refine wpAnyH_take (i := 30) (oi := ⟨some 129, _, _, _, _, some (24, true)⟩) (v := undef) rfl (by kernel_rfl) (by kernel_rfl) (by kernel_rfl) (fun _ _ _ h => h) (Or.inr ⟨by kernel_rfl, rfl⟩) hSx ?_
                    try simp only [Act.put, List.setIfInBounds_toArray, List.set_cons_zero, List.set_cons_succ]
                    refine wpAnyH_take (i := 31) (oi := ⟨some 130, _, _, _, _, some (24, true)⟩) (v := undef) rfl (by kernel_rfl) (by kernel_rfl) (by kernel_rfl) (fun _ _ _ h => h) (Or.inr ⟨by kernel_rfl, rfl⟩) hSx ?_
                    try simp only [Act.put, List.setIfInBounds_toArray, List.set_cons_zero, List.set_cons_succ]
                    refine wpAnyH_take (i := 32) (oi := ⟨some 131, _, _, _, _, some (24, true)⟩) (v := undef) rfl (by kernel_rfl) (by kernel_rfl) (by kernel_rfl) (fun _ _ _ h => h) (Or.inr ⟨by kernel_rfl, rfl⟩) hSx ?_
                    try simp only [Act.put, List.setIfInBounds_toArray, List.set_cons_zero, List.set_cons_succ]
                    refine wpAnyH_take (i := 33) (oi := ⟨some 132, _, _, _, _, some (24, true)⟩) (v := undef) rfl (by kernel_rfl) (by kernel_rfl) (by kernel_rfl) (fun _ _ _ h => h) (Or.inr ⟨by kernel_rfl, rfl⟩) hSx ?_
                    try simp only [Act.put, List.setIfInBounds_toArray, List.set_cons_zero, List.set_cons_succ]
                    refine wpAnyH_take (i := 34) (oi := ⟨some 133, _, _, _, _, some (24, true)⟩) (v := undef) rfl (by kernel_rfl) (by kernel_rfl) (by kernel_rfl) (fun _ _ _ h => h) (Or.inr ⟨by kernel_rfl, rfl⟩) hSx ?_
                    try simp only [Act.put, List.setIfInBounds_toArray, List.set_cons_zero, List.set_cons_succ]
                    refine wpAnyH_take (i := 35) (oi := ⟨some 134, _, _, _, _, none⟩) (v := ?_) rfl (by kernel_rfl) (by kernel_rfl) (by kernel_rfl) (fun _ _ _ h => h) (Or.inl ⟨by kernel_rfl, ?_⟩) hSx ?_
                    rotate_left 1
                    focus (intro wx hSw; obtain ⟨s0, s1, s2, s3⟩ := hSw; go_simp; first | done | with_reducible rfl)
                    try simp only [Act.put, List.setIfInBounds_toArray, List.set_cons_zero, List.set_cons_succ]
                    refine wpAnyH_done (by kernel_rfl) ?_ _
                    go_wp2_with fail
                    go_meet
                    exact ⟨rfl, HR1.out⟩
                  · have hi0 : (0 : Int) ≤ (i0 : Int) := by omega
                    rcases hz1 with rfl | ⟨i1, rfl⟩
                    · have he : ab = false := by rw [HAX.out, decide_eq_true hi0]; rfl
                      subst he
                      refine wp_region_held_drew (S := (fun W => W.cell? ⟨pb, po + k * 3, none⟩ = some (.int .u32 xb) ∧ W.cell? ⟨pb, po + k * 3 + 1, none⟩ = some (.int .i64 xs) ∧ W.cell? ⟨b, o + 1, none⟩ = some (.slice u0.A u0.cs.length u0.c) ∧ W.cell? ⟨b, o + 2 + 1, none⟩ = some (.slice u1.A u1.cs.length u1.c))) (by kernel_rfl) ?_ (fun hSx => ?_)
                      · exact HCS.out _ HR0.out
                      refine wpAnyH_take (i := 0) (oi := ⟨some 99, _, _, _, _, none⟩) (v := ?_) rfl (by kernel_rfl) (by kernel_rfl) (by kernel_rfl) (fun _ _ _ h => h) (Or.inl ⟨by kernel_rfl, ?_⟩) hSx ?_
                      rotate_left 1
                      focus (intro wx hSw; obtain ⟨s0, s1, s2, s3⟩ := hSw; go_simp; first | done | with_reducible rfl)
                      try simp only [Act.put, List.setIfInBounds_toArray, List.set_cons_zero, List.set_cons_succ]
                      refine wpAnyH_take (i := 1) (oi := ⟨some 100, _, _, _, _, none⟩) (v := ?_) rfl (by kernel_rfl) (by kernel_rfl) (by kernel_rfl) (fun _ _ _ h => h) (Or.inl ⟨by kernel_rfl, ?_⟩) hSx ?_
                      rotate_left 1
                      focus (intro wx hSw; obtain ⟨s0, s1, s2, s3⟩ := hSw; go_simp; first | done | with_reducible rfl)
                      try simp only [Act.put, List.setIfInBounds_toArray, List.set_cons_zero, List.set_cons_succ]
                      refine wpAnyH_take (i := 2) (oi := ⟨some 101, _, _, _, _, none⟩) (v := ?_) rfl (by kernel_rfl) (by kernel_rfl) (by kernel_rfl) (fun _ _ _ h => h) (Or.inl ⟨by kernel_rfl, ?_⟩) hSx ?_
                      rotate_left 1
                      focus (intro wx hSw; obtain ⟨s0, s1, s2, s3⟩ := hSw; go_simp; first | done | with_reducible rfl)
                      try simp only [Act.put, List.setIfInBounds_toArray, List.set_cons_zero, List.set_cons_succ]
                      refine wpAnyH_take (i := 3) (oi := ⟨some 102, _, _, _, _, none⟩) (v := ?_) rfl (by kernel_rfl) (by kernel_rfl) (by kernel_rfl) (fun _ _ _ h => h) (Or.inl ⟨by kernel_rfl, ?_⟩) hSx ?_
                      rotate_left 1
                      focus (intro wx hSw; obtain ⟨s0, s1, s2, s3⟩ := hSw; go_simp; first | done | with_reducible rfl)
                      try simp only [Act.put, List.setIfInBounds_toArray, List.set_cons_zero, List.set_cons_succ]
                      refine wpAnyH_take (i := 4) (oi := ⟨some 103, _, _, _, _, none⟩) (v := ?_) rfl (by kernel_rfl) (by kernel_rfl) (by kernel_rfl) (fun _ _ _ h => h) (Or.inl ⟨by kernel_rfl, ?_⟩) hSx ?_
                      rotate_left 1
                      focus (intro wx hSw; obtain ⟨s0, s1, s2, s3⟩ := hSw; go_simp; first | done | with_reducible rfl)
                      try simp only [Act.put, List.setIfInBounds_toArray, List.set_cons_zero, List.set_cons_succ]
                      refine wpAnyH_take (i := 5) (oi := ⟨some 104, _, _, _, _, none⟩) (v := ?_) rfl (by kernel_rfl) (by kernel_rfl) (by kernel_rfl) (fun _ _ _ h => h) (Or.inl ⟨by kernel_rfl, ?_⟩) hSx ?_
                      rotate_left 1
                      focus (intro wx hSw; obtain ⟨s0, s1, s2, s3⟩ := hSw; go_simp; first | done | with_reducible rfl)
                      try simp only [Act.put, List.setIfInBounds_toArray, List.set_cons_zero, List.set_cons_succ]
                      refine wpAnyH_take (i := 6) (oi := ⟨some 105, _, _, _, _, none⟩) (v := ?_) rfl (by kernel_rfl) (by kernel_rfl) (by kernel_rfl) (fun _ _ _ h => h) (Or.inl ⟨by kernel_rfl, ?_⟩) hSx ?_
                      rotate_left 1
                      focus (intro wx hSw; obtain ⟨s0, s1, s2, s3⟩ := hSw; go_simp; first | done | with_reducible rfl)
                      try simp only [Act.put, List.setIfInBounds_toArray, List.set_cons_zero, List.set_cons_succ]
                      refine wpAnyH_take (i := 7) (oi := ⟨some 106, _, _, _, _, none⟩) (v := ?_) rfl (by kernel_rfl) (by kernel_rfl) (by kernel_rfl) (fun _ _ _ h => h) (Or.inl ⟨by kernel_rfl, ?_⟩) hSx ?_
                      rotate_left 1
                      focus (intro wx hSw; obtain ⟨s0, s1, s2, s3⟩ := hSw; go_simp; first | done | with_reducible rfl)
                      try simp only [Act.put, List.setIfInBounds_toArray, List.set_cons_zero, List.set_cons_succ]
                      refine wpAnyH_take (i := 8) (oi := ⟨some 107, _, _, _, _, none⟩) (v := ?_) rfl (by kernel_rfl) (by kernel_rfl) (by kernel_rfl) (fun _ _ _ h => h) (Or.inl ⟨by kernel_rfl, ?_⟩) hSx ?_
                      rotate_left 1
                      focus (intro wx hSw; obtain ⟨s0, s1, s2, s3⟩ := hSw; go_simp; first | done | with_reducible rfl)
                      try simp only [Act.put, List.setIfInBounds_toArray, List.set_cons_zero, List.set_cons_succ]
                      refine wpAnyH_ready (rs := [9]) (by kernel_rfl) (by simp) ?_
                      refine AllReadyH.cons (o := ⟨some 108, _, _, _, _, none⟩) rfl (fun KK hKK => ?_) AllReadyH.nil
                      go_simp
                      with_reducible refine Calls.mono (HX0.out _ HR0.out) ?_
                      rintro e z1 ⟨rfl, hz⟩
                      have HR1 := Lib.hid hz
                      clear hz
                      refine hKK.out _ _ (HCS.out _ HR1.out) (fun hSy => ?_)
                      clear hKK hSx
                      have hSx := hSy
                      clear hSy KK
                      try simp only [Act.put, List.setIfInBounds_toArray, List.set_cons_zero, List.set_cons_succ]
                      refine wpAnyH_take (i := 10) (oi := ⟨some 109, _, _, _, _, none⟩) (v := ?_) rfl (by kernel_rfl) (by kernel_rfl) (by kernel_rfl) (fun _ _ _ h => h) (Or.inl ⟨by kernel_rfl, ?_⟩) hSx ?_
                      rotate_left 1
                      focus (intro wx hSw; obtain ⟨s0, s1, s2, s3⟩ := hSw; go_simp; first | done | with_reducible rfl)
                      try simp only [Act.put, List.setIfInBounds_toArray, List.set_cons_zero, List.set_cons_succ]
                      refine wpAnyH_take (i := 11) (oi := ⟨some 110, _, _, _, _, none⟩) (v := ?_) rfl (by kernel_rfl) (by kernel_rfl) (by kernel_rfl) (fun _ _ _ h => h) (Or.inl ⟨by kernel_rfl, ?_⟩) hSx ?_
                      rotate_left 1
                      focus (intro wx hSw; obtain ⟨s0, s1, s2, s3⟩ := hSw; go_simp; first | done | with_reducible rfl)
                      try simp only [Act.put, List.setIfInBounds_toArray, List.set_cons_zero, List.set_cons_succ]
                      refine wpAnyH_take (i := 12) (oi := ⟨some 111, _, _, _, _, some (11, true)⟩) (v := ?_) rfl (by kernel_rfl) (by kernel_rfl) (by kernel_rfl) (fun _ _ _ h => h) (Or.inl ⟨by kernel_rfl, ?_⟩) hSx ?_
                      rotate_left 1
                      focus (intro wx hSw; obtain ⟨s0, s1, s2, s3⟩ := hSw; go_simp; first | done | with_reducible rfl)
                      try simp only [Act.put, List.setIfInBounds_toArray, List.set_cons_zero, List.set_cons_succ]
                      refine wpAnyH_take (i := 13) (oi := ⟨some 112, _, _, _, _, some (11, true)⟩) (v := ?_) rfl (by kernel_rfl) (by kernel_rfl) (by kernel_rfl) (fun _ _ _ h => h) (Or.inl ⟨by kernel_rfl, ?_⟩) hSx ?_
                      rotate_left 1
                      focus (intro wx hSw; obtain ⟨s0, s1, s2, s3⟩ := hSw; go_simp; first | done | with_reducible rfl)
                      try simp only [Act.put, List.setIfInBounds_toArray, List.set_cons_zero, List.set_cons_succ]
                      refine wpAnyH_take (i := 14) (oi := ⟨some 113, _, _, _, _, some (11, true)⟩) (v := ?_) rfl (by kernel_rfl) (by kernel_rfl) (by kernel_rfl) (fun _ _ _ h => h) (Or.inl ⟨by kernel_rfl, ?_⟩) hSx ?_
                      rotate_left 1
                      focus (intro wx hSw; obtain ⟨s0, s1, s2, s3⟩ := hSw; go_simp; first | done | with_reducible rfl)
                      try simp only [Act.put, List.setIfInBounds_toArray, List.set_cons_zero, List.set_cons_succ]
                      refine wpAnyH_take (i := 15) (oi := ⟨some 114, _, _, _, _, some (11, true)⟩) (v := ?_) rfl (by kernel_rfl) (by kernel_rfl) (by kernel_rfl) (fun _ _ _ h => h) (Or.inl ⟨by kernel_rfl, ?_⟩) hSx ?_
                      rotate_left 1
                      focus (intro wx hSw; obtain ⟨s0, s1, s2, s3⟩ := hSw; go_simp; first | done | with_reducible rfl)
                      try simp only [Act.put, List.setIfInBounds_toArray, List.set_cons_zero, List.set_cons_succ]
                      refine wpAnyH_take (i := 16) (oi := ⟨some 115, _, _, _, _, some (11, true)⟩) (v := ?_) rfl (by kernel_rfl) (by kernel_rfl) (by kernel_rfl) (fun _ _ _ h => h) (Or.inl ⟨by kernel_rfl, ?_⟩) hSx ?_
                      rotate_left 1
                      focus (intro wx hSw; obtain ⟨s0, s1, s2, s3⟩ := hSw; go_simp; first | done | with_reducible rfl)
                      try simp only [Act.put, List.setIfInBounds_toArray, List.set_cons_zero, List.set_cons_succ]
                      refine wpAnyH_take (i := 17) (oi := ⟨some 116, _, _, _, _, some (11, true)⟩) (v := ?_) rfl (by kernel_rfl) (by kernel_rfl) (by kernel_rfl) (fun _ _ _ h => h) (Or.inl ⟨by kernel_rfl, ?_⟩) hSx ?_
                      rotate_left 1
                      focus (intro wx hSw; obtain ⟨s0, s1, s2, s3⟩ := hSw; go_simp; first | done | with_reducible rfl)
                      try simp only [Act.put, List.setIfInBounds_toArray, List.set_cons_zero, List.set_cons_succ]
                      refine wpAnyH_take (i := 18) (oi := ⟨some 117, _, _, _, _, some (11, true)⟩) (v := ?_) rfl (by kernel_rfl) (by kernel_rfl) (by kernel_rfl) (fun _ _ _ h => h) (Or.inl ⟨by kernel_rfl, ?_⟩) hSx ?_
                      rotate_left 1
                      focus (intro wx hSw; obtain ⟨s0, s1, s2, s3⟩ := hSw; go_simp; first | done | with_reducible rfl)
                      try simp only [Act.put, List.setIfInBounds_toArray, List.set_cons_zero, List.set_cons_succ]
                      refine wpAnyH_take (i := 19) (oi := ⟨some 118, _, _, _, _, some (11, true)⟩) (v := ?_) rfl (by kernel_rfl) (by kernel_rfl) (by kernel_rfl) (fun _ _ _ h => h) (Or.inl ⟨by kernel_rfl, ?_⟩) hSx ?_
                      rotate_left 1
                      focus (intro wx hSw; obtain ⟨s0, s1, s2, s3⟩ := hSw; go_simp; first | done | with_reducible rfl)
                      try simp only [Act.put, List.setIfInBounds_toArray, List.set_cons_zero, List.set_cons_succ]
                      refine wpAnyH_take (i := 20) (oi := ⟨some 119, _, _, _, _, some (11, true)⟩) (v := ?_) rfl (by kernel_rfl) (by kernel_rfl) (by kernel_rfl) (fun _ _ _ h => h) (Or.inl ⟨by kernel_rfl, ?_⟩) hSx ?_
                      rotate_left 1
                      focus (intro wx hSw; obtain ⟨s0, s1, s2, s3⟩ := hSw; go_simp; first | done | with_reducible rfl)
                      try simp only [Act.put, List.setIfInBounds_toArray, List.set_cons_zero, List.set_cons_succ]
                      refine wpAnyH_ready (rs := [21]) (by kernel_rfl) (by simp) ?_
                      refine AllReadyH.cons (o := ⟨some 120, _, _, _, _, some (11, true)⟩) rfl (fun KK hKK => ?_) AllReadyH.nil
                      go_simp
                      with_reducible refine Calls.mono (HX1.out _ HR1.out) ?_
                      rintro e z2 ⟨rfl, hz⟩
                      have HR2 := Lib.hid hz
                      clear hz
                      refine hKK.out _ _ (HCS.out _ HR2.out) (fun hSy => ?_)
                      clear hKK hSx
                      have hSx := hSy
                      clear hSy KK
                      try simp only [Act.put, List.setIfInBounds_toArray, List.set_cons_zero, List.set_cons_succ]
                      refine wpAnyH_take (i := 22) (oi := ⟨some 121, _, _, _, _, some (11, true)⟩) (v := ?_) rfl (by kernel_rfl) (by kernel_rfl) (by kernel_rfl) (fun _ _ _ h => h) (Or.inl ⟨by kernel_rfl, ?_⟩) hSx ?_
                      rotate_left 1
                      focus (intro wx hSw; obtain ⟨s0, s1, s2, s3⟩ := hSw; go_simp; first | done | with_reducible rfl)
                      try simp only [Act.put, List.setIfInBounds_toArray, List.set_cons_zero, List.set_cons_succ]
                      refine wpAnyH_take (i := 23) (oi := ⟨some 122, _, _, _, _, none⟩) (v := ?_) rfl (by kernel_rfl) (by kernel_rfl) (by kernel_rfl) (fun _ _ _ h => h) (Or.inl ⟨by kernel_rfl, ?_⟩) hSx ?_
                      rotate_left 1
                      focus (intro wx hSw; obtain ⟨s0, s1, s2, s3⟩ := hSw; go_simp; first | done | with_reducible rfl)
                      try simp only [Act.put, List.setIfInBounds_toArray, List.set_cons_zero, List.set_cons_succ]
                      refine wpAnyH_take (i := 24) (oi := ⟨some 123, _, _, _, _, none⟩) (v := ?_) rfl (by kernel_rfl) (by kernel_rfl) (by kernel_rfl) (fun _ _ _ h => h) (Or.inl ⟨by kernel_rfl, ?_⟩) hSx ?_
                      rotate_left 1
                      focus (intro wx hSw; obtain ⟨s0, s1, s2, s3⟩ := hSw; go_simp; first | done | with_reducible rfl)
                      try simp only [Act.put, List.setIfInBounds_toArray, List.set_cons_zero, List.set_cons_succ]
                      refine wpAnyH_take (i := 25) (oi := ⟨some 124, _, _, _, _, some (24, true)⟩) (v := undef) rfl (by kernel_rfl) (by kernel_rfl) (by kernel_rfl) (fun _ _ _ h => h) (Or.inr ⟨by kernel_rfl, rfl⟩) hSx ?_
                      try simp only [Act.put, List.setIfInBounds_toArray, List.set_cons_zero, List.set_cons_succ]
                      refine wpAnyH_take (i := 26) (oi := ⟨some 125, _, _, _, _, some (24, true)⟩) (v := undef) rfl (by kernel_rfl) (by kernel_rfl) (by kernel_rfl) (fun _ _ _ h => h) (Or.inr ⟨by kernel_rfl, rfl⟩) hSx ?_
                      try simp only [Act.put, List.setIfInBounds_toArray, List.set_cons_zero, List.set_cons_succ]
                      refine wpAnyH_take (i := 27) (oi := ⟨some 126, _, _, _, _, some (24, true)⟩) (v := undef) rfl (by kernel_rfl) (by kernel_rfl) (by kernel_rfl) (fun _ _ _ h => h) (Or.inr ⟨by kernel_rfl, rfl⟩) hSx ?_
                      try simp only [Act.put, List.setIfInBounds_toArray, List.set_cons_zero, List.set_cons_succ]
                      refine wpAnyH_take (i := 28) (oi := ⟨some 127, _, _, _, _, some (24, true)⟩) (v := undef) rfl (by kernel_rfl) (by kernel_rfl) (by kernel_rfl) (fun _ _ _ h => h) (Or.inr ⟨by kernel_rfl, rfl⟩) hSx ?_
                      try simp only [Act.put, List.setIfInBounds_toArray, List.set_cons_zero, List.set_cons_succ]
                      refine wpAnyH_take (i := 29) (oi := ⟨some 128, _, _, _, _, some (24, true)⟩) (v := undef) rfl (by kernel_rfl) (by kernel_rfl) (by kernel_rfl) (fun _ _ _ h => h) (Or.inr ⟨by kernel_rfl, rfl⟩) hSx ?_
                      try simp only [Act.put, List.setIfInBounds_toArray, List.set_cons_zero, List.set_cons_succ]
                      refine wpAnyH_take (i := 30) (oi := ⟨some 129, _, _, _, _, some (24, true)⟩) (v := undef) rfl (by kernel_rfl) (by kernel_rfl) (by kernel_rfl) (fun _ _ _ h => h) (Or.inr ⟨by kernel_rfl, rfl⟩) hSx ?_
                      try simp only [Act.put, List.setIfInBounds_toArray, List.set_cons_zero, List.set_cons_succ]
                      refine wpAnyH_take (i := 31) (oi := ⟨some 130, _, _, _, _, some (24, true)⟩) (v := undef) rfl (by kernel_rfl) (by kernel_rfl) (by kernel_rfl) (fun _ _ _ h => h) (Or.inr ⟨by kernel_rfl, rfl⟩) hSx ?_
                      try simp only [Act.put, List.setIfInBounds_toArray, List.set_cons_zero, List.set_cons_succ]
                      refine wpAnyH_take (i := 32) (oi := ⟨some 131, _, _, _, _, some (24, true)⟩) (v := undef) rfl (by kernel_rfl) (by kernel_rfl) (by kernel_rfl) (fun _ _ _ h => h) (Or.inr ⟨by kernel_rfl, rfl⟩) hSx ?_
                      try simp only [Act.put, List.setIfInBounds_toArray, List.set_cons_zero, List.set_cons_succ]
                      refine wpAnyH_take (i := 33) (oi := ⟨some 132, _, _, _, _, some (24, true)⟩) (v := undef) rfl (by kernel_rfl) (by kernel_rfl) (by kernel_rfl) (fun _ _ _ h => h) (Or.inr ⟨by kernel_rfl, rfl⟩) hSx ?_
                      try simp only [Act.put, List.setIfInBounds_toArray, List.set_cons_zero, List.set_cons_succ]
                      refine wpAnyH_take (i := 34) (oi := ⟨some 133, _, _, _, _, some (24, true)⟩) (v := undef) rfl (by kernel_rfl) (by kernel_rfl) (by kernel_rfl) (fun _ _ _ h => h) (Or.inr ⟨by kernel_rfl, rfl⟩) hSx ?_
                      try simp only [Act.put, List.setIfInBounds_toArray, List.set_cons_zero, List.set_cons_succ]
                      refine wpAnyH_take (i := 35) (oi := ⟨some 134, _, _, _, _, none⟩) (v := ?_) rfl (by kernel_rfl) (by kernel_rfl) (by kernel_rfl) (fun _ _ _ h => h) (Or.inl ⟨by kernel_rfl, ?_⟩) hSx ?_
                      rotate_left 1
                      focus (intro wx hSw; obtain ⟨s0, s1, s2, s3⟩ := hSw; go_simp; first | done | with_reducible rfl)
                      try simp only [Act.put, List.setIfInBounds_toArray, List.set_cons_zero, List.set_cons_succ]
                      refine wpAnyH_done (by kernel_rfl) ?_ _
                      go_wp2_with fail
                      go_meet
                      exact ⟨rfl, HR2.out⟩
                    · have hi1 : (0 : Int) ≤ (i1 : Int) := by omega
                      have he : ab = YB := by rw [HAX.out, decide_eq_true hi0, decide_eq_true hi1]; rfl
                      subst he
                      refine wp_region_held_drew (S := (fun W => W.cell? ⟨pb, po + k * 3, none⟩ = some (.int .u32 xb) ∧ W.cell? ⟨pb, po + k * 3 + 1, none⟩ = some (.int .i64 xs) ∧ W.cell? ⟨b, o + 1, none⟩ = some (.slice u0.A u0.cs.length u0.c) ∧ W.cell? ⟨b, o + 2 + 1, none⟩ = some (.slice u1.A u1.cs.length u1.c))) (by kernel_rfl) ?_ (fun hSx => ?_)
                      · exact HCS.out _ HR0.out
                      refine wpAnyH_take (i := 0) (oi := ⟨some 99, _, _, _, _, none⟩) (v := ?_) rfl (by kernel_rfl) (by kernel_rfl) (by kernel_rfl) (fun _ _ _ h => h) (Or.inl ⟨by kernel_rfl, ?_⟩) hSx ?_
                      rotate_left 1
                      focus (intro wx hSw; obtain ⟨s0, s1, s2, s3⟩ := hSw; go_simp; first | done | with_reducible rfl)
                      try simp only [Act.put, List.setIfInBounds_toArray, List.set_cons_zero, List.set_cons_succ]
                      refine wpAnyH_take (i := 1) (oi := ⟨some 100, _, _, _, _, none⟩) (v := ?_) rfl (by kernel_rfl) (by kernel_rfl) (by kernel_rfl) (fun _ _ _ h => h) (Or.inl ⟨by kernel_rfl, ?_⟩) hSx ?_
                      rotate_left 1
                      focus (intro wx hSw; obtain ⟨s0, s1, s2, s3⟩ := hSw; go_simp; first | done | with_reducible rfl)
                      try simp only [Act.put, List.setIfInBounds_toArray, List.set_cons_zero, List.set_cons_succ]
                      refine wpAnyH_take (i := 2) (oi := ⟨some 101, _, _, _, _, none⟩) (v := ?_) rfl (by kernel_rfl) (by kernel_rfl) (by kernel_rfl) (fun _ _ _ h => h) (Or.inl ⟨by kernel_rfl, ?_⟩) hSx ?_
                      rotate_left 1
                      focus (intro wx hSw; obtain ⟨s0, s1, s2, s3⟩ := hSw; go_simp; first | done | with_reducible rfl)
                      try simp only [Act.put, List.setIfInBounds_toArray, List.set_cons_zero, List.set_cons_succ]
                      refine wpAnyH_take (i := 3) (oi := ⟨some 102, _, _, _, _, none⟩) (v := ?_) rfl (by kernel_rfl) (by kernel_rfl) (by kernel_rfl) (fun _ _ _ h => h) (Or.inl ⟨by kernel_rfl, ?_⟩) hSx ?_
                      rotate_left 1
                      focus (intro wx hSw; obtain ⟨s0, s1, s2, s3⟩ := hSw; go_simp; first | done | with_reducible rfl)
                      try simp only [Act.put, List.setIfInBounds_toArray, List.set_cons_zero, List.set_cons_succ]
                      refine wpAnyH_take (i := 4) (oi := ⟨some 103, _, _, _, _, none⟩) (v := ?_) rfl (by kernel_rfl) (by kernel_rfl) (by kernel_rfl) (fun _ _ _ h => h) (Or.inl ⟨by kernel_rfl, ?_⟩) hSx ?_
                      rotate_left 1
                      focus (intro wx hSw; obtain ⟨s0, s1, s2, s3⟩ := hSw; go_simp; first | done | with_reducible rfl)
                      try simp only [Act.put, List.setIfInBounds_toArray, List.set_cons_zero, List.set_cons_succ]
                      refine wpAnyH_take (i := 5) (oi := ⟨some 104, _, _, _, _, none⟩) (v := ?_) rfl (by kernel_rfl) (by kernel_rfl) (by kernel_rfl) (fun _ _ _ h => h) (Or.inl ⟨by kernel_rfl, ?_⟩) hSx ?_
                      rotate_left 1
                      focus (intro wx hSw; obtain ⟨s0, s1, s2, s3⟩ := hSw; go_simp; first | done | with_reducible rfl)
                      try simp only [Act.put, List.setIfInBounds_toArray, List.set_cons_zero, List.set_cons_succ]
                      refine wpAnyH_take (i := 6) (oi := ⟨some 105, _, _, _, _, none⟩) (v := ?_) rfl (by kernel_rfl) (by kernel_rfl) (by kernel_rfl) (fun _ _ _ h => h) (Or.inl ⟨by kernel_rfl, ?_⟩) hSx ?_
                      rotate_left 1
                      focus (intro wx hSw; obtain ⟨s0, s1, s2, s3⟩ := hSw; go_simp; first | done | with_reducible rfl)
                      try simp only [Act.put, List.setIfInBounds_toArray, List.set_cons_zero, List.set_cons_succ]
                      refine wpAnyH_take (i := 7) (oi := ⟨some 106, _, _, _, _, none⟩) (v := ?_) rfl (by kernel_rfl) (by kernel_rfl) (by kernel_rfl) (fun _ _ _ h => h) (Or.inl ⟨by kernel_rfl, ?_⟩) hSx ?_
                      rotate_left 1
                      focus (intro wx hSw; obtain ⟨s0, s1, s2, s3⟩ := hSw; go_simp; first | done | with_reducible rfl)
                      try simp only [Act.put, List.setIfInBounds_toArray, List.set_cons_zero, List.set_cons_succ]
                      refine wpAnyH_take (i := 8) (oi := ⟨some 107, _, _, _, _, none⟩) (v := ?_) rfl (by kernel_rfl) (by kernel_rfl) (by kernel_rfl) (fun _ _ _ h => h) (Or.inl ⟨by kernel_rfl, ?_⟩) hSx ?_
                      rotate_left 1
                      focus (intro wx hSw; obtain ⟨s0, s1, s2, s3⟩ := hSw; go_simp; first | done | with_reducible rfl)
                      try simp only [Act.put, List.setIfInBounds_toArray, List.set_cons_zero, List.set_cons_succ]
                      refine wpAnyH_ready (rs := [9]) (by kernel_rfl) (by simp) ?_
                      refine AllReadyH.cons (o := ⟨some 108, _, _, _, _, none⟩) rfl (fun KK hKK => ?_) AllReadyH.nil
                      go_simp
                      with_reducible refine Calls.mono (HX0.out _ HR0.out) ?_
                      rintro e z1 ⟨rfl, hz⟩
                      have HR1 := Lib.hid hz
                      clear hz
                      refine hKK.out _ _ (HCS.out _ HR1.out) (fun hSy => ?_)
                      clear hKK hSx
                      have hSx := hSy
                      clear hSy KK
                      try simp only [Act.put, List.setIfInBounds_toArray, List.set_cons_zero, List.set_cons_succ]
                      refine wpAnyH_take (i := 10) (oi := ⟨some 109, _, _, _, _, none⟩) (v := ?_) rfl (by kernel_rfl) (by kernel_rfl) (by kernel_rfl) (fun _ _ _ h => h) (Or.inl ⟨by kernel_rfl, ?_⟩) hSx ?_
                      rotate_left 1
                      focus (intro wx hSw; obtain ⟨s0, s1, s2, s3⟩ := hSw; go_simp; first | done | with_reducible rfl)
                      try simp only [Act.put, List.setIfInBounds_toArray, List.set_cons_zero, List.set_cons_succ]
                      refine wpAnyH_take (i := 11) (oi := ⟨some 110, _, _, _, _, none⟩) (v := ?_) rfl (by kernel_rfl) (by kernel_rfl) (by kernel_rfl) (fun _ _ _ h => h) (Or.inl ⟨by kernel_rfl, ?_⟩) hSx ?_
                      rotate_left 1
                      focus (intro wx hSw; obtain ⟨s0, s1, s2, s3⟩ := hSw; go_simp; first | done | with_reducible rfl)
                      try simp only [Act.put, List.setIfInBounds_toArray, List.set_cons_zero, List.set_cons_succ]
                      refine wpAnyH_take (i := 12) (oi := ⟨some 111, _, _, _, _, some (11, true)⟩) (v := ?_) rfl (by kernel_rfl) (by kernel_rfl) (by kernel_rfl) (fun _ _ _ h => h) (Or.inl ⟨by kernel_rfl, ?_⟩) hSx ?_
                      rotate_left 1
                      focus (intro wx hSw; obtain ⟨s0, s1, s2, s3⟩ := hSw; go_simp; first | done | with_reducible rfl)
                      try simp only [Act.put, List.setIfInBounds_toArray, List.set_cons_zero, List.set_cons_succ]
                      refine wpAnyH_take (i := 13) (oi := ⟨some 112, _, _, _, _, some (11, true)⟩) (v := ?_) rfl (by kernel_rfl) (by kernel_rfl) (by kernel_rfl) (fun _ _ _ h => h) (Or.inl ⟨by kernel_rfl, ?_⟩) hSx ?_
                      rotate_left 1
                      focus (intro wx hSw; obtain ⟨s0, s1, s2, s3⟩ := hSw; go_simp; first | done | with_reducible rfl)
                      try simp only [Act.put, List.setIfInBounds_toArray, List.set_cons_zero, List.set_cons_succ]
                      refine wpAnyH_take (i := 14) (oi := ⟨some 113, _, _, _, _, some (11, true)⟩) (v := ?_) rfl (by kernel_rfl) (by kernel_rfl) (by kernel_rfl) (fun _ _ _ h => h) (Or.inl ⟨by kernel_rfl, ?_⟩) hSx ?_
                      rotate_left 1
                      focus (intro wx hSw; obtain ⟨s0, s1, s2, s3⟩ := hSw; go_simp; first | done | with_reducible rfl)
                      try simp only [Act.put, List.setIfInBounds_toArray, List.set_cons_zero, List.set_cons_succ]
                      refine wpAnyH_take (i := 15) (oi := ⟨some 114, _, _, _, _, some (11, true)⟩) (v := ?_) rfl (by kernel_rfl) (by kernel_rfl) (by kernel_rfl) (fun _ _ _ h => h) (Or.inl ⟨by kernel_rfl, ?_⟩) hSx ?_
                      rotate_left 1
                      focus (intro wx hSw; obtain ⟨s0, s1, s2, s3⟩ := hSw; go_simp; first | done | with_reducible rfl)
                      try simp only [Act.put, List.setIfInBounds_toArray, List.set_cons_zero, List.set_cons_succ]
                      refine wpAnyH_take (i := 16) (oi := ⟨some 115, _, _, _, _, some (11, true)⟩) (v := ?_) rfl (by kernel_rfl) (by kernel_rfl) (by kernel_rfl) (fun _ _ _ h => h) (Or.inl ⟨by kernel_rfl, ?_⟩) hSx ?_
                      rotate_left 1
                      focus (intro wx hSw; obtain ⟨s0, s1, s2, s3⟩ := hSw; go_simp; first | done | with_reducible rfl)
                      try simp only [Act.put, List.setIfInBounds_toArray, List.set_cons_zero, List.set_cons_succ]
                      refine wpAnyH_take (i := 17) (oi := ⟨some 116, _, _, _, _, some (11, true)⟩) (v := ?_) rfl (by kernel_rfl) (by kernel_rfl) (by kernel_rfl) (fun _ _ _ h => h) (Or.inl ⟨by kernel_rfl, ?_⟩) hSx ?_
                      rotate_left 1
                      focus (intro wx hSw; obtain ⟨s0, s1, s2, s3⟩ := hSw; go_simp; first | done | with_reducible rfl)
                      try simp only [Act.put, List.setIfInBounds_toArray, List.set_cons_zero, List.set_cons_succ]
                      refine wpAnyH_take (i := 18) (oi := ⟨some 117, _, _, _, _, some (11, true)⟩) (v := ?_) rfl (by kernel_rfl) (by kernel_rfl) (by kernel_rfl) (fun _ _ _ h => h) (Or.inl ⟨by kernel_rfl, ?_⟩) hSx ?_
                      rotate_left 1
                      focus (intro wx hSw; obtain ⟨s0, s1, s2, s3⟩ := hSw; go_simp; first | done | with_reducible rfl)
                      try simp only [Act.put, List.setIfInBounds_toArray, List.set_cons_zero, List.set_cons_succ]
                      refine wpAnyH_take (i := 19) (oi := ⟨some 118, _, _, _, _, some (11, true)⟩) (v := ?_) rfl (by kernel_rfl) (by kernel_rfl) (by kernel_rfl) (fun _ _ _ h => h) (Or.inl ⟨by kernel_rfl, ?_⟩) hSx ?_
                      rotate_left 1
                      focus (intro wx hSw; obtain ⟨s0, s1, s2, s3⟩ := hSw; go_simp; first | done | with_reducible rfl)
                      try simp only [Act.put, List.setIfInBounds_toArray, List.set_cons_zero, List.set_cons_succ]
                      refine wpAnyH_take (i := 20) (oi := ⟨some 119, _, _, _, _, some (11, true)⟩) (v := ?_) rfl (by kernel_rfl) (by kernel_rfl) (by kernel_rfl) (fun _ _ _ h => h) (Or.inl ⟨by kernel_rfl, ?_⟩) hSx ?_
                      rotate_left 1
                      focus (intro wx hSw; obtain ⟨s0, s1, s2, s3⟩ := hSw; go_simp; first | done | with_reducible rfl)
                      try simp only [Act.put, List.setIfInBounds_toArray, List.set_cons_zero, List.set_cons_succ]
                      refine wpAnyH_ready (rs := [21]) (by kernel_rfl) (by simp) ?_
                      refine AllReadyH.cons (o := ⟨some 120, _, _, _, _, some (11, true)⟩) rfl (fun KK hKK => ?_) AllReadyH.nil
                      go_simp
                      with_reducible refine Calls.mono (HX1.out _ HR1.out) ?_
                      rintro e z2 ⟨rfl, hz⟩
                      have HR2 := Lib.hid hz
                      clear hz
                      refine hKK.out _ _ (HCS.out _ HR2.out) (fun hSy => ?_)
                      clear hKK hSx
                      have hSx := hSy
                      clear hSy KK
                      try simp only [Act.put, List.setIfInBounds_toArray, List.set_cons_zero, List.set_cons_succ]
                      refine wpAnyH_take (i := 22) (oi := ⟨some 121, _, _, _, _, some (11, true)⟩) (v := ?_) rfl (by kernel_rfl) (by kernel_rfl) (by kernel_rfl) (fun _ _ _ h => h) (Or.inl ⟨by kernel_rfl, ?_⟩) hSx ?_
                      rotate_left 1
                      focus (intro wx hSw; obtain ⟨s0, s1, s2, s3⟩ := hSw; go_simp; first | done | with_reducible rfl)
                      try simp only [Act.put, List.setIfInBounds_toArray, List.set_cons_zero, List.set_cons_succ]
                      refine wpAnyH_take (i := 23) (oi := ⟨some 122, _, _, _, _, none⟩) (v := ?_) rfl (by kernel_rfl) (by kernel_rfl) (by kernel_rfl) (fun _ _ _ h => h) (Or.inl ⟨by kernel_rfl, ?_⟩) hSx ?_
                      rotate_left 1
                      focus (intro wx hSw; obtain ⟨s0, s1, s2, s3⟩ := hSw; go_simp; first | done | with_reducible rfl)
                      try simp only [Act.put, List.setIfInBounds_toArray, List.set_cons_zero, List.set_cons_succ]
                      refine wpAnyH_take (i := 24) (oi := ⟨some 123, _, _, _, _, none⟩) (v := ?_) rfl (by kernel_rfl) (by kernel_rfl) (by kernel_rfl) (fun _ _ _ h => h) (Or.inl ⟨by kernel_rfl, ?_⟩) hSx ?_
                      rotate_left 1
                      focus (intro wx hSw; obtain ⟨s0, s1, s2, s3⟩ := hSw; go_simp; first | done | with_reducible rfl)
                      try simp only [Act.put, List.setIfInBounds_toArray, List.set_cons_zero, List.set_cons_succ]
                      refine wpAnyH_take (i := 25) (oi := ⟨some 124, _, _, _, _, some (24, true)⟩) (v := ?_) rfl (by kernel_rfl) (by kernel_rfl) (by kernel_rfl) (fun _ _ _ h => h) (Or.inl ⟨by kernel_rfl, ?_⟩) hSx ?_
                      rotate_left 1
                      focus (intro wx hSw; obtain ⟨s0, s1, s2, s3⟩ := hSw; go_simp; first | done | with_reducible rfl)
                      try simp only [Act.put, List.setIfInBounds_toArray, List.set_cons_zero, List.set_cons_succ]
                      refine wpAnyH_take (i := 26) (oi := ⟨some 125, _, _, _, _, some (24, true)⟩) (v := ?_) rfl (by kernel_rfl) (by kernel_rfl) (by kernel_rfl) (fun _ _ _ h => h) (Or.inl ⟨by kernel_rfl, ?_⟩) hSx ?_
                      rotate_left 1
                      focus (intro wx hSw; obtain ⟨s0, s1, s2, s3⟩ := hSw; go_simp; first | done | with_reducible rfl)
                      try simp only [Act.put, List.setIfInBounds_toArray, List.set_cons_zero, List.set_cons_succ]
                      refine wpAnyH_take (i := 27) (oi := ⟨some 126, _, _, _, _, some (24, true)⟩) (v := ?_) rfl (by kernel_rfl) (by kernel_rfl) (by kernel_rfl) (fun _ _ _ h => h) (Or.inl ⟨by kernel_rfl, ?_⟩) hSx ?_
                      rotate_left 1
                      focus (intro wx hSw; obtain ⟨s0, s1, s2, s3⟩ := hSw; go_simp; first | done | with_reducible rfl)
                      try simp only [Act.put, List.setIfInBounds_toArray, List.set_cons_zero, List.set_cons_succ]
                      refine wpAnyH_take (i := 28) (oi := ⟨some 127, _, _, _, _, some (24, true)⟩) (v := ?_) rfl (by kernel_rfl) (by kernel_rfl) (by kernel_rfl) (fun _ _ _ h => h) (Or.inl ⟨by kernel_rfl, ?_⟩) hSx ?_
                      rotate_left 1
                      focus (intro wx hSw; obtain ⟨s0, s1, s2, s3⟩ := hSw; go_simp; first | done | with_reducible rfl)
                      try simp only [Act.put, List.setIfInBounds_toArray, List.set_cons_zero, List.set_cons_succ]
                      refine wpAnyH_take (i := 29) (oi := ⟨some 128, _, _, _, _, some (24, true)⟩) (v := ?_) rfl (by kernel_rfl) (by kernel_rfl) (by kernel_rfl) (fun _ _ _ h => h) (Or.inl ⟨by kernel_rfl, ?_⟩) hSx ?_
                      rotate_left 1
                      focus (intro wx hSw; obtain ⟨s0, s1, s2, s3⟩ := hSw; go_simp; first | done | with_reducible rfl)
                      try simp only [Act.put, List.setIfInBounds_toArray, List.set_cons_zero, List.set_cons_succ]
                      refine wpAnyH_take (i := 30) (oi := ⟨some 129, _, _, _, _, some (24, true)⟩) (v := ?_) rfl (by kernel_rfl) (by kernel_rfl) (by kernel_rfl) (fun _ _ _ h => h) (Or.inl ⟨by kernel_rfl, ?_⟩) hSx ?_
                      rotate_left 1
                      focus (intro wx hSw; obtain ⟨s0, s1, s2, s3⟩ := hSw; go_simp; first | done | with_reducible rfl)
                      try simp only [Act.put, List.setIfInBounds_toArray, List.set_cons_zero, List.set_cons_succ]
                      refine wpAnyH_take (i := 31) (oi := ⟨some 130, _, _, _, _, some (24, true)⟩) (v := ?_) rfl (by kernel_rfl) (by kernel_rfl) (by kernel_rfl) (fun _ _ _ h => h) (Or.inl ⟨by kernel_rfl, ?_⟩) hSx ?_
                      rotate_left 1
                      focus (intro wx hSw; obtain ⟨s0, s1, s2, s3⟩ := hSw; go_simp; first | done | with_reducible rfl)
                      try simp only [Act.put, List.setIfInBounds_toArray, List.set_cons_zero, List.set_cons_succ]
                      refine wpAnyH_take (i := 32) (oi := ⟨some 131, _, _, _, _, some (24, true)⟩) (v := ?_) rfl (by kernel_rfl) (by kernel_rfl) (by kernel_rfl) (fun _ _ _ h => h) (Or.inl ⟨by kernel_rfl, ?_⟩) hSx ?_
                      rotate_left 1
                      focus (intro wx hSw; obtain ⟨s0, s1, s2, s3⟩ := hSw; go_simp; first | done | with_reducible rfl)
                      try simp only [Act.put, List.setIfInBounds_toArray, List.set_cons_zero, List.set_cons_succ]
                      refine wpAnyH_ready (rs := [33]) (by kernel_rfl) (by simp) ?_
                      refine AllReadyH.cons (o := ⟨some 132, _, _, _, _, some (24, true)⟩) rfl (fun KK hKK => ?_) AllReadyH.nil
                      go_simp
                      have HR3 : Hid (Below w5.heap.size w5 (z2.alloc (.cells #[.string (str u0.nm), .string (str u1.nm)] 9))) := Lib.hid (HR2.out.alloc HR2.out.size _)
                      refine hKK.out _ _ (HCS.out _ HR3.out) (fun hSy => ?_)
                      clear hKK hSx
                      have hSx := hSy
                      clear hSy KK
                      try simp only [Act.put, List.setIfInBounds_toArray, List.set_cons_zero, List.set_cons_succ]
                      refine wpAnyH_ready (rs := [34]) (by kernel_rfl) (by simp) ?_
                      refine AllReadyH.cons (o := ⟨some 133, _, _, _, _, some (24, true)⟩) rfl (fun KK hKK => ?_) AllReadyH.nil
                      go_simp
                      with_reducible refine Calls.mono (HX2.out _ HR2.out _ rfl) ?_
                      rintro e z4 ⟨rfl, hz⟩
                      have HR4 := Lib.hid hz
                      clear hz
                      refine hKK.out _ _ (HCS.out _ HR4.out) (fun hSy => ?_)
                      clear hKK hSx
                      have hSx := hSy
                      clear hSy KK
                      try simp only [Act.put, List.setIfInBounds_toArray, List.set_cons_zero, List.set_cons_succ]
                      refine wpAnyH_take (i := 35) (oi := ⟨some 134, _, _, _, _, none⟩) (v := ?_) rfl (by kernel_rfl) (by kernel_rfl) (by kernel_rfl) (fun _ _ _ h => h) (Or.inl ⟨by kernel_rfl, ?_⟩) hSx ?_
                      rotate_left 1
                      focus (intro wx hSw; obtain ⟨s0, s1, s2, s3⟩ := hSw; go_simp; first | done | with_reducible rfl)
                      try simp only [Act.put, List.setIfInBounds_toArray, List.set_cons_zero, List.set_cons_succ]
                      refine wpAnyH_done (by kernel_rfl) ?_ _
                      go_wp2_with fail
                      go_meet
                      exact ⟨rfl, HR4.out⟩
                case rest =>
                  obtain ⟨rfl, hbx⟩ := hcut
                  have HBX := Lib.hid hbx
                  clear hbx f0 f1 f2 f3 f4
                  obtain ⟨_, _, f2, _, _⟩ := HCX.out _ HBX.out
                  cases ab
                  case false =>
                    have HE : Hid (F (k + 1) = F k) := Lib.hid (by rw [HSX.out]; simp)
                    go_wp2_with fail
                    go_roundg (L.length - (k + 1))
                    case measure => rw [HK.out]; omega
                    case rel => exact ⟨k + 1, by omega, rfl, by go_num, by rw [HE.out], HBX.out⟩
                  case true =>
                    have HE : Hid (F (k + 1) = F k + xl) := Lib.hid (by rw [HSX.out]; simp)
                    go_wp2_with fail
                    go_roundg (L.length - (k + 1))
                    case measure => rw [HK.out]; omega
                    case rel => exact ⟨k + 1, by omega, rfl, by go_num, by rw [HE.out], HBX.out⟩
              · obtain rfl : k = L.length := by omega
                have hsp := HSP.out L.length (Nat.le_refl _)
                generalize F L.length = FL at *
                go_wp2_with fail
                refine Calls.mono (HG2.out _ HBR3.out _ rfl) ?_
                rintro e y6 ⟨rfl, hv⟩
                have HY6 : Hid (Below w3.heap.size w3 y6) := Lib.hid (HBR3.out.trans (hv.mono HBR3.out.size))
                clear hv
                go_wp2_with fail
                refine Calls.mono (HG10.out _ HY6.out _ rfl) ?_
                rintro e y7 ⟨rfl, hv⟩
                have HY7 : Hid (Below w3.heap.size w3 y7) := Lib.hid (HY6.out.trans (hv.mono HY6.out.size))
                clear hv
                go_wp2_with fail
                refine Calls.mono (HG11.out _ HY7.out _ rfl) ?_
                rintro e y8 ⟨rfl, hv⟩
                have HY8 : Hid (Below w.heap.size w y8) := Lib.hid (HB3.out.trans ((HY7.out.trans (hv.mono HY7.out.size)).mono HB3.out.size))
                clear hv
                go_wp2_with fail
                refine Calls.mono (awake13 _ (HT.out.below HY8.out)) ?_
                rintro e z ⟨rfl, hz⟩
                have HZ : Hid (Below w.heap.size w z) := Lib.hid (HY8.out.trans (hz.mono HY8.out.size))
                clear hz
                go_wp2_with fail
                go_ret
                exact ⟨rfl, HZ.out⟩
    · rw [hch] at HCH
      clear hch
      go_wp2_with fail
      refine Calls.mono HCH.out ?_
      rintro e v0 ⟨rfl, hv0⟩
      rw [hv0]
      clear hv0 v0
      have HB9 := HB3
      go_wp2_with fail
      refine Calls.mono (awake13 _ (HT.out.below HB9.out)) ?_
      rintro e z ⟨rfl, hz⟩
      have HZ : Hid (Below w.heap.size w z) := Lib.hid (HB9.out.trans (hz.mono HB9.out.size))
      clear hz
      go_wp2_with fail
      go_ret
      exact ⟨rfl, HZ.out⟩
end Go.Proofs.YtkfajeicbkeigaaDoor
