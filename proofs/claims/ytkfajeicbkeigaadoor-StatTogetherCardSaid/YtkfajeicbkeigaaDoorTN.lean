/- The walk over Order. -/
import Derived.Test.YtkfajeicbkeigaaDoorTM
namespace Go.Proofs.YtkfajeicbkeigaaDoor
open Go.RowKit Go.Maps
/-- what a name gains alone -/
def keyF (us : List Us) (s : Nm) : Int := totF us fun l => allIn l [s]
def nmsU (us : List Us) : List Nm := us.map (·.nm)
def orderL (us : List Us) : List Nm := if chk (cnt us) = 0 then ord (keyF us) (nmsU (cnt us)) else []
theorem totF_span {us : List Us} (hl : Lim us) (hok : AllOk us) (g : List Nm → Bool) : 0 ≤ totF us g ∧ totF us g ≤ 1000000 := by
  rcases chk_two (cnt us) with hc | hc
  · rw [totF_yes hc]
    have h1 := sumT_span (L := pl (prs (cnt us))) (g := fun p => g (nmF (prs (cnt us)) p)) (fun c hc' => (pl_ok hc (fun u hu => hok u (cnt_sub u hu)) c hc').2) _ (Nat.le_refl _)
    have h2 := pl_few hl.cnt
    omega
  · rw [totF_no hc]; omega
theorem info9 : (Tryd.prog.info? 9).map (fun i => (i.zero, i.size, i.bytes)) = some (some (.string ⟨#[]⟩), 1, 16) := by kernel_rfl
theorem new1 (W : World) (a : Value) (t : TypeId) (g : Nat) (hg : g = W.heap.size) : ∀ j u, [a][j]? = some u → (W.alloc (.cells #[a] t)).cell? ((⟨g, 0, none⟩ : Addr).add j) = some u := by
  subst hg
  exact new_cells W [a] t
/-- the gains of the first names lie in the map -/
def GMap (W : World) (gm N : Nat) (key : Nm → Int) (l : List Nm) : Prop := ∃ D : Dat, W.ownsMap Tryd.prog 9 (plainElem Tryd.prog 3) gm N D ∧ ∀ s ∈ l, D.atKey (nmKey s) (.lit (.int .i64 0)) = .lit (.int .i64 (key s))
theorem GMap.put {W W' : World} {gm N : Nat} {key : Nm → Int} {l : List Nm} {D : Dat} (hD1 : W.ownsMap Tryd.prog 9 (plainElem Tryd.prog 3) gm N D) (hD2 : ∀ s ∈ l, D.atKey (nmKey s) (.lit (.int .i64 0)) = .lit (.int .i64 (key s))) {x : Nm}
    (hown : W'.ownsMap Tryd.prog 9 (plainElem Tryd.prog 3) gm (N + 1) (D.put (nmKey x) (.lit (.int .i64 (key x))))) : GMap W' gm (N + 1) key (l ++ [x]) := by
  refine ⟨_, hown, fun s hs => ?_⟩
  by_cases e : s = x
  · subst e
    exact atKey_put_same hD1.isMap (nmKey_lit s) _ _
  · rw [atKey_put_other (fun e' => e (nmKey_inj e'))]
    rcases List.mem_append.1 hs with hs | hs
    · exact hD2 s hs
    · rw [List.mem_singleton] at hs; exact absurd hs e
theorem GMap.kept {W W' : World} {gm N : Nat} {key : Nm → Int} {l : List Nm} (h : GMap W gm N key l) {row : Option Nat} (hg : W.grownBy W' row) (hne : some gm ≠ row) : GMap W' gm N key l := by
  obtain ⟨D, h1, h2⟩ := h
  exact ⟨D, h1.kept hg hne, h2⟩
set_option maxRecDepth 100000 in
set_option maxHeartbeats 8000000 in
theorem order25_yes {A : Option Addr} {c : Nat} {us : List Us} {w : World} (h : Uss w A us) (hl : Lim us) (hok : AllOk us) (hc : chk (cnt us) = 0) :
    Calls Tryd.prog 25 #[.slice A us.length c] w fun e w' => ∃ B d, e = .returned (.slice B (cnt us).length d) ∧ Nms w' B (ord (keyF us) (nmsU (cnt us))) ∧ Below w.heap.size w w' := by
  have HC := Lib.hid (made44 (c := c) h hl hok hc)
  have HP := Lib.hid (pl_ok hc (fun u hu => hok u (cnt_sub u hu)))
  have HF := Lib.hid (pl_few hl.cnt)
  have HKS : Hid (∀ s, 0 ≤ keyF us s ∧ keyF us s ≤ 1000000) := Lib.hid (fun s => totF_span hl hok _)
  have HKE : Hid (∀ s, keyF us s = sumT (pl (prs (cnt us))) (fun p => allIn (nmF (prs (cnt us)) p) [s]) (pl (prs (cnt us))).length) := Lib.hid (fun s => totF_yes hc _)
  have hl2 := hl.cnt
  generalize keyF us = key at *
  generalize cnt us = vs at *
  have HNO : Hid (∀ u ∈ vs, NmOk u.nm) := Lib.hid (fun u hu => (hl2.2 u hu).2)
  have hvl := hl2.1
  obtain ⟨i0, hi0, hz0, hz1, hz2⟩ := info_parts info9
  have I0 := Lib.hid hi0
  have Z0 := Lib.hid hz0
  have S0 := Lib.hid hz1
  have Y0 := Lib.hid hz2
  have hmm := @run_makeMap Tryd.prog
  clear h hl hok hc hl2 hi0 hz0 hz1 hz2
  go_enter Tryd.func25, Tryd.ntmps25
  go_wp2_with fail
  refine Calls.mono HC.out ?_
  rintro e w1 ⟨t, rfl, ⟨B, ms, mb, UA, d, im, PA, pc, hmd, hus⟩, hb1⟩
  have HMD := Lib.hid hmd
  have HUS := Lib.hid hus
  have HB1 := Lib.hid hb1
  have ct0 : ∀ o1 o2, ((w1.alloc o1).alloc o2).cell? ⟨t, 0, none⟩ = some (.slice UA vs.length d) := fun o1 o2 => cell_al _ (cell_al _ (cell_of_row w1 t 0 _ 90 (0, 0) hmd.1.tab))
  clear hmd hus hb1
  go_wp2_with fail
  have HW0 : Hid (Below w1.heap.size w1 ((w1.alloc (.map #[] 0)).alloc (.cells #[.map (some w1.heap.size)] 92))) := Lib.hid (((Below.refl _ _).alloc (Nat.le_refl _) _).alloc (by simp) _)
  have HGB0 : Hid (((w1.alloc (.map #[] 0)).alloc (.cells #[.map (some w1.heap.size)] 92)).heap[w1.heap.size + 1]? = some (.cells #[.map (some w1.heap.size)] 92)) := Lib.hid (by
    have := heap_alloc_new (w1.alloc (.map #[] 0)) (.cells #[.map (some w1.heap.size)] 92)
    rwa [World.size_alloc] at this)
  have HGM0 : Hid (GMap ((w1.alloc (.map #[] 0)).alloc (.cells #[.map (some w1.heap.size)] 92)) w1.heap.size 0 key []) := Lib.hid ⟨_, (World.ownsMap_made w1 Tryd.prog 9 (plainElem Tryd.prog 3)).alloc _, fun s hs => by cases hs⟩
  have HSZ0 : Hid (w1.heap.size + 2 ≤ ((w1.alloc (.map #[] 0)).alloc (.cells #[.map (some w1.heap.size)] 92)).heap.size) := Lib.hid (by simp)
  obtain ⟨gm, hgm⟩ : ∃ gm, w1.heap.size = gm := ⟨_, rfl⟩
  have HSUSX : Hid (∀ W, Below gm w1 W → Uss W UA vs) := Lib.hid (fun W hb => by subst hgm; exact HUS.out.below hb)
  have HMDX : Hid (∀ W, Below gm w1 W → Made B W t ms mb UA vs.length d (prs vs) im PA pc) := Lib.hid (fun W hb => by subst hgm; exact HMD.out.grown hb)
  have HFIN : Hid (∀ W, Below gm w1 W → Below w.heap.size w W) := Lib.hid (fun W hb => by subst hgm; exact HB1.out.trans (hb.mono HB1.out.size))
  rw [hgm] at HW0 HGB0 HGM0 HSZ0 ⊢
  generalize (w1.alloc (.map #[] 0)).alloc (.cells #[.map (some gm)] 92) = W0 at *
  clear hgm hmm ct0 HMD HUS HB1
  go_loopg [6, 22] vs.length (fun gk v i wr => ∃ k : Nat, k ≤ vs.length ∧ gk = vs.length - k ∧ i = .int .i64 k ∧ wr.ownsRow (gm + 2) 9 1 v k (strV (nmsU (vs.take k))) ∧ wr.heap[gm + 1]? = some (.cells #[.map (some gm)] 92) ∧ GMap wr gm k key (nmsU (vs.take k)) ∧ Below gm w1 wr ∧ gm + 2 ≤ wr.heap.size)
  case atStart => exact ⟨0, Nat.zero_le _, rfl, rfl, World.ownsRow_nil _ _ _ _, HGB0.out, HGM0.out, HW0.out, HSZ0.out⟩
  case round =>
    obtain ⟨wo, rfl⟩ : ∃ wo, wo = wr := ⟨_, rfl⟩
    obtain ⟨k, hk, hgk, rfl, hown, hgb, hgmap, hb, hsz⟩ := hrel
    obtain ⟨VA, VC, rfl⟩ := own_slice hown
    have HK := Lib.hid hgk
    have HO := Lib.hid hown
    have HGB := Lib.hid hgb
    have HGM := Lib.hid hgmap
    have HB := Lib.hid hb
    have HSZ := Lib.hid hsz
    clear hgk hown hgb hgmap hb hsz HGB0 HGM0 HW0 HSZ0
    by_cases hlt : k < vs.length
    · obtain ⟨u, hu⟩ : ∃ u, vs[k]? = some u := ⟨vs[k]'hlt, by simp⟩
      obtain ⟨b, o, rfl, hbl, hr, hcks⟩ := (HSUSX.out _ HB.out).get hu
      have HNM : Hid (NmOk u.nm) := Lib.hid (HNO.out u (List.mem_of_getElem? hu))
      have HTK : Hid (nmsU (vs.take (k + 1)) = nmsU (vs.take k) ++ [u.nm]) := Lib.hid (by unfold nmsU; rw [List.take_add_one, hu, List.map_append]; rfl)
      have c0 := hr 0 _ rfl
      have c1 := hr 1 _ rfl
      rw [Nat.add_zero] at c0
      obtain ⟨nm, uA, uc, cs⟩ := u
      simp only at *
      have hk0 : (0 : Int) ≤ (k : Int) := by omega
      have hk1 : (k : Int) < (vs.length : Int) := by omega
      have HB3 : Hid (Below wo.heap.size wo (wo.alloc (.cells #[.string (str nm), .slice uA cs.length uc] 81))) := Lib.hid ((Below.refl _ _).alloc (Nat.le_refl _) _)
      have HBU3 : Hid ((wo.alloc (.cells #[.string (str nm), .slice uA cs.length uc] 81)).heap[wo.heap.size]? = some (.cells #[.string (str nm), .slice uA cs.length uc] 81)) := Lib.hid (heap_alloc_new _ _)
      clear hr hu hcks hbl
      go_wp2_with fail
      clear c0 c1
      obtain ⟨bu, hbu⟩ : ∃ bu, bu = wo.heap.size := ⟨_, rfl⟩
      rw [← hbu] at HBU3 ⊢
      have HBUG : Hid (gm + 2 ≤ bu) := Lib.hid (by rw [hbu]; exact HSZ.out)
      generalize wo.alloc (.cells #[.string (str nm), .slice uA cs.length uc] 81) = W3 at *
      have HO3 := Lib.hid (own_below HO.out HB3.out)
      have HGB3 : Hid (W3.heap[gm + 1]? = some (.cells #[.map (some gm)] 92)) := Lib.hid ((HB3.out.block _ (Array.getElem?_eq_some_iff.1 HGB.out).1).trans HGB.out)
      have HGM3 := Lib.hid (HGM.out.kept (grown_of_below HB3.out) (by simp))
      have HBW3 : Hid (Below gm w1 W3) := Lib.hid (HB.out.trans (HB3.out.mono (by have := HSZ.out; omega)))
      have HSZ3 : Hid (gm + 2 ≤ W3.heap.size) := Lib.hid (Nat.le_trans HSZ.out HB3.out.size)
      have HCL : Hid (∀ W : World, W.heap[gm + 1]? = some (.cells #[.map (some gm)] 92) → W.heap[bu]? = some (.cells #[.string (str nm), .slice uA cs.length uc] 81) → W.cell? ⟨gm + 1, 0, none⟩ = some (.map (some gm)) ∧ W.cell? ⟨bu, 0, none⟩ = some (.string (str nm))) := Lib.hid (fun W h1 h2 => ⟨cell_of_row W _ 0 _ 92 (0, 0) h1, cell_of_row W _ 0 _ 81 (0, 0) h2⟩)
      have HBL : Hid (∀ W, Below W3.heap.size W3 W → W.heap[gm + 1]? = some (.cells #[.map (some gm)] 92) ∧ W.heap[bu]? = some (.cells #[.string (str nm), .slice uA cs.length uc] 81)) := Lib.hid (fun W hb => ⟨(hb.block _ (Array.getElem?_eq_some_iff.1 HGB3.out).1).trans HGB3.out, (hb.block _ (Array.getElem?_eq_some_iff.1 HBU3.out).1).trans HBU3.out⟩)
      have HCLB : Hid (∀ W, Below W3.heap.size W3 W → W.cell? ⟨gm + 1, 0, none⟩ = some (.map (some gm)) ∧ W.cell? ⟨bu, 0, none⟩ = some (.string (str nm))) := Lib.hid (fun W hb => HCL.out W (HBL.out W hb).1 (HBL.out W hb).2)
      have HQ47 : Hid (∀ V, Below W3.heap.size W3 V → V.heap.size = W3.heap.size + 1 → V.heap[W3.heap.size]? = some (.cells #[.string (str nm)] 9) → Calls Tryd.prog 47 #[.slice (some ⟨W3.heap.size, 0, none⟩) 1 1] V fun e X => e = .returned (.func (.func 54) #[] #[.pointer (some ⟨W3.heap.size + 1, 0, none⟩)]) ∧ Below W3.heap.size W3 X ∧ X.heap[W3.heap.size + 1]? = some (.cells #[.slice (some ⟨W3.heap.size, 0, none⟩) 1 1] 40) ∧ X.heap[W3.heap.size]? = some (.cells #[.string (str nm)] 9)) := Lib.hid (fun V h1 h2 h3 => (alone47 _ 1 1 V).mono (by
        rintro e X ⟨he, rfl⟩
        rw [h2] at he
        refine ⟨he, h1.alloc (by omega) _, by rw [← h2]; exact heap_alloc_new _ _, ?_⟩
        exact (((Below.refl V.heap.size V).alloc (Nat.le_refl _) _).block _ (by omega)).trans h3))
      have HQ45 : Hid (∀ X, Below W3.heap.size W3 X → X.heap[W3.heap.size + 1]? = some (.cells #[.slice (some ⟨W3.heap.size, 0, none⟩) 1 1] 40) → X.heap[W3.heap.size]? = some (.cells #[.string (str nm)] 9) → Calls Tryd.prog 45 #[.pointer (some ⟨t, 0, none⟩), .func (.func 54) #[] #[.pointer (some ⟨W3.heap.size + 1, 0, none⟩)]] X fun e Y => e = .returned (.int .i64 (key nm)) ∧ Below W3.heap.size W3 Y) := Lib.hid (fun X h1 h2 h3 => by
        have hm := HMDX.out X (HBW3.out.trans (h1.mono (by have := HSZ3.out; omega)))
        rw [HKE.out]
        refine (sum45_54 (nb := W3.heap.size + 1) hm HP.out HF.out (fun p => allIn (nmF (prs vs) p) [nm]) (fun x _ a ha W' hb => ?_)).mono (fun e Y h => ⟨h.1, h1.trans (h.2.mono h1.size)⟩)
        have k1 := (hb.block _ (Array.getElem?_eq_some_iff.1 h2).1).trans h2
        have k2 := (hb.block _ (Array.getElem?_eq_some_iff.1 h3).1).trans h3
        refine alone54 (NA := some ⟨W3.heap.size, 0, none⟩) (cc := 1) (ns := [nm]) (inS_of ((hm.grown hb).1.inn x.1 a ha).2) (by simp) (fun _ => ⟨W3.heap.size, 0, rfl, (Array.getElem?_eq_some_iff.1 k2).1, fun j v hj => ?_⟩) (fun s hs => by rw [List.mem_singleton] at hs; subst hs; exact HNM.out) (cell_of_row W' _ 0 _ 40 (0, 0) k1) (Nat.le_refl _)
        rw [Nat.zero_add, cell_of_row W' W3.heap.size j _ 9 (0, 0) k2]
        simpa using hj)
      have HKEY := Lib.hid (key9 HNM.out)
      have HKW : Hid ((Lit.int .i64 (key nm)).wf = true) := Lib.hid (by
        have := HKS.out nm
        show (decide (IntKind.i64.min ≤ key nm) && decide (key nm ≤ IntKind.i64.max)) = true
        rw [Bool.and_eq_true, decide_eq_true_eq, decide_eq_true_eq]
        exact ⟨Int.le_trans (by decide) this.1, Int.le_trans this.2 (by decide)⟩)
      clear hbu
      have HS0 := Lib.hid (HCLB.out W3 (Below.refl _ _))
      have HS1 := Lib.hid (HCLB.out (W3.alloc (.cells #[.string (str nm)] 9)).drew (below_drew ((Below.refl _ _).alloc (Nat.le_refl _) _)))
      have HQX := Lib.hid (HQ47.out (W3.alloc (.cells #[.string (str nm)] 9)).drew (below_drew ((Below.refl _ _).alloc (Nat.le_refl _) _)) (World.size_alloc _ _) (heap_alloc_new _ _))
      clear HB3 HO HGB HGM
      go_region_held3 (fun W => W.cell? ⟨gm + 1, 0, none⟩ = some (.map (some gm)) ∧ W.cell? ⟨bu, 0, none⟩ = some (.string (str nm))) (first | exact HS0.out | exact HS1.out | exact HS2.out | exact HS3.out | exact HS4.out)
        (first
          | (go_at_call 47; (with_reducible refine HQX.out.mono ?_); rintro e X2 ⟨rfl, hx1, hx2, hx3⟩; have HX := Lib.hid (And.intro hx1 (And.intro hx2 hx3)); have HS2 := Lib.hid (HCLB.out X2 HX.out.1); clear hx1 hx2 hx3)
          | (go_at_call 45; (with_reducible refine (HQ45.out _ HX.out.1 HX.out.2.1 HX.out.2.2).mono ?_); rintro e X3 ⟨rfl, hx3⟩; have HX3 := Lib.hid hx3; have HS3 := Lib.hid (HCLB.out X3 HX3.out); obtain ⟨D, hD1, hD2⟩ := HGM3.out.kept (grown_of_below HX3.out) (by simp); obtain ⟨X4, hup, hown4, hg4⟩ := hD1.update law9 Tryd.underlying92 (by simp only [maxLen]; omega) HKEY.out (plainElem_int Tryd.underlying3 HKW.out); have HGM4 := Lib.hid (GMap.put hD1 hD2 hown4); have HG4 := Lib.hid hg4; have HS4 : Hid (X4.cell? ⟨gm + 1, 0, none⟩ = some (.map (some gm)) ∧ X4.cell? ⟨bu, 0, none⟩ = some (.string (str nm))) := Lib.hid ⟨hg4.cell HS3.out.1 (by simp), hg4.cell HS3.out.2 (fun e => by have := HBUG.out; have := Option.some.inj e; simp at this; omega)⟩; clear hx3 hD1 hD2 hown4 hg4))
      clear hup
      have HBX4 : Hid (Below gm w1 X4) := Lib.hid ((HBW3.out.trans (HX3.out.mono (by have := HSZ3.out; omega))).grown HG4.out (by have := HSZ3.out; have := HX3.out.size; omega) (fun j e => by cases e; exact Nat.le_refl _))
      have HO4 := Lib.hid ((own_below HO3.out HX3.out).kept HG4.out (own_apart (own_below HO3.out HX3.out) (by omega)))
      have HGB4 : Hid (X4.heap[gm + 1]? = some (.cells #[.map (some gm)] 92)) := Lib.hid ((HG4.out.block _ (by have := HSZ3.out; have := HX3.out.size; omega) (by simp)).trans (HBL.out X3 HX3.out).1)
      have HSZ4 : Hid (gm + 2 ≤ X4.heap.size) := Lib.hid (Nat.le_trans HSZ3.out (Nat.le_trans HX3.out.size HG4.out.size))
      have cu0 := HS4.out.2
      clear HS0 HS1 HS2 HS3 HQ45 HQ47 HO3 HGM3 HGB3 HBU3 HBW3 HX
      go_wp2_with (first
        | (at_builtin; refine wpList_append_own _ rfl (.tmp 35) (.tmp 38) _ rfl (gm + 2) 9 i0 _ 1 16 Tryd.underlying40 I0.out Z0.out S0.out Y0.out rfl (by decide) _ k _ rfl (HO4.out.alloc _) _ 1 1 [.string (str nm)] rfl rfl (new1 _ _ _ _ rfl) (by simp [Value.oneCell']) (by unfold maxLen; omega) (by omega) (by have := HSZ4.out; simp; omega) ?_))
      intro v8 w8 hown8 hg8 _
      obtain ⟨V8, C8, rfl⟩ := own_slice hown8
      have HO8 := Lib.hid hown8
      have HB8 : Hid (Below gm w1 w8) := Lib.hid ((HBX4.out.alloc (by have := HSZ4.out; omega) _).grown hg8 (by have := HSZ4.out; simp; omega) (fun j e => by have := (HO4.out.lt j e).1; omega))
      have HGB8 : Hid (w8.heap[gm + 1]? = some (.cells #[.map (some gm)] 92)) := Lib.hid ((hg8.block _ (by have := HSZ4.out; simp; omega) (map_apart HO4.out (by omega))).trans ((((Below.refl X4.heap.size X4).alloc (Nat.le_refl _) _).block _ (by have := HSZ4.out; omega)).trans HGB4.out))
      have HGM8 := Lib.hid ((HGM4.out.kept (World.grownBy_alloc X4 (.cells #[.string (str nm)] 9) none) (by simp)).kept hg8 (map_apart HO4.out (by omega)))
      have HSZ8 : Hid (gm + 2 ≤ w8.heap.size) := Lib.hid (by have h1 := hg8.size; have := HSZ4.out; simp at h1; omega)
      clear hown8 hg8 cu0
      go_wp2_with fail
      go_roundg (vs.length - (k + 1))
      case measure => rw [HK.out]; omega
      case rel => exact ⟨k + 1, by omega, rfl, by go_num, by rw [HTK.out, strV, List.map_append]; exact HO8.out, HGB8.out, by rw [HTK.out]; exact HGM8.out, HB8.out, HSZ8.out⟩
    · obtain rfl : k = vs.length := by omega
      have hend : nmsU (vs.take vs.length) = nmsU vs := by rw [List.take_length]
      rw [hend] at HO HGM
      have hlen : (nmsU vs).length = vs.length := by simp [nmsU]
      have HR0 : Hid (∀ W', Nms W' VA [] ∧ ord key [] = []) := Lib.hid (fun W' => ⟨fun h => absurd rfl h, rfl⟩)
      have HSORT : Hid (Calls Tryd.prog 49 #[.slice VA vs.length VC, .func (.func 50) #[] #[.pointer (some ⟨gm + 1, 0, none⟩)]] wo fun e w' => e = .returned (.tuple #[]) ∧ (Nms w' VA (ord key (nmsU vs)) ∧ Below gm w1 w')) := Lib.hid (by
        refine stable49 (R := fun w' => Nms w' VA (ord key (nmsU vs)) ∧ Below gm w1 w') hvl ?_
        rcases Nat.eq_zero_or_pos vs.length with h0 | h0
        · have hnil : nmsU vs = [] := List.length_eq_zero_iff.1 (by rw [hlen, h0])
          rw [h0, hnil]
          refine (sort63_0 (W := wo)).mono ?_
          rintro e w' ⟨he, rfl⟩
          exact ⟨he, HR0.out w' |>.1, HB.out⟩
        · obtain ⟨g, cap, hv, hg1, hg2⟩ := HO.out.form h0
          injection hv with hv1 hv2 hv3
          subst hv1
          subst hv3
          have hrow : SRow wo (gm + 2) g VC (nmsU vs).length (nmsU vs) := by rw [hlen]; exact HO.out
          obtain ⟨D, hD1, hD2⟩ := HGM.out
          have hs := sort63 (names := nmsU vs) (gb := gm + 1) (gm := gm) (key := key) hrow ⟨HGB.out, D, _, hD1, fun s hs => ⟨by
            obtain ⟨u, hu, e⟩ := List.mem_map.1 hs
            rw [← e]
            exact HNO.out u hu, hD2 s hs⟩⟩ (fun s _ => HKS.out s) (by omega) (by omega) (by omega) (by omega)
          rw [hlen] at hs
          refine hs.mono ?_
          rintro e w' ⟨he, hr, hgr⟩
          exact ⟨he, row_own hr, HB.out.grown hgr (by have := HSZ.out; omega) (fun j e => by cases e; omega)⟩)
      clear HR0 HO HGM HGB
      go_wp2_with fail
      refine Calls.mono HSORT.out ?_
      rintro e w9 ⟨rfl, hn9, hb9⟩
      have HN9 := Lib.hid hn9
      have HB9 := Lib.hid hb9
      clear hn9 hb9
      go_wp2_with fail
      go_ret
      exact ⟨_, _, rfl, HN9.out, HFIN.out _ HB9.out⟩
end Go.Proofs.YtkfajeicbkeigaaDoor
