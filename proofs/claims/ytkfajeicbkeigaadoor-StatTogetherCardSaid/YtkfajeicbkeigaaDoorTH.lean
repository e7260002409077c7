/- The walks over Whole, Gains, Both. -/
import Derived.Test.YtkfajeicbkeigaaDoorTG
namespace Go.Proofs.YtkfajeicbkeigaaDoor
open Go.RowKit Go.Maps
theorem mem_prs {us : List Us} {x : Pr} : x ∈ prs us ↔ ∃ u ∈ us, ∃ c ∈ u.cs, x = (u.nm, c) := by
  unfold prs
  rw [List.mem_flatMap]
  constructor
  · rintro ⟨u, hu, hx⟩
    obtain ⟨c, hc, e⟩ := List.mem_map.1 hx
    exact ⟨u, hu, c, hc, e.symm⟩
  · rintro ⟨u, hu, c, hc, e⟩
    exact ⟨u, hu, List.mem_map.2 ⟨c, hc, e.symm⟩⟩
theorem chk_ok {us : List Us} (h : chk us = 0) : ∀ u ∈ us, ∀ c ∈ u.cs, 1 ≤ c.2 ∧ c.2 ≤ 4096 := by
  unfold chk at h
  split at h
  · rename_i hb
    intro u hu c hc
    have h1 := List.all_eq_true.1 hb u hu
    have h2 := List.all_eq_true.1 h1 c hc
    unfold okC at h2
    simpa using h2
  · cases h
theorem pl_ok {us : List Us} (h : chk us = 0) (hok : AllOk us) : ∀ c ∈ pl (prs us), PlcOk c.1 ∧ 1 ≤ c.2 ∧ c.2 ≤ 4096 := by
  intro c hc
  obtain ⟨x, hx, rfl⟩ := pl_of c hc
  obtain ⟨u, hu, c', hc', rfl⟩ := mem_prs.1 hx
  exact ⟨(hok u hu c' hc').1, chk_ok h u hu c' hc'⟩
theorem pl_few {us : List Us} (h : Lim us) : (pl (prs us)).length ≤ 120 := by
  have h1 := pl_len (prs us)
  rw [prs_len] at h1
  have h2 := numC_le (us := us) (fun u hu => (h.2 u hu).1)
  have h3 := h.1
  omega
theorem chk_two (us : List Us) : chk us = 0 ∨ chk us = 1 := by unfold chk; split <;> simp
/-- what is summed over the places of which something is so -/
def totF (us : List Us) (g : List Nm → Bool) : Int := if chk (cnt us) = 0 then sumT (pl (prs (cnt us))) (fun p => g (nmF (prs (cnt us)) p)) (pl (prs (cnt us))).length else 0
theorem totF_yes {us : List Us} (h : chk (cnt us) = 0) (g : List Nm → Bool) : totF us g = sumT (pl (prs (cnt us))) (fun p => g (nmF (prs (cnt us)) p)) (pl (prs (cnt us))).length := if_pos h
theorem totF_no {us : List Us} (h : chk (cnt us) = 1) (g : List Nm → Bool) : totF us g = 0 := if_neg (by rw [h]; decide)
set_option maxRecDepth 100000 in
set_option maxHeartbeats 4000000 in
theorem made44_no {A : Option Addr} {c : Nat} {us : List Us} {w : World} (h : Uss w A us) (hl : Lim us) (hc : chk (cnt us) = 1) :
    Calls Tryd.prog 44 #[.slice A us.length c] w fun e w' => e = .returned (.tuple #[.pointer none, .bool false]) ∧ Below w.heap.size w w' := by
  have HC := Lib.hid (check20 (c := c) h hl)
  rw [hc] at HC
  clear h hl hc
  go_enter Tryd.func44, Tryd.ntmps44
  go_wp2_with fail
  refine Calls.mono HC.out ?_
  rintro e w1 ⟨rfl, hb1⟩
  have HB1 := Lib.hid hb1
  clear hb1
  go_wp2_with fail
  go_ret2
  exact ⟨rfl, HB1.out⟩
/-- the table stands -/
def Tabled (us : List Us) (t : Nat) (w' : World) : Prop := ∃ B ms mb UA d im PA pc, Made B w' t ms mb UA (cnt us).length d (prs (cnt us)) im PA pc ∧ Uss w' UA (cnt us)
set_option maxRecDepth 100000 in
set_option maxHeartbeats 4000000 in
theorem whole22 {A : Option Addr} {c : Nat} {us : List Us} {w : World} (h : Uss w A us) (hl : Lim us) (hok : AllOk us) :
    Calls Tryd.prog 22 #[.slice A us.length c] w fun e w' => e = .returned (.int .i64 (totF us fun _ => true)) ∧ Below w.heap.size w w' := by
  rcases chk_two (cnt us) with hc | hc
  · have HC := Lib.hid (made44 (c := c) h hl hok hc)
    have HP := Lib.hid (pl_ok hc (fun u hu => hok u (cnt_sub u hu)))
    have HF := Lib.hid (pl_few hl.cnt)
    rw [totF_yes hc]
    clear h hl hok hc
    go_enter Tryd.func22, Tryd.ntmps22
    go_wp2_with fail
    refine Calls.mono HC.out ?_
    rintro e w1 ⟨t, rfl, ⟨B, ms, mb, UA, d, im, PA, pc, hmd, _⟩, hb1⟩
    have HM := Lib.hid hmd
    have HB1 := Lib.hid hb1
    clear hmd hb1
    have HS := Lib.hid (sum45_46 HM.out HP.out HF.out (fun _ => true) (fun _ _ a _ W' _ => all46 (.map (some a)) W'))
    go_wp2_with fail
    refine Calls.mono HS.out ?_
    rintro e w2 ⟨rfl, hb2⟩
    have HB2 := Lib.hid hb2
    clear hb2
    go_wp2_with fail
    go_ret
    exact ⟨rfl, HB1.out.trans (HB2.out.mono HB1.out.size)⟩
  · have HC := Lib.hid (made44_no (c := c) h hl hc)
    rw [totF_no hc]
    clear h hl hok hc
    go_enter Tryd.func22, Tryd.ntmps22
    go_wp2_with fail
    refine Calls.mono HC.out ?_
    rintro e w1 ⟨rfl, hb1⟩
    have HB1 := Lib.hid hb1
    clear hb1
    go_wp2_with fail
    go_ret
    exact ⟨rfl, HB1.out⟩
set_option maxRecDepth 100000 in
set_option maxHeartbeats 4000000 in
theorem gains23 {A NA : Option Addr} {c cc : Nat} {us : List Us} {ns : List Nm} {w : World} (h : Uss w A us) (hl : Lim us) (hok : AllOk us) (hn : Nms w NA ns) (hns : ns.length ≤ 1000) (hno : ∀ s ∈ ns, NmOk s) (hcc : ns.length ≤ cc) :
    Calls Tryd.prog 23 #[.slice A us.length c, .slice NA ns.length cc] w fun e w' => e = .returned (.int .i64 (totF us fun l => allIn l ns)) ∧ Below w.heap.size w w' := by
  rcases chk_two (cnt us) with hc | hc
  · have HC := Lib.hid (made44 (c := c) h hl hok hc)
    have HP := Lib.hid (pl_ok hc (fun u hu => hok u (cnt_sub u hu)))
    have HF := Lib.hid (pl_few hl.cnt)
    have HN := Lib.hid hn
    have HNS := Lib.hid (And.intro hns (And.intro hno hcc))
    rw [totF_yes hc]
    clear h hl hok hc hn hns hno hcc
    go_enter Tryd.func23, Tryd.ntmps23
    go_wp2_with fail
    refine Calls.mono HC.out ?_
    rintro e w1 ⟨t, rfl, ⟨B, ms, mb, UA, d, im, PA, pc, hmd, _⟩, hb1⟩
    have HM := Lib.hid hmd
    have HB1 := Lib.hid hb1
    clear hmd hb1
    go_wp2_with fail
    refine Calls.mono (alone47 NA ns.length cc w1) ?_
    rintro e w2 ⟨rfl, hw2⟩
    have HB2 : Hid (Below w1.heap.size w1 w2) := Lib.hid (by subst hw2; exact (Below.refl _ _).alloc (Nat.le_refl _) _)
    have HBW2 : Hid (Below w.heap.size w w2) := Lib.hid (HB1.out.trans (HB2.out.mono HB1.out.size))
    have HX : Hid (w2.heap[w1.heap.size]? = some (.cells #[.slice NA ns.length cc] 40)) := Lib.hid (by subst hw2; exact heap_alloc_new _ _)
    have HM2 := Lib.hid (HM.out.grown HB2.out)
    clear hw2
    have HS := Lib.hid (sum45_54 (nb := w1.heap.size) HM2.out HP.out HF.out (fun p => allIn (nmF (prs (cnt us)) p) ns) (fun x _ a ha W' hb => by
      have hx := (hb.block _ (Array.getElem?_eq_some_iff.1 HX.out).1).trans HX.out
      exact alone54 (inS_of ((HM2.out.grown hb).1.inn x.1 a ha).2) HNS.out.1 (HN.out.below (HBW2.out.trans (hb.mono HBW2.out.size))) HNS.out.2.1 (cell_of_row W' _ 0 _ 40 (0, 0) hx) HNS.out.2.2))
    go_wp2_with fail
    refine Calls.mono HS.out ?_
    rintro e w3 ⟨rfl, hb3⟩
    have HB3 := Lib.hid hb3
    clear hb3
    go_wp2_with fail
    go_ret
    exact ⟨rfl, HBW2.out.trans (HB3.out.mono HBW2.out.size)⟩
  · have HC := Lib.hid (made44_no (c := c) h hl hc)
    rw [totF_no hc]
    clear h hl hok hc hn hns hno hcc
    go_enter Tryd.func23, Tryd.ntmps23
    go_wp2_with fail
    refine Calls.mono HC.out ?_
    rintro e w1 ⟨rfl, hb1⟩
    have HB1 := Lib.hid hb1
    clear hb1
    go_wp2_with fail
    go_ret
    exact ⟨rfl, HB1.out⟩
set_option maxRecDepth 100000 in
set_option maxHeartbeats 4000000 in
theorem both24 {A : Option Addr} {c : Nat} {us : List Us} {s u : Nm} {w : World} (h : Uss w A us) (hl : Lim us) (hok : AllOk us) (hs : NmOk s) (hu : NmOk u) :
    Calls Tryd.prog 24 #[.slice A us.length c, .string (str s), .string (str u)] w fun e w' => e = .returned (.int .i64 (totF us fun l => decide (s ∈ l) && decide (u ∈ l))) ∧ Below w.heap.size w w' := by
  have HB0 : Hid (Below w.heap.size w ((w.alloc (.cells #[.string (str s)] 9)).alloc (.cells #[.string (str u)] 9))) := Lib.hid (((Below.refl _ _).alloc (Nat.le_refl _) _).alloc (by simp) _)
  have HX : Hid (∀ W, Below (w.heap.size + 2) ((w.alloc (.cells #[.string (str s)] 9)).alloc (.cells #[.string (str u)] 9)) W → W.cell? ⟨w.heap.size, 0, none⟩ = some (.string (str s)) ∧ W.cell? ⟨w.heap.size + 1, 0, none⟩ = some (.string (str u))) := Lib.hid (fun W hb => by
    have h1 : W.heap[w.heap.size]? = some (.cells #[.string (str s)] 9) := (hb.block _ (by omega)).trans ((((Below.refl (w.heap.size + 1) _).alloc (by simp) _).block _ (by omega)).trans (heap_alloc_new w _))
    have h2 : W.heap[w.heap.size + 1]? = some (.cells #[.string (str u)] 9) := (hb.block _ (by omega)).trans (by have := heap_alloc_new (w.alloc (.cells #[.string (str s)] 9)) (.cells #[.string (str u)] 9); simpa using this)
    exact ⟨cell_of_row W _ 0 _ 9 (0, 0) h1, cell_of_row W _ 0 _ 9 (0, 0) h2⟩)
  have HSZ : Hid (((w.alloc (.cells #[.string (str s)] 9)).alloc (.cells #[.string (str u)] 9)).heap.size = w.heap.size + 2) := Lib.hid (by simp)
  have HSU := Lib.hid (And.intro hs hu)
  rcases chk_two (cnt us) with hc | hc
  · have HC := Lib.hid (made44 (c := c) (h.below HB0.out) hl hok hc)
    have HP := Lib.hid (pl_ok hc (fun u hu => hok u (cnt_sub u hu)))
    have HF := Lib.hid (pl_few hl.cnt)
    rw [totF_yes hc]
    clear h hl hok hc hs hu
    go_enter Tryd.func24, Tryd.ntmps24
    go_wp2_with fail
    refine Calls.mono HC.out ?_
    rintro e w1 ⟨t, rfl, ⟨B, ms, mb, UA, d, im, PA, pc, hmd, _⟩, hb1⟩
    have HM := Lib.hid hmd
    have HB1 : Hid (Below (w.heap.size + 2) ((w.alloc (.cells #[.string (str s)] 9)).alloc (.cells #[.string (str u)] 9)) w1) := Lib.hid (by rw [← HSZ.out]; exact hb1)
    have HBW : Hid (Below w.heap.size w w1) := Lib.hid (HB0.out.trans (HB1.out.mono (by omega)))
    have HS1 : Hid (w.heap.size + 2 ≤ w1.heap.size) := Lib.hid (by have := HB1.out.size; rw [HSZ.out] at this; exact this)
    clear hmd hb1
    have HS := Lib.hid (sum45_48 (xa := w.heap.size) (ya := w.heap.size + 1) HM.out HP.out HF.out (fun p => decide (s ∈ nmF (prs (cnt us)) p) && decide (u ∈ nmF (prs (cnt us)) p)) (fun x _ a ha W' hb => by
      obtain ⟨x1, x2⟩ := HX.out W' (HB1.out.trans (hb.mono HS1.out))
      exact both48 (inS_of ((HM.out.grown hb).1.inn x.1 a ha).2) HSU.out.1 HSU.out.2 x1 x2))
    go_wp2_with fail
    refine Calls.mono HS.out ?_
    rintro e w3 ⟨rfl, hb3⟩
    have HB3 := Lib.hid hb3
    clear hb3
    go_wp2_with fail
    go_ret
    exact ⟨rfl, HBW.out.trans (HB3.out.mono HBW.out.size)⟩
  · have HC := Lib.hid (made44_no (c := c) (h.below HB0.out) hl hc)
    rw [totF_no hc]
    clear h hl hok hc hs hu HX
    go_enter Tryd.func24, Tryd.ntmps24
    go_wp2_with fail
    refine Calls.mono HC.out ?_
    rintro e w1 ⟨rfl, hb1⟩
    have HB1 : Hid (Below w.heap.size w w1) := Lib.hid (HB0.out.trans (hb1.mono HB0.out.size))
    clear hb1
    go_wp2_with fail
    go_ret
    exact ⟨rfl, HB1.out⟩
end Go.Proofs.YtkfajeicbkeigaaDoor
