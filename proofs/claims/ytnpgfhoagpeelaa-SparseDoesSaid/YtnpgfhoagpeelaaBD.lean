/- The walk over Hooks. -/
import Derived.Test.YtnpgfhoagpeelaaBC
namespace Go.Proofs.Ytnpgfhoagpeelaa
open Go.RowKit
open Go.Maps Go.Sort Go.Lib
set_option maxRecDepth 100000 in
set_option maxHeartbeats 4000000 in
theorem closure35 {W : World} {base xb mb ph mo now n gb : Nat} {pairs : Int} {fm : Fp → Option Nat} {E : List En} {e e' : En} (h : Mem W base xb mb ph mo pairs now n fm E) (hfm : FmOk fm E) (hk : HkE E) (he : e ∈ E) (he' : e' ∈ E) (hg : W.cell? ⟨gb, 0, none⟩ = some (.pointer (some ⟨xb, 0, none⟩))) :
    Calls Try.prog 35 #[.agg (fpL e.h).toArray, .agg (fpL e'.h).toArray, .pointer (some ⟨gb, 0, none⟩)] W fun r W' => r = .returned (.int .i64 (if e.u < e'.u then -1 else 1)) ∧ Gr W W' := by
  have hA : At (XB xb mb E) W W base xb mb ph mo pairs now n fm E := ⟨h, fun _ hb => .inl hb, Tn.refl _ _⟩
  have HA := Lib.hid ((hA.alloc (.cells (fpL e.h).toArray 47)).alloc (.cells (fpL e'.h).toArray 47))
  have hb1 : Below W.heap.size W (W.alloc (.cells (fpL e.h).toArray 47)) := (Below.refl _ _).alloc (Nat.le_refl _) _
  have hb2 := hb1.alloc hb1.size (.cells (fpL e'.h).toArray 47)
  have HB : Hid (Gr W ((W.alloc (.cells (fpL e.h).toArray 47)).alloc (.cells (fpL e'.h).toArray 47))) := Lib.hid (((Gr.refl W).alloc _).alloc _)
  have HR0 : Hid (∀ m, (((W.alloc (.cells (fpL e.h).toArray 47)).alloc (.cells (fpL e'.h).toArray 47)).drewN m).rangeAt W.heap.size 0 (fpL e.h)) := Lib.hid (fun m j v hv =>
    (range_below (box_range (heap_alloc_new W (.cells (fpL e.h).toArray 47))) ((Below.refl _ _).alloc (Nat.le_refl _) (.cells (fpL e'.h).toArray 47)) (by rw [World.size_alloc]; omega)) j v hv)
  have HR1 : Hid (∀ m, (((W.alloc (.cells (fpL e.h).toArray 47)).alloc (.cells (fpL e'.h).toArray 47)).drewN m).rangeAt (W.heap.size + 1) 0 (fpL e'.h)) := Lib.hid (fun m j v hv => by
    have := box_range (heap_alloc_new (W.alloc (.cells (fpL e.h).toArray 47)) (.cells (fpL e'.h).toArray 47))
    rw [World.size_alloc] at this
    exact this j v hv)
  have HI0 := Lib.hid (info29f (hk.2 e he))
  have HI1 := Lib.hid (info29f (hk.2 e' he'))
  have c2 := HA.out.mem.c.2.2.1
  have cu := (HA.out.mem.ens e he).c.2
  have cu' := (HA.out.mem.ens e' he').c.2
  have cg : ((W.alloc (.cells (fpL e.h).toArray 47)).alloc (.cells (fpL e'.h).toArray 47)).cell? ⟨gb, 0, none⟩ = some (.pointer (some ⟨xb, 0, none⟩)) := (hb2.cell (World.block_lt_of_cell? W _ hg)).trans hg
  have hlk : ∀ m, (Instr.lookup 52 (.map (some mb)) (.agg (fpL e.h).toArray) false).run Try.prog (((W.alloc (.cells (fpL e.h).toArray 47)).alloc (.cells (fpL e'.h).toArray 47)).drewN m) = .ok (.pointer (some ⟨e.p, 0, none⟩)) _ := fun m => by
    have := HA.out.look (hk.2 e he) m
    rwa [hfm _ (hk.2 e he), fm_mem hk he] at this
  have hlk' : ∀ m, (Instr.lookup 52 (.map (some mb)) (.agg (fpL e'.h).toArray) false).run Try.prog (((W.alloc (.cells (fpL e.h).toArray 47)).alloc (.cells (fpL e'.h).toArray 47)).drewN m) = .ok (.pointer (some ⟨e'.p, 0, none⟩)) _ := fun m => by
    have := HA.out.look (hk.2 e' he') m
    rwa [hfm _ (hk.2 e' he'), fm_mem hk he'] at this
  clear h hfm hk he he' hg hA hb1 hb2
  obtain ⟨eh, p, A, c, l, u⟩ := e
  obtain ⟨eh', p', A', c', l', u'⟩ := e'
  simp only at *
  go_enter Try.func35, Try.ntmps35
  go_wp2_with fail
  generalize (W.alloc (.cells (fpL eh).toArray 47)).alloc (.cells (fpL eh').toArray 47) = W1 at *
  generalize W.heap.size = b0 at *
  refine wp_region_quiet_lit (by kernel_rfl) (by kernel_rfl) ?_
  repeat (first
    | ((with_reducible refine wpQuiet_load_mid (op := ⟨some 10, _, _, _, _, _⟩) ?_ 47 (.tmp 3) rfl b0 (0) ?_ _ _ ?_ Try.underlying47 rfl HI0.out ?_); rfl; rfl; (rintro w2 ⟨q2, rfl⟩; exact HR0.out _); go_simp)
    | ((with_reducible refine wpQuiet_load_mid (op := ⟨some 19, _, _, _, _, _⟩) ?_ 47 (.tmp 4) rfl (b0 + 1) (0) ?_ _ _ ?_ Try.underlying47 rfl HI1.out ?_); rfl; rfl; (rintro w2 ⟨q2, rfl⟩; exact HR1.out _); go_simp)
    | go_big_quiet_step (fail))
  refine wpQuiet_nil ?_
  intro nq
  by_cases hu : u < u'
  · have hui : (u : Int) < (u' : Int) := by omega
    go_wp2_with fail
    go_ret
    exact ⟨rfl, HB.out.drewN nq⟩
  · have hui : ¬ (u : Int) < (u' : Int) := by omega
    go_wp2_with fail
    go_ret
    exact ⟨rfl, HB.out.drewN nq⟩
abbrev Hq (E : List En) := { f : Fp // ∃ e ∈ E, e.h = f }
def hqL {E : List En} (x : Hq E) : List Value := fpL x.1
def cmpU (E : List En) (x y : Hq E) : Int := if uE E x.1 < uE E y.1 then -1 else 1
theorem ltU (E : List En) (x y : Hq E) : ltOf (cmpU E) x y = decide (uE E x.1 < uE E y.1) := by
  unfold ltOf cmpU
  by_cases h : uE E x.1 < uE E y.1 <;> simp [h]
theorem swoU (E : List En) : SWO (ltOf (cmpU E)) where
  irrefl x := by rw [ltU]; simp
  trans x y z h1 h2 := by rw [ltU, decide_eq_true_eq] at *; omega
  ntrans x y z h1 h2 := by rw [ltU, decide_eq_false_iff_not] at *; omega
theorem u_inj {E : List En} (hk : HkE E) (hs : E.Pairwise (fun a b => a.u < b.u)) {e e' : En} (he : e ∈ E) (he' : e' ∈ E) (h : e.u = e'.u) : e = e' := by
  obtain ⟨P, S, rfl⟩ := List.append_of_mem he
  rw [List.pairwise_append] at hs
  obtain ⟨_, h2, h3⟩ := hs
  rcases List.mem_append.1 he' with q | q
  · have := h3 e' q e (List.mem_cons_self ..); omega
  · rcases List.mem_cons.1 q with q | q
    · exact q.symm
    · have := (List.pairwise_cons.1 h2).1 e' q; omega
theorem totU {E : List En} (hk : HkE E) (hs : E.Pairwise (fun a b => a.u < b.u)) (x y : Hq E) (h1 : ltOf (cmpU E) x y = false) (h2 : ltOf (cmpU E) y x = false) : x = y := by
  rw [ltU, decide_eq_false_iff_not] at h1 h2
  obtain ⟨f, e, he, rfl⟩ := x
  obtain ⟨f', e', he', rfl⟩ := y
  have h3 := u_mem hk he
  have h4 := u_mem hk he'
  simp only at h1 h2
  have := u_inj hk hs he he' (by omega)
  subst this
  rfl
theorem hqs_of {E : List En} : ∀ (s : List Fp), (∀ f ∈ s, ∃ e ∈ E, e.h = f) → ∃ l : List (Hq E), l.map (·.1) = s
  | [], _ => ⟨[], rfl⟩
  | f :: s, h => by
    obtain ⟨l, hl⟩ := hqs_of s (fun x hx => h x (List.mem_cons_of_mem _ hx))
    exact ⟨⟨f, h f (List.mem_cons_self ..)⟩ :: l, by rw [List.map_cons, hl]⟩
theorem hqL_flat {E : List En} (l : List (Hq E)) : l.flatMap hqL = fsL (l.map (·.1)) := by
  unfold fsL hqL
  rw [List.flatMap_map]
theorem sorted_u {E : List En} (hk : HkE E) (hs : E.Pairwise (fun a b => a.u < b.u)) : (E.map (·.h)).Pairwise (fun a b => uE E a < uE E b) := by
  rw [List.pairwise_map]
  refine List.Pairwise.imp_of_mem (fun {a b} ha hb h => ?_) hs
  rw [u_mem hk ha, u_mem hk hb]
  exact h
/-- the one order of the hooks -/
theorem sort_is {E : List En} (hk : HkE E) (hs : E.Pairwise (fun a b => a.u < b.u)) {s : List Fp} (hp : s.Perm (E.map (·.h))) (ho : s.Pairwise (fun a b => ¬ uE E b < uE E a)) : s = E.map (·.h) := by
  have h1 := sorted_u hk hs
  refine List.Perm.eq_of_pairwise (le := fun a b => ¬ uE E b < uE E a) (fun a b ha hb h2 h3 => ?_) ho (h1.imp (fun {a b} h => by omega)) hp
  obtain ⟨e, he, rfl⟩ := List.mem_map.1 (hp.mem_iff.1 ha)
  obtain ⟨e', he', rfl⟩ := List.mem_map.1 hb
  rw [u_mem hk he, u_mem hk he'] at h2 h3
  rw [u_inj hk hs he he' (by omega)]
set_option maxHeartbeats 1000000 in
theorem sortH {W : World} {base B xb mb ph mo now n gb g cap : Nat} {pairs : Int} {fm : Fp → Option Nat} {E : List En} {s : List Fp} (h : Mem W base xb mb ph mo pairs now n fm E) (hfm : FmOk fm E) (hk : HkE E) (hs : E.Pairwise (fun a b => a.u < b.u)) (hg : W.cell? ⟨gb, 0, none⟩ = some (.pointer (some ⟨xb, 0, none⟩))) (hgg : gb ≠ g) (hgx : ¬ XB xb mb E g)
    (ho : OwnF W B g cap s) (hp : s.Perm (E.map (·.h))) (hn : s.length < 4611686018427387904) :
    Calls Try.prog 34 #[.slice (some ⟨g, 0, none⟩) s.length cap, .func (.func 35) #[] #[.pointer (some ⟨gb, 0, none⟩)]] W fun r W' => r = .returned (.tuple #[]) ∧ OwnF W' B g cap (E.map (·.h)) ∧ W.grownBy W' (some g) := by
  by_cases hE : E = []
  · subst hE
    obtain rfl : s = [] := List.Perm.eq_nil hp
    exact (AnyF.slices_SortFunc_none (P := Try.prog) (ρ := Try.sortFp_ren) { Try.sortFp with } (some ⟨g, 0, none⟩) cap (.func (.func 35) #[] #[.pointer (some ⟨gb, 0, none⟩)]) W).mono (fun r W' q => ⟨q.1, by rw [q.2]; exact ho, by rw [q.2]; exact World.grownBy.refl _ _⟩)
  · obtain ⟨e0, he0⟩ := List.exists_mem_of_ne_nil E hE
    haveI : Inhabited (Hq E) := ⟨⟨e0.h, e0, he0, rfl⟩⟩
    obtain ⟨l, hlv⟩ : ∃ l : List (Hq E), l.map (·.1) = s := hqs_of s (fun f hf => by obtain ⟨e, he, q⟩ := List.mem_map.1 (hp.mem_iff.1 hf); exact ⟨e, he, q⟩)
    have hsz : l.length = s.length := by rw [← hlv, List.length_map]
    have hql : ∀ x : Hq E, (hqL x).length = 32 := fun x => by obtain ⟨f, e, he, rfl⟩ := x; exact fpL_length (hk.2 e he)
    have hH : HoldsK hqL 32 W g 0 l.toArray := by
      unfold HoldsK
      rw [flatK_list hqL 32 hql (by decide), hqL_flat, hlv]
      exact holds_id ho.1
    have eg : ∀ args w, (callFunc 35 args).run Try.prog w = .ok (.enter 35 args) w := enters_of Try.func35 (by kernel_rfl) rfl
    have hS := AnyQ.slices_SortFunc_total Try.sortFp 32 (fun w => Try.isAgg47 w) (fun w => Try.sizeOf47 w) hqL hql (fun x => fpL_one) (cmpU E) (swoU E) 35 #[.pointer (some ⟨gb, 0, none⟩)] g 0 cap l.toArray W eg
      (fun m os dk _ x y => by
        obtain ⟨f, e, he, rfl⟩ := x
        obtain ⟨f', e', he', rfl⟩ := y
        have hgr : W.grownBy (sortWorldK hqL 32 W g 0 m dk os) (some g) := by
          unfold sortWorldK putRowK
          exact grown_putId _
        have hm := h.kept hgr (fun b q => by injection q with q; rw [← q]; exact hgx)
        have hc := closure35 (e := e) (e' := e') hm hfm hk he he' (hgr.cell hg (fun q => hgg (by injection q)))
        refine hc.mono (fun r W' q => ⟨?_, q.2⟩)
        rw [q.1]
        unfold cmpU
        simp only
        rw [u_mem hk he, u_mem hk he']) hH ho.lt (by simpa [hsz] using hn) (totU hk hs)
    change Calls Try.prog 34 _ _ _ at hS
    rw [List.size_toArray, hsz] at hS
    refine hS.mono ?_
    rintro r W' ⟨he, n', os, rfl⟩
    have hperm : ((l.toArray.toList).mergeSort fun x y => !ltOf (cmpU E) y x).Perm l := by simpa using List.mergeSort_perm l (fun x y => !ltOf (cmpU E) y x)
    have hsort : ((l.toArray.toList).mergeSort fun x y => !ltOf (cmpU E) y x).Pairwise (fun x y => (!ltOf (cmpU E) y x) = true) := by
      refine List.pairwise_mergeSort (fun a b c h1 h2 => ?_) (fun a b => ?_) _
      · rw [Bool.not_eq_true'] at *
        exact (swoU E).ntrans _ _ _ h2 h1
      · rw [Bool.or_eq_true, Bool.not_eq_true', Bool.not_eq_true', ltU, ltU, decide_eq_false_iff_not, decide_eq_false_iff_not]
        omega
    generalize (l.toArray.toList).mergeSort (fun x y => !ltOf (cmpU E) y x) = m at *
    have hmv : m.map (·.1) = E.map (·.h) := by
      refine sort_is hk hs ((hperm.map _).trans (by rw [hlv]; exact hp)) ?_
      rw [List.pairwise_map]
      exact hsort.imp (fun {a b} q => by rw [ltU, Bool.not_eq_true', decide_eq_false_iff_not] at q; exact q)
    have hml : (m.map (·.1)).length = s.length := by rw [List.length_map, hperm.length_eq, hsz]
    have hfp : AllFp (E.map (·.h)) := fun f hf => by obtain ⟨e, he, rfl⟩ := List.mem_map.1 hf; exact hk.2 e he
    refine ⟨he, ⟨?_, hfp⟩, ?_⟩
    · have hlen : (E.map (·.h)).length = s.length := by rw [← hmv]; exact hml
      rw [hlen]
      unfold sortWorldK putRowK
      rw [flatK_list hqL 32 hql (by decide), hqL_flat, hmv]
      have hfl : (fsL (E.map (·.h))).length = s.length * 32 := by rw [fsL_len hfp, hlen]
      have := own_grow (own_putId (q := n') (k := s.length) ho.1 hfl (Nat.le_refl _)) os
      rwa [List.take_of_length_le (by omega)] at this
    · unfold sortWorldK putRowK
      exact grown_putId _
theorem ranges_row {wr : World} {base mb r n cnt k s t : Nat} {D : Tok} {left : Lit → Bool} {v : Value} {xs : List Value} (h : wr.ranges Try.prog 47 RV mb r n D left cnt) (hr : wr.ownsRow base t s v k xs) : v.ownBlock ≠ some r ∧ v.ownBlock ≠ some mb := by
  obtain ⟨es, clock, since, seen, c0, hb, _, _, _, hi, _⟩ := h
  exact ⟨own_other hr hi (fun cur q => by cases q), own_other hr hb (fun cur q => by cases q)⟩
def HookPost (W : World) (E : List En) (r : Ending) (W' : World) : Prop := ∃ B d, r = .returned (.slice B (E.map (·.h)).length d) ∧ W'.ownsRow W.heap.size 47 32 (.slice B (E.map (·.h)).length d) (E.map (·.h)).length (fsL (E.map (·.h))) ∧ Below W.heap.size W W'
theorem hooks17_nil (W : World) : Calls Try.prog 17 #[.pointer none] W fun r W' => r = .returned (.slice none 0 0) ∧ Below W.heap.size W W' := by
  have HB : Hid (Below W.heap.size W (W.alloc (.cells #[.pointer none] 23))) := Lib.hid ((Below.refl _ _).alloc (Nat.le_refl _) _)
  go_enter Try.func17, Try.ntmps17
  go_wp2_with fail
  go_ret
  exact ⟨rfl, HB.out⟩
set_option maxRecDepth 100000 in
set_option maxHeartbeats 8000000 in
theorem hooks17 {T : Nat → Prop} {W0 W : World} {base xb ph mo N : Nat} {E : List En} (h : Xs T W0 W base xb ph mo N E) (hN : N ≤ 1000000) :
    Calls Try.prog 17 #[.pointer (some ⟨xb, 0, none⟩)] W (HookPost W E) := by
  obtain ⟨mb, now, n, fm, h1, hfm, hok, _, hnN⟩ := h
  have hn6 : n ≤ 1000000 := Nat.le_trans hnN hN
  clear hN hnN
  have hbB : Below W.heap.size W (W.alloc (.cells #[.pointer (some ⟨xb, 0, none⟩)] 23)) := (Below.refl _ _).alloc (Nat.le_refl _) _
  have HB0 := Lib.hid hbB
  have HM0 := Lib.hid (h1.mem.kept (grown_of_below hbB) (fun b q => by cases q))
  have HLT : Hid (∀ b, XB xb mb E b → b < W.heap.size) := Lib.hid (fun b hb => (h1.mem.lt hb).1)
  have HFM := Lib.hid hfm
  have HOK := Lib.hid hok
  have c2 := HM0.out.c.2.2.1
  have cg : (W.alloc (.cells #[.pointer (some ⟨xb, 0, none⟩)] 23)).cell? ⟨W.heap.size, 0, none⟩ = some (.pointer (some ⟨xb, 0, none⟩)) := by rw [cell_of_row _ _ _ _ 23 (0, 0) (heap_alloc_new W _)]; rfl
  obtain ⟨D, hown, hmap, hD⟩ := HM0.out.mp
  have HD := Lib.hid hD
  have HSZD := Lib.hid hown.size_le
  obtain ⟨i0, hi, hz0, hz1, hz2⟩ := info_parts info29'
  have I0 := Lib.hid hi
  have Z0 := Lib.hid hz0
  have S0 := Lib.hid hz1
  have Y0 := Lib.hid hz2
  have HGB : Hid ((W.alloc (.cells #[.pointer (some ⟨xb, 0, none⟩)] 23)).heap.size = W.heap.size + 1) := Lib.hid (World.size_alloc _ _)
  have HCG := Lib.hid cg
  clear h1 hfm hok hbB hi hz0 hz1 hz2 hD hmap
  go_enter Try.func17, Try.ntmps17
  go_upto_region 1 with fail
  generalize hW1 : W.alloc (.cells #[.pointer (some ⟨xb, 0, none⟩)] 23) = W1 at *
  clear hW1
  obtain ⟨gb, hgb⟩ : ∃ gb, gb = W.heap.size := ⟨_, rfl⟩
  have HGE := Lib.hid hgb
  rw [← hgb] at cg HCG HGB ⊢
  clear hgb
  go_wp2_with (first
    | (at_range; refine wpList_range_own _ rfl _ 52 rfl 47 64 keyed47 Try.underlying52 _ mb n _ rfl hown ?_; intro w0 hrg0 hg0 hs0)
    | go_in)
  go_frame
  have HB1 : Hid (Below W1.heap.size W1 w0) := Lib.hid ⟨hg0.os, hg0.tape, hg0.output, hg0.size, fun k hk => hg0.block k hk (by simp)⟩
  have HMF : Hid (MetF E (Maps.has D) []) := Lib.hid (MetF.start (fun f hf => by rw [(HD.out f hf).2, HFM.out f hf]))
  obtain ⟨r, hr⟩ : ∃ r, r = W1.heap.size := ⟨_, rfl⟩
  have HRE := Lib.hid hr
  rw [← hr] at hrg0 ⊢
  clear hg0 hs0 hown c2 cg hr
  go_loopw [3] (fun ov wr => ∃ (left : Lit → Bool) (cnt : Nat) (xs : List Fp), wr.ranges Try.prog 47 RV mb r n D left cnt ∧ wr.ownsRow W1.heap.size 47 32 ov xs.length (fsL xs) ∧ MetF E left xs ∧ Below W1.heap.size W1 wr ∧ xs.length + cnt ≤ n)
    (fun _ wr => wr.rangeLeft mb r)
  case atStart => exact ⟨_, _, [], hrg0, World.ownsRow_nil _ _ _ _, HMF.out, HB1.out, by have := HSZD.out; simpa using this⟩
  case round =>
    obtain ⟨left, cnt, xs, hrg, hrow, hmet, hbw, hcn⟩ := hrel
    obtain ⟨VA, VC, rfl⟩ := own_slice hrow
    have HROW := Lib.hid hrow
    have HMET := Lib.hid hmet
    have HBW := Lib.hid hbw
    clear hrow hmet hbw hrg0
    go_wp2_with (first
      | (at_next; refine wpList_next_ranges _ rfl _ rfl 47 keyed47 RV (fun f : Fp => Value.agg (fpL f).toArray) (fun v : Value => v) (fun key kl hk => by obtain ⟨f, _, e, _⟩ := keyOf47_inv hk; exact ⟨f, e⟩) (fun v _ _ => ⟨v, rfl⟩) mb r n _ _ _ rfl hrg ?_ ?_)
      | go_in)
    · intro _ hl0
      have hperm := Lib.hid (HMET.out.fin HOK.out.hk hl0)
      have hxl : xs.length ≤ n := by omega
      have HB2 : Hid (Below W.heap.size W wr) := Lib.hid (HB0.out.trans (HBW.out.mono HB0.out.size))
      have HAF : Hid (AllFp xs) := Lib.hid HMET.out.2.1
      by_cases hx0 : xs = []
      · subst hx0
        have hE0 : E = [] := by
          have := hperm.out.symm
          exact List.map_eq_nil_iff.1 (List.Perm.eq_nil this)
        have HE0 := Lib.hid hE0
        have HCN := Lib.hid (AnyF.slices_SortFunc_none (P := Try.prog) (ρ := Try.sortFp_ren) { Try.sortFp with } VA VC (.func (.func 35) #[] #[.pointer (some ⟨gb, 0, none⟩)]) wr)
        have hz0 : ([] : List Fp).length = 0 := rfl
        rw [hz0]
        clear hl0 hz0 hE0
        go_wp2_with fail
        refine Calls.mono HCN.out ?_
        rintro _ _ ⟨rfl, rfl⟩
        go_wp2_with fail
        go_ret
        refine ⟨VA, VC, by rw [HE0.out]; rfl, ?_, HB2.out⟩
        rw [HE0.out]
        exact own_mono HROW.out HB0.out.size
      · obtain ⟨g, cap, e1, hgB, hgl, _⟩ := own_some HROW.out (fun q => by
          have := List.length_pos_iff.2 hx0
          injection q with _ q _
          omega)
        injection e1 with e1 _ e3
        subst e1; subst e3
        have HCS := Lib.hid (sortH (HM0.out.kept (grown_of_below HBW.out) (fun b q => by cases q)) HFM.out HOK.out.hk HOK.out.srt ((HBW.out.cell (World.block_lt_of_cell? W1 _ HCG.out)).trans HCG.out) (by have := World.block_lt_of_cell? W1 _ HCG.out; simp only at this; omega) (fun hx => by have := HLT.out _ hx; have := HB0.out.size; omega) ⟨HROW.out, HAF.out⟩ hperm.out (by omega))
        clear hl0 hx0
        go_wp2_with fail
        refine Calls.mono HCS.out ?_
        rintro _ W3 ⟨rfl, ho3, hg3⟩
        have hl3 : xs.length = (E.map (·.h)).length := hperm.out.length_eq
        have HL3 := Lib.hid hl3
        have HO3 := Lib.hid ho3
        have HB3 : Hid (Below W.heap.size W W3) := Lib.hid (HB2.out.grown hg3 HB2.out.size (fun j q => by cases q; have := HB0.out.size; omega))
        clear ho3 hg3 hl3
        go_wp2_with fail
        go_ret
        exact ⟨some ⟨g, 0, none⟩, VC, by rw [HL3.out]; rfl, own_mono HO3.out.1 HB0.out.size, HB3.out⟩
    · intro f c kl yd yp w1 cnt1 hkey hlk hv hat hrg1 hlt hg1 hs1 hen
      obtain ⟨f', hf, e1, rfl⟩ := keyOf47_inv hkey
      obtain rfl : f = f' := fpL_inj (by simpa using e1)
      have hh := Maps.has_true_of_atKey hat
      rw [(HD.out f hf).2, HFM.out f hf] at hh
      have HMT := Lib.hid (HMET.out.step hf hlk hh)
      have HR1 := Lib.hid hrg1
      have HLTC := Lib.hid (And.intro hlt (And.intro hrg.left_eq trivial))
      have HROW1 := Lib.hid (HROW.out.kept hg1 (.inr (ranges_row hrg HROW.out).1))
      have HBW1 : Hid (Below W1.heap.size W1 w1) := Lib.hid (HBW.out.grown hg1 HBW.out.size (fun j q => by cases q; have := HRE.out; omega))
      have HI2 : Hid ((Try.prog.info? 47).map (·.size) = some (fpL f).toArray.size) := Lib.hid (by rw [List.size_toArray]; exact info29f hf)
      have HIX := Lib.hid (info29f hf)
      have HS2 : Hid ((#[Value.int .u8 0, Value.int .u8 0, Value.int .u8 0, Value.int .u8 0, Value.int .u8 0, Value.int .u8 0, Value.int .u8 0, Value.int .u8 0, Value.int .u8 0, Value.int .u8 0, Value.int .u8 0, Value.int .u8 0, Value.int .u8 0, Value.int .u8 0, Value.int .u8 0, Value.int .u8 0, Value.int .u8 0, Value.int .u8 0, Value.int .u8 0, Value.int .u8 0, Value.int .u8 0, Value.int .u8 0, Value.int .u8 0, Value.int .u8 0, Value.int .u8 0, Value.int .u8 0, Value.int .u8 0, Value.int .u8 0, Value.int .u8 0, Value.int .u8 0, Value.int .u8 0, Value.int .u8 0] : Array Value).size = (fpL f).toArray.size) := Lib.hid (by rw [show (fpL f).toArray.size = 32 by rw [List.size_toArray, fpL_length hf]]; rfl)
      have HON : Hid ((fpL f).toArray.all (·.oneCell') = true) := Lib.hid (all_oneCell_toArray fpL_one)
      have HFX : Hid ((fpL f).length = 32) := Lib.hid (fpL_length hf)
      have HFF := Lib.hid hf
      clear hkey hlk hv hat hg1 hs1 hh hf e1 hlt hrg1 hrg HROW HMET HBW
      go_upto_region 7 with (first
        | ((with_reducible refine wpList_store_new (op := ⟨none, .store _ _ _, _, _, _, _⟩) rfl 47 (.tmp 4) (.tmp 15) rfl _ (fpL f).toArray ?_ ?_ HI2.out HS2.out HON.out ?_); rfl; rfl)
        | go_in)
      have HBA : Hid (Below w1.heap.size w1 (w1.alloc (.cells (fpL f).toArray 47))) := Lib.hid ((Below.refl _ _).alloc (Nat.le_refl _) _)
      have HB5 := Lib.hid (box_range (heap_alloc_new w1 (.cells (fpL f).toArray 47)))
      have HROW2 := Lib.hid (own_below HROW1.out HBA.out)
      have HR2 := Lib.hid (HR1.out.alloc (.cells (fpL f).toArray 47))
      have HBW2 := Lib.hid (HBW1.out.trans (HBA.out.mono HBW1.out.size))
      have HSB : Hid (w1.heap.size < (w1.alloc (.cells (fpL f).toArray 47)).heap.size) := Lib.hid (by rw [World.size_alloc]; omega)
      clear hen HROW1 HR1 HBW1 HBA
      generalize w1.alloc (.cells (fpL f).toArray 47) = w2 at *
      generalize w1.heap.size = b5 at *
      have HROW3 := Lib.hid (HROW2.out.alloc (.cells (fpL f).toArray 47))
      have hxl : xs.length < n := by have := HLTC.out.1; omega
      go_wp2_with (first
        | ((with_reducible refine wpList_load_mid (op := ⟨some 17, _, _, _, _, _⟩) rfl 47 (.tmp 4) rfl b5 0 ?_ (fpL f) _ HB5.out Try.underlying47 rfl HIX.out ?_); rfl)
        | ((with_reducible refine wpList_build_one (op := ⟨some 18, _, _, _, _, _⟩) rfl 34 (.tmp 17) ?_ 47 32 _ (fpL f) ?_ Try.underlying34 Try.sizeOf47 Try.zeroValue47 ?_ ?_ HFX.out ?_); rfl; rfl; decide; decide)
        | (at_builtin; refine wpList_append_own _ rfl (.tmp 16) (.tmp 18) _ rfl W1.heap.size 47 i0 _ 32 32 Try.underlying34 I0.out Z0.out S0.out Y0.out (by simp [Value.cells]) (by decide) _ xs.length _ rfl HROW3.out _ 1 1 (fpL f) rfl (by rw [HFX.out]) (newF _ f _ rfl) fpL_one (by unfold maxLen; omega) (by omega) (by have := HBW2.out.size; simp; omega) ?_))
      intro v3 w3 hown3 hg3 _
      have hrr := ranges_row (HR2.out.alloc (.cells (fpL f).toArray 47)) HROW3.out
      have HR3 := Lib.hid ((HR2.out.alloc (.cells (fpL f).toArray 47)).kept hg3 (fun q => hrr.2 q.symm) (fun q => hrr.1 q.symm))
      have HBW3 : Hid (Below W1.heap.size W1 w3) := Lib.hid ((HBW2.out.alloc HBW2.out.size _).grown hg3 (by have := HBW2.out.size; simp; omega) (fun j q => (HROW3.out.lt j q).1))
      have HOWN3 : Hid (w3.ownsRow W1.heap.size 47 32 v3 (xs ++ [f]).length (fsL (xs ++ [f]))) := Lib.hid (by
        rw [List.length_append, fsL_app]
        have : fsL [f] = fpL f := by simp [fsL]
        rw [this]
        exact hown3)
      clear hown3 hg3 hrr
      go_wp2_with fail
      go_roundw
      case rel => exact ⟨_, cnt1, xs ++ [f], HR3.out, HOWN3.out, HMT.out, HBW3.out, by rw [List.length_append]; have := HLTC.out.1; simp; omega⟩
      case measure => rw [HR3.out.left_eq, HLTC.out.2.1]; exact HLTC.out.1
end Go.Proofs.Ytnpgfhoagpeelaa
