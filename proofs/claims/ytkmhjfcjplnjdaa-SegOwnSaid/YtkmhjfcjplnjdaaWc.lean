/- The walk over SegOwn. -/
import Derived.Test.YtkmhjfcjplnjdaaWb
namespace Go.Proofs.Ytkmhjfcjplnjdaa
open Go.RowKit
def mark (i k : Nat) : Fp := 9 :: (i : Int) % 256 :: (k : Int) % 256 :: List.replicate 29 0
def seven : Fp := 7 :: List.replicate 31 0
theorem mark_fp (i k : Nat) : IsFp (mark i k) := by
  refine ⟨rfl, fun b hb => ?_⟩
  simp only [mark, List.mem_cons, List.mem_replicate] at hb
  rcases hb with rfl | rfl | rfl | ⟨_, rfl⟩ <;> omega
theorem seven_fp : IsFp seven := by
  refine ⟨rfl, fun b hb => ?_⟩
  simp only [seven, List.mem_cons, List.mem_replicate] at hb
  rcases hb with rfl | ⟨_, rfl⟩ <;> omega
theorem mark_eq (a b : Nat) (W : World) : (Op.equalIn 10000 37 (.agg (fpL (mark a b)).toArray) (.agg #[.int .u8 9, .int .u8 ((a : Int) % 256), .int .u8 ((b : Int) % 256), .int .u8 0, .int .u8 0, .int .u8 0, .int .u8 0, .int .u8 0, .int .u8 0, .int .u8 0, .int .u8 0, .int .u8 0, .int .u8 0, .int .u8 0, .int .u8 0, .int .u8 0, .int .u8 0, .int .u8 0, .int .u8 0, .int .u8 0, .int .u8 0, .int .u8 0, .int .u8 0, .int .u8 0, .int .u8 0, .int .u8 0, .int .u8 0, .int .u8 0, .int .u8 0, .int .u8 0, .int .u8 0, .int .u8 0])).run Try.prog W = .ok true W := by
  have h := fp_equal (mark_fp a b) (mark_fp a b) W
  rw [decide_eq_true rfl] at h
  exact h
/-- the first i segments are marked -/
def Markd (i : Nat) (ss : List (List Fp)) : Prop := ∀ (q : Nat) (s : List Fp), ss[q]? = some s → (q < i → s.length ≤ 601 ∧ ∀ j, j + 1 < s.length → s[j]? = some (mark q j)) ∧ (i ≤ q → s.length ≤ 600)
/-- what SegOwn has behind Split -/
structure OwnAt (x : CfX) (w : World) (B : Nat) (ts : List Fp) (m : Nat) (g1 g2 : Nat) (W : World) : Prop where
  one : Fps W B (some ⟨g1, 0, none⟩) m ts
  two : Fps W B (some ⟨g2, 0, none⟩) m ts
  box : Boxed x w W
  big : w.heap.size < B
theorem OwnAt.below {x : CfX} {w : World} {B : Nat} {ts : List Fp} {m g1 g2 : Nat} {W W' : World} (h : OwnAt x w B ts m g1 g2 W) (hb : Below B W W') : OwnAt x w B ts m g1 g2 W' :=
  ⟨h.one.below hb, h.two.below hb, ⟨(hb.block _ h.big).trans h.box.1, h.box.2.trans (hb.mono (by have := h.big; omega))⟩, h.big⟩
theorem wpList_store_to {P : Program} {ops : Array Oper} {rest : List Oper} {op : Oper} {a : Act} {w W3 : World} {Q : Exit → Act → World → Prop} (hgd : op.guard = none) (ty : TypeId) (x y : Operand) (ho : op.op = .store ty x y)
    (b o : Nat) (cells : Array Value) (hx : a.eval x = .pointer (some ⟨b, o, none⟩)) (hy : a.eval y = .agg cells)
    (ht : w.there b o cells.size) (hi : (P.info? ty).map (·.size) = some cells.size) (h1 : cells.all (·.oneCell') = true) (hW : w.setCells b o cells.toList = W3)
    (h : wpList P ops Q rest (a.put op.dst undef) W3) : wpList P ops Q (op :: rest) a w := by
  subst hW
  exact wpList_store_mid hgd ty x y ho b o cells hx hy ht hi h1 h
theorem SegsO.setTo {w W3 : World} {base base2 : Nat} {v : Value} {ss : List (List Fp)} {gs : List (Nat × Nat)} {w0 : World} (h : SegsO w base v ss gs) {i k g cap : Nat} {s : List Fp} {f : Fp} (hs : ss[i]? = some s) (hg : gs[i]? = some (g, cap)) (hk : k < s.length) (hf : IsFp f) (hW : w.setCells g (k * 32) (fpA f).toList = W3)
    (hb : Below base2 w0 w) (hgb : base2 ≤ g) : SegsO W3 base v (ss.set i (s.set k f)) gs ∧ Below base2 w0 W3 := by
  subst hW
  exact ⟨h.setElem hs hg hk hf, below_cells _ hgb _ _ hb⟩
theorem grow_to {w5 wr w3 : World} {B L cc gv q N g cap g3 c3 : Nat} {ss2 : List (List Fp)} {gs2 : List (Nat × Nat)} {s2 : List Fp} {o : Obj} (hS : SegsO wr B (.slice (some ⟨gv, 0, none⟩) L cc) ss2 gs2) (hL : ss2.length = L) (hs : ss2[q]? = some s2) (hN : s2.length = N) (hg : gs2[q]? = some (g, cap)) (hb : Below B w5 wr) (hBs : B ≤ wr.heap.size)
    (hown3 : w3.ownsRow B 37 32 (.slice (some ⟨g3, 0, none⟩) (N + 1) c3) (N + 1) (fpsL s2 ++ fpL seven)) (hg3 : (wr.alloc o).grownBy w3 (some g)) (hat : g3 = g ∨ g3 = wr.heap.size + 1) :
    SegsO (w3.setCell ⟨gv, q, none⟩ (.slice (some ⟨g3, 0, none⟩) (N + 1) c3)) B (.slice (some ⟨gv, 0, none⟩) L cc) (ss2.set q (s2 ++ [seven])) (gs2.set q (g3, c3)) ∧ Below B w5 (w3.setCell ⟨gv, q, none⟩ (.slice (some ⟨g3, 0, none⟩) (N + 1) c3)) ∧
    w3.cell? ⟨gv, q, none⟩ = some (.slice (some ⟨g, 0, none⟩) N cap) ∧ w3.frozen? ⟨gv, q, none⟩ = false := by
  subst hL
  subst hN
  obtain ⟨g', cap', gv', cv', hg', hO, hv, hgb, hgl, hcell, hfro⟩ := hS.get hs
  rw [hg] at hg'
  injection hg' with hg'
  injection hg' with e1 e2
  subst e1
  subst e2
  injection hv with e1 e2 e3
  injection e1 with e1
  injection e1 with e1
  subst e1
  clear e2 e3
  obtain ⟨_, cur, hcur⟩ := hO.block
  have hne := hS.other hcur
  have hne2 : gv ≠ g := fun e => hne (by rw [e]; rfl)
  have h1 : Below wr.heap.size wr (wr.alloc o) := (Below.refl _ _).alloc (Nat.le_refl _) _
  have hall : ∀ f ∈ s2 ++ [seven], IsFp f := by
    intro f hf
    rcases List.mem_append.1 hf with hf | hf
    · exact hO.2 f hf
    · rw [List.mem_singleton.1 hf]; exact seven_fp
  have hO3 : OwnFps w3 B g3 c3 (s2 ++ [seven]) := by
    refine ⟨?_, hall⟩
    have : fpsL (s2 ++ [seven]) = fpsL s2 ++ fpL seven := by simp [fpsL]
    rw [this, List.length_append, List.length_singleton]
    exact hown3
  have h2 := hS.grow hs hg rfl h1 hg3 hO3 (by simpa using hat)
  rw [List.length_append, List.length_singleton] at h2
  have hblk : w3.heap[gv]? = wr.heap[gv]? := (hg3.block gv (by simp; omega) (by simpa using hne2)).trans (h1.block gv hgl)
  refine ⟨h2, ?_, ?_, ?_⟩
  · exact ((hb.alloc hBs _).grown hg3 (by simp; omega) (fun k hk => by injection hk with hk; subst hk; exact hO.block.1)).setCell (p := ⟨gv, q, none⟩) hgb _
  · rw [World.cell?_of_block (a := ⟨gv, q, none⟩) hblk]; exact hcell
  · rw [World.frozen?_of_block (a := ⟨gv, q, none⟩) hblk]; exact hfro
theorem markd_step {q N : Nat} {ss1 ss2 : List (List Fp)} {s2 : List Fp} (h : Markd q ss1) (hq : q < ss2.length) (hN : s2.length = N) (hN6 : N ≤ 600) (hm : ∀ p, p < N → s2[p]? = some (mark q p)) (ho : ∀ p, p ≠ q → ss2[p]? = ss1[p]?) : Markd (q + 1) (ss2.set q (s2 ++ [seven])) := by
  intro p s hs
  by_cases hp : q = p
  · subst hp
    rw [List.getElem?_set_self hq] at hs
    injection hs with hs
    subst hs
    refine ⟨fun _ => ⟨by rw [List.length_append, List.length_singleton]; omega, fun j hj => ?_⟩, fun h => by omega⟩
    rw [List.length_append, List.length_singleton] at hj
    rw [List.getElem?_append_left (by omega)]
    exact hm j (by omega)
  · rw [List.getElem?_set_ne hp, ho p (fun e => hp e.symm)] at hs
    have := h p s hs
    exact ⟨fun h1 => this.1 (by omega), fun h1 => this.2 (by omega)⟩
theorem OwnFps.range {w : World} {base g cap : Nat} {s : List Fp} (h : OwnFps w base g cap s) {k : Nat} {f : Fp} (hk : s[k]? = some f) : w.rangeAt g (k * 32) (fpL f) := by
  have h1 := h.fps (B := g + 1) (Nat.lt_succ_self _)
  obtain ⟨b, o, e, _, hc⟩ := h1.2.2 (by have := (List.getElem?_eq_some_iff.1 hk).1; omega)
  injection e with e
  injection e with e1 e2
  subst e1
  subst e2
  have := hc k f hk
  rwa [Nat.zero_add] at this
theorem own_some {W : World} {base : Nat} {e : TypeId} {size : Nat} {v : Value} {k : Nat} {xs : List Value} (h : W.ownsRow base e size v k xs) (hne : v ≠ .slice none 0 0) : ∃ g cap, v = .slice (some ⟨g, 0, none⟩) k cap ∧ base ≤ g ∧ g < W.heap.size ∧ k ≤ cap := by
  rcases h.2 with ⟨hv, _⟩ | ⟨g, cap, cur, hv, hb, hh, hn, _⟩
  · exact absurd hv hne
  · exact ⟨g, cap, hv, hb, (Array.getElem?_eq_some_iff.1 hh).1, hn⟩
theorem made0 (w : World) : (w.alloc (.cells #[] 37)).ownsRow w.heap.size 37 32 (.slice (some ⟨w.heap.size, 0, none⟩) 0 0) 0 [] := World.ownsRow_made w #[] 0 (Nat.le_refl _) (by simp [maxLen]) (by simp)
theorem OwnFps.there {w : World} {base g cap : Nat} {s : List Fp} (h : OwnFps w base g cap s) {k : Nat} (hk : k < s.length) : w.there g (k * 32) 32 := by
  intro j hj
  rcases h.1.2 with ⟨hv, _⟩ | ⟨g', cap', cur, hv, hg, hh, hn, hc, hz, ht⟩
  · cases hv
  · injection hv with e1 e2 e3
    injection e1 with e1
    injection e1 with e1
    subst e1
    subst e3
    refine ⟨?_, frozen_of_row w g _ cur 37 hh⟩
    rw [cell_of_row w g (k * 32 + j) cur 37 (0, 0) hh]
    have q1 : (k + 1) * 32 ≤ s.length * 32 := Nat.mul_le_mul_right _ hk
    have q2 : s.length * 32 ≤ cap * 32 := Nat.mul_le_mul_right _ hn
    rw [Array.getElem?_eq_getElem (by omega)]
    rfl
set_option maxRecDepth 100000 in
set_option maxHeartbeats 1000000 in
theorem segOwn (x : CfX) (A : Option Addr) (n c : Nat) (fs : List Fp) (w : World) (hl : Fps w w.heap.size A n fs) (hA : A = none → c = 0) (hnc : n ≤ c) (hcc : c ≤ 9223372036854775807) :
    Calls Try.prog 5 #[.slice A n c, .agg x.A] w (LawPost w) := by
  have HL := Lib.hid (hl.take (k := min n 600) (by omega))
  have hm6 : min n 600 ≤ 600 := by omega
  have hmc : min n 600 ≤ c := by omega
  have HA : Hid (A = none → min n 600 = 0 ∧ c = 0) := fun e => by have := hA e; omega
  clear hl hA
  have c8 := few8 A n c hnc hcc
  have C8 := Lib.hid c8
  clear c8
  generalize min n 600 = m at *
  generalize fs.take m = ts at *
  obtain ⟨i37, hi37a, hz37, hs37, hy37⟩ := info_parts info37'
  have I37 := Lib.hid hi37a
  have Z37 := Lib.hid hz37
  have S37 := Lib.hid hs37
  have Y37 := Lib.hid hy37
  clear hi37a hz37 hs37 hy37
  have HFL : Hid ((fpsL ts).length = m * 32) := by
    show _ = _
    rw [fpsL_length HL.out.2.1, HL.out.1]
  have hnews : Hid (∀ (W : World), Below w.heap.size w W → ∀ ad, A = some ad → ∀ j u, (fpsL ts)[j]? = some u → W.cell? (ad.add j) = some u) := by
    intro W hb ad had j u hu
    subst had
    have hj := (List.getElem?_eq_some_iff.1 hu).1
    have h1 := HL.out.2.2 (by have := HFL.out; omega)
    obtain ⟨b, o, e, hbb, _⟩ := h1
    injection e with e
    subst e
    have h2 := (HL.out.below hb).cells 0 m j u
    rw [List.drop_zero, List.take_of_length_le (by rw [HL.out.1]; exact Nat.le_refl _)] at h2
    simpa using h2 hu
  have HOWN0 : Hid (((w.alloc (.cells x.A 24)).alloc (.cells #[] 37)).ownsRow (w.heap.size + 1) 37 32 (.slice (some ⟨w.heap.size + 1, 0, none⟩) 0 0) 0 []) := by
    have := made0 (w.alloc (.cells x.A 24))
    rwa [World.size_alloc] at this
  go_enter Try.func5, Try.ntmps5
  go_wp2_with (first
    | (go_at_call 8; refine (C8.out _).mono ?_; rintro e w0 ⟨rfl, rfl⟩)
    | (at_builtin; refine wpList_append_own_any rfl (.tmp 11) (.tmp 13) _ rfl (w.heap.size + 1) 37 i37 _ 32 32 Try.underlying22 I37.out Z37.out S37.out Y37.out rfl (by decide) _ 0 [] rfl HOWN0.out A m c (fpsL ts) rfl HFL.out HA.out ?news1 (fpsL_one _) ?h63 ?hby ?hbase ?_))
  case news1 => exact hnews.out _ (((Below.refl _ _).alloc (Nat.le_refl _) _).alloc (by simp) _)
  case h63 => simp only [maxLen]; omega
  case hby => omega
  case hbase => simp
  intro v1 w1 hown1 hg1 hnil1
  have hne1 : v1 ≠ .slice none 0 0 := fun e => hnil1 e
  obtain ⟨g1, c1, rfl, hbg1, hlg1, hmc1⟩ := own_some hown1 hne1
  have hb1 : Below w.heap.size w w1 := (((Below.refl _ _).alloc (Nat.le_refl _) _).alloc (by simp) _).grown hg1 (by simp; omega) (fun k hk => by injection hk with hk; subst hk; simp)
  have HBOX1 : Hid (Boxed x w w1) := ⟨(hg1.block _ (by simp; omega) (by simp [Value.ownBlock])).trans ((Below.heap_alloc _ _ _ (by simp)).trans (heap_alloc_new _ _)), hb1⟩
  have HO1 : Hid (OwnFps w1 (w.heap.size + 1) g1 c1 ts) := ⟨by rw [HL.out.1]; exact hown1, HL.out.2.1⟩
  clear hown1 hg1 hnil1 hne1
  have hnews2 : Hid (∀ j u, (fpsL ts)[j]? = some u → (w1.alloc (.cells #[] 37)).cell? ((⟨g1, 0, none⟩ : Addr).add j) = some u) := by
    intro j u hu
    have h1 := HO1.out.1.cells (g := g1) rfl j u hu
    rw [Addr.add_mid] at h1 ⊢
    rw [World.cell?_alloc_lt _ _ _ (World.block_lt_of_cell? _ _ h1)]
    exact h1
  have HOWN1 := Lib.hid (made0 w1)
  go_wp2_with (first
    | (at_builtin; refine wpList_append_own _ rfl (.tmp 15) (.tmp 16) _ rfl w1.heap.size 37 i37 _ 32 32 Try.underlying22 I37.out Z37.out S37.out Y37.out rfl (by decide) _ 0 [] rfl HOWN1.out _ _ _ (fpsL ts) rfl HFL.out hnews2.out (fpsL_one _) ?h632 ?hby2 ?hbase2 ?_))
  case h632 => simp only [maxLen]; omega
  case hby2 => omega
  case hbase2 => simp
  intro v2 w2 hown2 hg2 hnil2
  have hne2 : v2 ≠ .slice none 0 0 := fun e => hnil2 e
  obtain ⟨g2, c2, rfl, hbg2, hlg2, hmc2⟩ := own_some hown2 hne2
  have hb2 : Below w1.heap.size w1 w2 := ((Below.refl _ _).alloc (Nat.le_refl _) _).grown hg2 (by simp) (fun k hk => by injection hk with hk; subst hk; exact Nat.le_refl _)
  have HO2 : Hid (OwnFps w2 w1.heap.size g2 c2 ts) := ⟨by rw [HL.out.1]; exact hown2, HL.out.2.1⟩
  have HD2 : Hid (OwnAt x w w2.heap.size ts m g1 g2 w2) := by
    have h1 := HO1.out.kept (hb2.block _ hlg1)
    have h2 := h1.fps (B := w2.heap.size) h1.lt
    have h3 := HO2.out.fps (B := w2.heap.size) HO2.out.lt
    rw [HL.out.1] at h2 h3
    exact ⟨h2, h3, HBOX1.out.below hb2, by have := h1.lt; have := h1.block.1; omega⟩
  clear hown2 hg2 hnil2 hne2 hnews hnews2
  have q2 := cells13 HD2.out.box.1
  have hC15 := segSplit x (some ⟨g1, 0, none⟩) m c1 ts w2 HD2.out.one (by omega) hmc1
  obtain ⟨ss, hss⟩ : ∃ ss, split x.c ts = ss := ⟨_, rfl⟩
  have hsl := split_len x.c ts
  rw [HL.out.1, hss] at hsl
  have C15 : Hid (Calls Try.prog 15 #[.slice (some ⟨g1, 0, none⟩) m c1, .agg x.A] w2 fun e W' => ∃ A2 cc gs, e = .returned (.slice A2 ss.length cc) ∧ SegsO W' w2.heap.size (.slice A2 ss.length cc) ss gs ∧ Below w2.heap.size w2 W') := hC15.mono fun e W' ⟨v, gs, he, hs, hb⟩ => by
    rw [hss] at hs
    obtain ⟨A2, cc, hv, _⟩ := ownsRow_slice hs.2.2.1
    subst hv
    exact ⟨A2, cc, gs, he, hs.o, hb⟩
  have HSS := Lib.hid hss
  clear hss hC15
  go_wp2_with (first
    | (go_at_call 15; refine C15.out.mono ?_; rintro e w5 ⟨A2, cc, gs, rfl, hs5, hb5⟩))
  clear q2
  have HS5 := Lib.hid hs5
  have HD5 := Lib.hid (HD2.out.below hb5)
  have hB5 := hb5.size
  clear hs5 hb5
  have h600 : ∀ s ∈ ss, s.length ≤ 600 := by
    intro s hs
    have h1 : s.length ≤ ss.flatten.length := List.Sublist.length_le (List.sublist_flatten_of_mem hs)
    have h2 : ss.flatten.length ≤ m := by
      rw [← HSS.out, split]
      split
      · rw [segs_flatten x.c _ _ (Nat.le_refl _), HL.out.1]; exact Nat.le_refl _
      · simp
    omega
  have H600 := Lib.hid h600
  clear h600
  generalize hL : ss.length = L at *
  have HLL := Lib.hid hL
  clear hL
  go_loopg [7, 8] L (fun gk i _ wr => ∃ (q : Nat) (ss1 : List (List Fp)) (gs1 : List (Nat × Nat)), q ≤ L ∧ gk = L - q ∧ i = .int .i64 q ∧ SegsO wr w2.heap.size (.slice A2 L cc) ss1 gs1 ∧ ss1.length = L ∧ Markd q ss1 ∧ Below w2.heap.size w5 wr)
  case atStart => exact ⟨0, ss, gs, Nat.zero_le _, rfl, rfl, HS5.out, HLL.out, fun q s hs => ⟨fun h => absurd h (Nat.not_lt_zero _), fun _ => H600.out s (List.mem_of_getElem? hs)⟩, Below.refl _ _⟩
  case round =>
    obtain ⟨q, ss1, gs1, hq, hgk, rfl, hs1, hl1, hmk, hbw⟩ := hrel
    have HS1 := Lib.hid hs1
    have HK := Lib.hid hgk
    have HMK := Lib.hid hmk
    have HL1 := Lib.hid hl1
    have HBW := Lib.hid hbw
    clear hs1 hgk hmk hl1 hbw
    by_cases hlt : q < L
    · obtain ⟨s, hs⟩ : ∃ s, ss1[q]? = some s := ⟨ss1[q]'(by rw [HL1.out]; exact hlt), by simp⟩
      have hsl6 := (HMK.out q s hs).2 (Nat.le_refl _)
      obtain ⟨N, hN⟩ : ∃ N, s.length = N := ⟨_, rfl⟩
      rw [hN] at hsl6
      have HSN := Lib.hid (And.intro hs hN)
      obtain ⟨gA, capA, gv, cv, hgA, hOA, hvA, hgvb, hgvl, hcA, hfA⟩ := HS1.out.get hs
      injection hvA with e1 e2 e3
      subst e1
      clear e2 e3 hgA hOA hcA hfA hs hN
      go_wp2_with fail
      go_loopg [8] N (fun gk i wr2 => ∃ (j : Nat) (ss2 : List (List Fp)) (gs2 : List (Nat × Nat)) (s2 : List Fp), j ≤ N ∧ gk = N - j ∧ i = .int .i64 j ∧ SegsO wr2 w2.heap.size (.slice (some ⟨gv, 0, none⟩) L cc) ss2 gs2 ∧ ss2.length = L ∧ ss2[q]? = some s2 ∧ s2.length = N ∧ (∀ p, p < j → s2[p]? = some (mark q p)) ∧ (∀ p, p ≠ q → ss2[p]? = ss1[p]?) ∧ Below w2.heap.size w5 wr2)
      case atStart => exact ⟨0, ss1, gs1, s, Nat.zero_le _, rfl, rfl, HS1.out, HL1.out, HSN.out.1, HSN.out.2, fun p hp => absurd hp (Nat.not_lt_zero _), fun _ _ => rfl, HBW.out⟩
      case round =>
        obtain ⟨j, ss2, gs2, s2, hj, hgk, rfl, hss2, hl2, hs2, hn2, hm2, ho2, hbw2⟩ := hrel
        obtain ⟨g, cap, gv', cv', hg, hO, hv, hgb, hgl, hcell, hfro⟩ := hss2.get hs2
        injection hv with e1 e2 e3
        injection e1 with e1
        injection e1 with e1
        subst e1
        clear e2 e3
        rw [hn2] at hcell
        have H2 := Lib.hid (And.intro hss2 (And.intro hl2 (And.intro hs2 (And.intro hn2 (And.intro hm2 ho2)))))
        have HG := Lib.hid hg
        have HO := Lib.hid hO
        have HK2 := Lib.hid hgk
        have HB2 := Lib.hid hbw2
        clear hss2 hl2 hs2 hn2 hm2 ho2 hg hO hgk hbw2
        by_cases hlt2 : j < N
        · have HTH : Hid (wr.there g (j * 32) (fpA (mark q j)).size) := by
            show World.there _ _ _ _
            rw [fpA_size (mark_fp q j)]
            exact HO.out.there (by rw [H2.out.2.2.2.1]; exact hlt2)
          have HI2 : Hid ((Try.prog.info? 37).map (·.size) = some (fpA (mark q j)).size) := by rw [fpA_size (mark_fp q j)]; exact info37
          have HOC : Hid ((fpA (mark q j)).all (·.oneCell') = true) := all_oneCell_toArray fpL_one
          obtain ⟨W3, hW3⟩ : ∃ W3, wr.setCells g (j * 32) (fpA (mark q j)).toList = W3 := ⟨_, rfl⟩
          have HS3 := Lib.hid (H2.out.1.setTo (f := mark q j) H2.out.2.2.1 HG.out (by rw [H2.out.2.2.2.1]; exact hlt2) (mark_fp q j) hW3 HB2.out HO.out.block.1)
          have HW3 := Lib.hid hW3
          clear hW3
          have HR3 : Hid (∃ s3, (ss2.set q (s2.set j (mark q j)))[q]? = some s3 ∧ (ss2.set q (s2.set j (mark q j))).length = L ∧ s3.length = N ∧ (∀ p, p < j + 1 → s3[p]? = some (mark q p)) ∧ (∀ p, p ≠ q → (ss2.set q (s2.set j (mark q j)))[p]? = ss1[p]?)) := by
            obtain ⟨_, r2, r3, r4, r5, r6⟩ := H2.out
            have hqL : q < ss2.length := by omega
            refine ⟨s2.set j (mark q j), List.getElem?_set_self hqL, by rw [List.length_set]; exact r2, by rw [List.length_set]; exact r4, ?_, ?_⟩
            · intro p hp
              by_cases hpj : j = p
              · subst hpj
                exact List.getElem?_set_self (by omega)
              · rw [List.getElem?_set_ne hpj]
                exact r5 p (by omega)
            · intro p hp
              rw [List.getElem?_set_ne (fun e => hp e.symm)]
              exact r6 p hp
          go_wp2_with (first
            | ((with_reducible refine wpList_store_to (op := ⟨none, _, _, _, _, _⟩) rfl 37 (.tmp 46) (.tmp 45) rfl g (j * 32) (fpA (mark q j)) ?_ ?_ HTH.out HI2.out HOC.out HW3.out ?_); rfl; rfl))
          go_roundg (N - (j + 1))
          case measure => rw [HK2.out]; omega
          case rel =>
            obtain ⟨s3, r1, r2, r3, r4, r5⟩ := HR3.out
            exact ⟨j + 1, _, gs2, s3, by omega, rfl, by go_num, HS3.out.1, r2, r1, r3, r4, r5, HS3.out.2⟩
        · obtain rfl : j = N := by omega
          have HNW : Hid (∀ (W : World) (j : Nat) (u : Value), (fpL seven)[j]? = some u → (W.alloc (.cells (fpL seven).toArray 37)).cell? ((⟨W.heap.size, 0, none⟩ : Addr).add j) = some u) := by
            intro W j u hu
            rw [Addr.add_mid, Nat.zero_add, World.cell?_alloc_new]
            simpa using hu
          have HFL7 : Hid ((fpL seven).length = 1 * 32) := fpL_length seven_fp
          have HOW : Hid (wr.ownsRow w2.heap.size 37 32 (.slice (some ⟨g, 0, none⟩) j cap) j (fpsL s2)) := by
            have := HO.out.1
            rw [H2.out.2.2.2.1] at this
            exact this
          have H63 : Hid (j + 1 ≤ maxLen) := by show _ ≤ _; simp only [maxLen]; omega
          have HBY : Hid ((j + 1) * 32 ≤ 140737488355328) := by show _ ≤ _; omega
          have HBSZ : w2.heap.size ≤ wr.heap.size := Nat.le_trans hB5 HB2.out.size
          have HBS : Hid (w2.heap.size ≤ (wr.alloc (.cells (fpL seven).toArray 37)).heap.size) := by show _ ≤ _; simp; omega
          go_wp2_with (first
            | ((with_reducible refine wpList_build_one (op := ⟨some 54, _, _, _, _, _⟩) rfl 22 (.tmp 53) ?_ 37 32 _ (fpL seven) ?_ Try.underlying22 Try.sizeOf37 Try.zeroValue37 ?_ ?_ HFL7.out ?_); rfl; rfl; decide; decide)
            | (at_builtin; refine wpList_append_own_at _ rfl (.tmp 52) (.tmp 54) _ rfl w2.heap.size 37 i37 _ 32 32 Try.underlying22 I37.out Z37.out S37.out Y37.out rfl (by decide) _ j (fpsL s2) rfl (HOW.out.alloc _) _ _ _ (fpL seven) rfl HFL7.out (HNW.out _) fpL_one H63.out HBY.out HBS.out ?_))
          intro v3 w3 hown3 hg3 hnil3 hat3
          clear hnil3
          obtain ⟨g3, c3, rfl, hbg3, hlg3⟩ := ownsRow_succ hown3 (by omega)
          have hat4 : g3 = g ∨ g3 = wr.heap.size + 1 := by simpa [Value.ownBlock] using hat3
          obtain ⟨p1, p2, p3, p4⟩ := grow_to H2.out.1 H2.out.2.1 H2.out.2.2.1 H2.out.2.2.2.1 HG.out HB2.out HBSZ hown3 hg3 hat4
          have P1 := Lib.hid p1
          have P2 := Lib.hid p2
          have hqL : q < ss2.length := by rw [H2.out.2.1]; exact hlt
          have PM := Lib.hid (markd_step HMK.out hqL H2.out.2.2.2.1 hsl6 H2.out.2.2.2.2.1 H2.out.2.2.2.2.2)
          have PL : Hid ((ss2.set q (s2 ++ [seven])).length = L) := by
            show _ = _
            rw [List.length_set]; exact H2.out.2.1
          clear p1 p2 hown3 hg3 hat3 hat4 hqL
          go_wp2
          go_roundg (L - (q + 1))
          case measure => rw [HK.out]; omega
          case rel => exact ⟨q + 1, _, _, by omega, rfl, by go_num, P1.out, PL.out, PM.out, P2.out⟩
    · obtain rfl : q = L := by omega
      go_wp2_with fail
      go_loopg [9, 10] q (fun gk i _ wr3 => ∃ a : Nat, a ≤ q ∧ gk = q - a ∧ i = .int .i64 a ∧ SegsO wr3 w2.heap.size (.slice A2 q cc) ss1 gs1 ∧ Below w2.heap.size w5 wr3)
      case atStart => exact ⟨0, Nat.zero_le _, rfl, rfl, HS1.out, HBW.out⟩
      case round =>
        obtain ⟨a, ha, hgk3, rfl, hs3, hb3⟩ := hrel
        have HS3 := Lib.hid hs3
        have HK3 := Lib.hid hgk3
        have HB3 := Lib.hid hb3
        clear hs3 hgk3 hb3
        by_cases hlt3 : a < q
        · obtain ⟨s, hs⟩ : ∃ s, ss1[a]? = some s := ⟨ss1[a]'(by rw [HL1.out]; exact hlt3), by simp⟩
          have hsm := (HMK.out a s hs).1 hlt3
          obtain ⟨N, hN⟩ : ∃ N, s.length = N := ⟨_, rfl⟩
          rw [hN] at hsm
          have hsl6 := hsm.1
          have HSM := Lib.hid (And.intro hs (And.intro hN hsm.2))
          clear hs hN hsm
          obtain ⟨gA, capA, gv, cv, hgA, hOA, hvA, hgvb, hgvl, hcA, hfA⟩ := HS3.out.get HSM.out.1
          injection hvA with e1 e2 e3
          subst e1
          clear e2 e3 hgA hOA hcA hfA
          go_wp2_with fail
          go_loopg [10] N (fun gk i wr4 => ∃ b : Nat, b ≤ N ∧ gk = N - b ∧ i = .int .i64 b ∧ SegsO wr4 w2.heap.size (.slice (some ⟨gv, 0, none⟩) q cc) ss1 gs1 ∧ Below w2.heap.size w5 wr4)
          case atStart => exact ⟨0, Nat.zero_le _, rfl, rfl, HS3.out, HB3.out⟩
          case round =>
            obtain ⟨b, hb, hgk4, rfl, hs4, hb4⟩ := hrel
            obtain ⟨g, cap, gv', cv', hg, hO, hv, hgb, hgl, hcell, hfro⟩ := hs4.get HSM.out.1
            injection hv with e1 e2 e3
            injection e1 with e1
            injection e1 with e1
            subst e1
            clear e2 e3 hfro hg
            rw [HSM.out.2.1] at hcell
            have HS4 := Lib.hid hs4
            have HK4 := Lib.hid hgk4
            have HB4 := Lib.hid hb4
            have HO := Lib.hid hO
            clear hs4 hgk4 hb4 hO
            have hwk : IntKind.i64.wrap ((b : Int) + 1) = (b : Int) + 1 := IntWalk.i64_in _ (by omega)
            by_cases hlt4 : b + 1 < N
            · have HR : Hid (wr.rangeAt g (b * 32) (fpL (mark a b))) := HO.out.range (HSM.out.2.2 b hlt4)
              have HI : Hid ((Try.prog.info? 37).map (·.size) = some (fpL (mark a b)).length) := by rw [fpL_length (mark_fp a b)]; exact info37
              have hq : ∀ W, (Op.equalIn 10000 37 (.agg (fpL (mark a b)).toArray) (.agg #[.int .u8 9, .int .u8 ((a : Int) % 256), .int .u8 ((b : Int) % 256), .int .u8 0, .int .u8 0, .int .u8 0, .int .u8 0, .int .u8 0, .int .u8 0, .int .u8 0, .int .u8 0, .int .u8 0, .int .u8 0, .int .u8 0, .int .u8 0, .int .u8 0, .int .u8 0, .int .u8 0, .int .u8 0, .int .u8 0, .int .u8 0, .int .u8 0, .int .u8 0, .int .u8 0, .int .u8 0, .int .u8 0, .int .u8 0, .int .u8 0, .int .u8 0, .int .u8 0, .int .u8 0, .int .u8 0])).run Try.prog W = .ok true W := fun W => mark_eq a b W
              have t1 : decide ((b : Int) + 1 < (N : Int)) = true := by simp; omega
              go_wp2_with (first
                | ((with_reducible refine wpList_load_mid (op := ⟨some 79, _, _, _, _, _⟩) rfl 37 (.tmp 78) rfl g (b * 32) ?_ (fpL (mark a b)) _ HR.out Try.underlying37 rfl HI.out ?_); rfl))
              go_roundg (N - (b + 1))
              case measure => rw [HK4.out]; omega
              case rel => exact ⟨b + 1, by omega, rfl, by go_num, HS4.out, HB4.out⟩
            · have t1 : decide ((b : Int) + 1 < (N : Int)) = false := by simp; omega
              go_wp2_with fail
              go_roundg (q - (a + 1))
              case measure => rw [HK3.out]; omega
              case rel => exact ⟨a + 1, by omega, rfl, by go_num, HS4.out, HB4.out⟩
        · obtain rfl : a = q := by omega
          have HDW := Lib.hid (HD5.out.below HB3.out)
          have hbsz : w2.heap.size ≤ wr.heap.size := Nat.le_trans hB5 HB3.out.size
          have c18 := hookSame (some ⟨g1, 0, none⟩) (some ⟨g2, 0, none⟩) m c1 c2 ts wr (HDW.out.one.more hbsz) (HDW.out.two.more hbsz) (by omega)
          have C18 : Hid (Calls Try.prog 18 #[.slice (some ⟨g1, 0, none⟩) m c1, .slice (some ⟨g2, 0, none⟩) m c2] wr fun e w' => e = .returned (.bool true) ∧ OwnAt x w w2.heap.size ts m g1 g2 w' ∧ w2.heap.size ≤ w'.heap.size) := c18.mono fun e w' ⟨he, hb⟩ => ⟨he, HDW.out.below (hb.mono hbsz), Nat.le_trans hbsz hb.size⟩
          have C17 : Hid (∀ W, OwnAt x w w2.heap.size ts m g1 g2 W → w2.heap.size ≤ W.heap.size → Calls Try.prog 17 #[.slice (some ⟨g2, 0, none⟩) m c2, .agg x.A] W fun e w' => ∃ A3 c3, e = .returned (.slice A3 a c3) ∧ Boxed x w w') := fun W hD hBs => (refAll x (some ⟨g2, 0, none⟩) m c2 ts W (hD.two.more hBs) (by omega) hmc2).mono fun e W' ⟨v, he, hi, hb⟩ => by
            rw [HSS.out] at hi
            obtain ⟨A3, c3, hv, _⟩ := hi.ints
            have : (lens ss).length = a := by rw [← HLL.out]; simp [lens]
            rw [this] at hv
            exact ⟨A3, c3, by rw [he, hv], hD.box.below hb⟩
          have t1 : ((a : Int) == (a : Int)) = true := by simp
          clear c18
          go_wp2_with (first
            | (go_at_call 18; refine C18.out.mono ?_; rintro e w6 ⟨rfl, hd6, hbs6⟩; have HD6 := Lib.hid hd6; have q6 := cells13 hd6.box.1; clear hd6)
            | (go_at_call 17; refine (C17.out _ HD6.out hbs6).mono ?_; rintro e w7 ⟨A3, c3, rfl, hb7⟩; have HB7 := Lib.hid hb7; clear hb7 q6)
            | (go_at_call 13; refine (awake13 _).mono ?_; rintro e w8 ⟨rfl, hb8⟩))
          go_ret
          exact ⟨rfl, (HB7.out.below hb8).2⟩
end Go.Proofs.Ytkmhjfcjplnjdaa
