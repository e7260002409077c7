/- The reference's set of fingerprints: each is put in its place. -/
import Derived.Test.YtnpgfhoagpeelaaAA
import Derived.Laws.AppendOwnNone
import Derived.Deep.CutRange
namespace Go.Proofs.Ytnpgfhoagpeelaa
open Go.RowKit
theorem foldl_set : ∀ (l : List Value) (k : Nat) (cs : Array Value), k + l.length ≤ cs.size → ∀ i : Nat,
    ((l.zipIdx k).foldl (fun (cs : Array Value) (x : Value × Nat) => cs.setIfInBounds (0 + x.2) x.1) cs)[i]? = if k ≤ i ∧ i < k + l.length then l[i - k]? else cs[i]?
  | [], k, cs, _, i => by simp; intro h1 h2; omega
  | v :: r, k, cs, h, i => by
    rw [List.zipIdx_cons, List.foldl_cons, foldl_set r (k + 1) _ (by simp at h ⊢; omega) i]
    simp only [List.length_cons, Nat.zero_add] at h ⊢
    by_cases h1 : k + 1 ≤ i ∧ i < k + 1 + r.length
    · rw [if_pos h1, if_pos (by omega), show i - k = (i - (k + 1)) + 1 by omega, List.getElem?_cons_succ]
    · rw [if_neg h1, Array.getElem?_setIfInBounds]
      by_cases h2 : k = i
      · subst h2
        rw [if_pos rfl, if_pos (by omega), if_pos (by omega)]
        simp
      · rw [if_neg h2, if_neg (by omega)]
theorem foldl_fill (l : List Value) (cs : Array Value) (h : l.length = cs.size) : (l.zipIdx.foldl (fun (cs : Array Value) (x : Value × Nat) => cs.setIfInBounds (0 + x.2) x.1) cs) = l.toArray := by
  apply Array.ext_getElem?
  intro i
  rw [foldl_set l 0 cs (by omega) i]
  by_cases hi : i < l.length
  · rw [if_pos (by omega)]; simp
  · rw [if_neg (by omega)]
    rw [Array.getElem?_eq_none (by omega)]
    simp; omega
section
variable {P : Program}
theorem run_buildSlice_one (w : World) (t e : TypeId) (n : Nat) (z : Value) (l : List Value) (ht : P.underlying t = some (.slice e)) (hs : ∀ w, (sizeOf e).run P w = .ok n w) (hz : ∀ w, (zeroValue e).run P w = .ok z w) (hn : 0 < n) (hn2 : n ≤ 4096) (hl : l.length = n) :
    (Instr.buildSlice t 1 #[(0, .agg l.toArray)]).run P w = .ok (.slice (some ⟨w.heap.size, 0, none⟩) 1 1) (w.alloc (.cells l.toArray e)) := by
  have h1 : ¬ (1 * n > 2 ^ 24) := by omega
  have h2 : ¬ (1 * n = 0) := by omega
  have hf : Instr.fill (fun i => some (i * n, n)) ((Array.range (1 * n)).map (z.cells[· % z.cells.size]!)) [(0, .agg l.toArray)] = some l.toArray := by
    generalize hcs : (Array.range (1 * n)).map (z.cells[· % z.cells.size]!) = cs
    have hsz : cs.size = n := by rw [← hcs]; simp
    have h3 := foldl_fill l cs (by omega)
    simp only [Instr.fill, Value.cells, List.size_toArray, hl, Nat.zero_mul]
    rw [if_neg (by simp [hsz])]
    simp only [Nat.zero_add] at h3
    simp [h3]
  simp only [Instr.buildSlice, Sem.run_bind, run_underlying ht, Result.andThen_ok, hs, if_neg h1, if_neg h2, Sem.run_pure, hz, hf]
  simp [newRow]
theorem wpList_build_one {ops : Array Oper} {rest : List Oper} {op : Oper} {a : Act} {w : World} {Q : Exit → Act → World → Prop} (hgd : op.guard = none) (t : TypeId) (x : Operand) (ho : op.op = .buildSlice t 1 #[(0, x)])
    (e : TypeId) (n : Nat) (z : Value) (l : List Value) (hx : a.eval x = .agg l.toArray) (ht : P.underlying t = some (.slice e)) (hs : ∀ w, (sizeOf e).run P w = .ok n w) (hz : ∀ w, (zeroValue e).run P w = .ok z w) (hn : 0 < n) (hn2 : n ≤ 4096) (hl : l.length = n)
    (h : wpList P ops Q rest (a.put op.dst (.slice (some ⟨w.heap.size, 0, none⟩) 1 1)) (w.alloc (.cells l.toArray e))) : wpList P ops Q (op :: rest) a w :=
  wpList_plain hgd fun _ hK => by
    have hr := run_buildSlice_one w t e n z l ht hs hz hn hn2 hl
    unfold Oper.wp execOp
    simp only [ho, List.map_toArray, List.map_cons, List.map_nil, hx, Sem.run_bind, hr, Sem.run_pure, Result.andThen_ok]
    exact hK _ _ h
end
theorem wpList_append_any {P : Program} {w : World} {ops : Array Oper} {rest : List Oper} {o : Oper} {a : Act} {Q : Exit → Act → World → Prop} (hgd : o.guard = none) (s x : Operand) (t : TypeId)
    (ho : o.op = .call { callee := .builtin .append, args := #[s, x], argTypes := #[t, t] })
    (base : Nat) (e : TypeId) (i : TypeInfo) (z : Value) (size bytes : Nat) (ht : P.underlying t = some (.slice e)) (hi : P.info? e = some i) (hz : i.zero = some z)
    (hsize : i.size = size) (hby : i.bytes = bytes) (hzs : z.cells.size = size) (hsz : 0 < size)
    (v : Value) (n : Nat) (xs : List Value) (hs : a.eval s = v) (hown : w.ownsRow base e size v n xs)
    (A : Option Addr) (m c : Nat) (news : List Value) (hx : a.eval x = .slice A m c) (hl : news.length = m * size) (hA : A = none → m = 0 ∧ c = 0) (hnews : ∀ ad, A = some ad → ∀ j u, news[j]? = some u → w.cell? (ad.add j) = some u) (h1 : ∀ u ∈ news, u.oneCell' = true)
    (h63 : n + m ≤ maxLen) (hbytes : (n + m) * bytes ≤ 140737488355328) (hbase : base ≤ w.heap.size)
    (h : ∀ v' w', w'.ownsRow base e size v' (n + m) (xs ++ news) → w.grownBy w' v.ownBlock → wpList P ops Q rest (a.put o.dst v') w') : wpList P ops Q (o :: rest) a w := by
  cases A with
  | none =>
    obtain ⟨rfl, rfl⟩ := hA rfl
    have hn : news = [] := List.eq_nil_of_length_eq_zero (by simpa using hl)
    subst hn
    exact wpList_append_own_none hgd s x t ho base e i size ht hi v n xs hs hown hx (h v w (by simpa using hown) ⟨rfl, rfl, rfl, Nat.le_refl _, fun _ _ _ => rfl⟩)
  | some ad => exact wpList_append_own w hgd s x t ho base e i z size bytes ht hi hz hsize hby hzs hsz v n xs hs hown ad m c news hx hl (hnews ad rfl) h1 h63 hbytes hbase (fun v' w' r1 r2 _ => h v' w' r1 r2)
theorem takeW_at {p : Fp → Bool} : ∀ {l : List Fp} {k : Nat}, (∀ y ∈ l.take k, p y = true) → (∀ y, l[k]? = some y → p y = false) → l.takeWhile p = l.take k ∧ l.dropWhile p = l.drop k
  | [], k, _, _ => by simp
  | a :: l, 0, _, h2 => by
    have := h2 a rfl
    simp [this]
  | a :: l, k + 1, h1, h2 => by
    have ha := h1 a (by simp)
    have ih := takeW_at (l := l) (k := k) (fun y hy => h1 y (by simp [hy])) (fun y hy => h2 y (by simpa using hy))
    simp [ha, ih.1, ih.2]
theorem insF_at {l : List Fp} {x : Fp} {k : Nat} (hx : x ∉ l) (h1 : ∀ y ∈ l.take k, lessF y x = true) (h2 : ∀ y, l[k]? = some y → lessF y x = false) : insF l x = l.take k ++ x :: l.drop k := by
  unfold insF
  obtain ⟨e1, e2⟩ := takeW_at h1 h2
  rw [if_neg hx, e1, e2]
theorem take_lt_step {l : List Fp} {k : Nat} {x y : Fp} (h : ∀ z ∈ l.take k, lessF z x = true) (hy : l[k]? = some y) (hl : lessF y x = true) : ∀ z ∈ l.take (k + 1), lessF z x = true := by
  intro z hz
  rw [List.take_add_one, hy] at hz
  rcases List.mem_append.1 hz with hz | hz
  · exact h z hz
  · simp only [Option.toList_some, List.mem_singleton] at hz
    rw [hz]; exact hl
theorem setF_take {s : List Fp} {k : Nat} {x : Fp} (h : s[k]? = some x) : setF (s.take (k + 1)) = insF (setF (s.take k)) x := by
  rw [List.take_add_one, h]
  exact setF_snoc _ x
theorem insF_old {l : List Fp} {x : Fp} (h : x ∈ l) : insF l x = l := if_pos h
theorem fps_part {w : World} {b o : Nat} {l : List Fp} (h : Fps w (some ⟨b, o, none⟩) l) {p m : Nat} (ha : AllFp l) : ∀ j u, (fsL ((l.drop p).take m))[j]? = some u → w.cell? ((⟨b, o + p * 32, none⟩ : Addr).add j) = some u := by
  intro j u hj
  have e : (⟨b, o + p * 32, none⟩ : Addr).add j = ⟨b, o + p * 32 + j, none⟩ := by unfold Addr.add; split <;> simp_all
  rw [e]
  rw [← fsL_take (fun f hf => ha f (List.mem_of_mem_drop hf)), List.getElem?_take] at hj
  split at hj
  · rw [← fsL_drop ha, List.getElem?_drop] at hj
    obtain ⟨b', o', e, _, hc⟩ := h (fun e => by unfold fsL at hj; rw [show List.flatMap fpL l = [] from e] at hj; cases hj)
    injection e with e
    injection e with e1 e2
    subst e1 e2
    rw [Nat.add_assoc]
    exact hc _ u hj
  · cases hj
theorem newF (W : World) (x : Fp) (g : Nat) (hg : g = W.heap.size) : ∀ j u, (fpL x)[j]? = some u → (W.alloc (.cells (fpL x).toArray 47)).cell? ((⟨g, 0, none⟩ : Addr).add j) = some u := fun j u hj => by
  have e : (⟨g, 0, none⟩ : Addr).add j = ⟨g, 0 + j, none⟩ := by unfold Addr.add; split <;> simp_all
  rw [e]
  exact range_new W x 47 g hg j u hj
theorem ins_cells {L : List Fp} {x : Fp} {m : Nat} (h : insF L x = L.take m ++ x :: L.drop m) : fsL (insF L x) = fsL (L.take m) ++ fpL x ++ fsL (L.drop m) := by
  rw [h, fsL_app]
  simp [fsL, List.flatMap_cons]
theorem ins_len {L : List Fp} {x : Fp} {m : Nat} (h : insF L x = L.take m ++ x :: L.drop m) (hm : m ≤ L.length) : (insF L x).length = m + 1 + (L.length - m) := by
  rw [h, List.length_append, List.length_cons, List.length_take, List.length_drop]
  omega
theorem fs_one (l : List Fp) : ∀ u ∈ fsL l, u.oneCell' = true := fun u hu => by
  obtain ⟨f, _, hv⟩ := List.mem_flatMap.1 hu
  exact fpL_one u hv
set_option maxRecDepth 100000 in
set_option maxHeartbeats 1000000 in
theorem rset24 {w : World} {A : Option Addr} {c : Nat} {s : List Fp} (h : Fps w A s) (ha : AllFp s) (hn : s.length ≤ 1000) :
    Calls Try.prog 13 #[.slice A s.length c] w fun e w' => ∃ B d, e = .returned (.slice B (setF s).length d) ∧ Fps w' B (setF s) ∧ (setF s).length ≤ d ∧ AOk B (setF s).length ∧ Below w.heap.size w w' := by
  have H := Lib.hid h
  have HA := Lib.hid ha
  have HLE : Hid (∀ k, (setF (s.take k)).length ≤ 1000) := Lib.hid (fun k => by
    have h1 := setF_len (s.take k)
    have h2 : (s.take k).length ≤ s.length := by rw [List.length_take]; omega
    omega)
  have HAF : Hid (∀ k, AllFp (setF (s.take k))) := Lib.hid (fun k => setF_fp (fun f hf => ha f (List.mem_of_mem_take hf)))
  obtain ⟨i0, hi, hz0, hz1, hz2⟩ := info_parts info29'
  have I0 := Lib.hid hi
  have Z0 := Lib.hid hz0
  have S0 := Lib.hid hz1
  have Y0 := Lib.hid hz2
  clear h ha hi hz0 hz1 hz2
  go_enter Try.func13, Try.ntmps13
  go_wp2_with fail
  go_loopg [3, 4] s.length (fun gk v i wr => ∃ k : Nat, k ≤ s.length ∧ gk = s.length - k ∧ i = .int .i64 k ∧ wr.ownsRow w.heap.size 47 32 v (setF (s.take k)).length (fsL (setF (s.take k))) ∧ Below w.heap.size w wr)
  case atStart => exact ⟨0, Nat.zero_le _, rfl, rfl, World.ownsRow_nil _ _ _ _, Below.refl _ _⟩
  case round =>
    obtain ⟨k, hk, hgk, rfl, hown, hb⟩ := hrel
    obtain ⟨VA, VC, rfl⟩ := own_slice hown
    have HK := Lib.hid hgk
    have HO := Lib.hid hown
    have HB := Lib.hid hb
    clear hgk hown hb
    by_cases hlt : k < s.length
    · obtain ⟨x, hx⟩ : ∃ x, s[k]? = some x := ⟨_, List.getElem?_eq_getElem hlt⟩
      have HXF := Lib.hid (HA.out x (List.mem_of_getElem? hx))
      have HST : Hid (setF (s.take (k + 1)) = insF (setF (s.take k)) x) := Lib.hid (setF_take hx)
      have hL := HLE.out k
      have HLF := Lib.hid (HAF.out k)
      generalize setF (s.take k) = L at *
      have HGX : Hid (∀ W, Below w.heap.size w W → ∃ b o, A = some ⟨b, o, none⟩ ∧ b < W.heap.size ∧ W.rangeAt b (o + k * 32) (fpL x)) := Lib.hid (fun W hb => (H.out.below hb).get HA.out hx)
      obtain ⟨b, o, hAe, _, _⟩ := HGX.out w (Below.refl _ _)
      subst hAe
      have HRX : Hid (∀ W, Below w.heap.size w W → W.rangeAt b (o + k * 32) (fpL x)) := Lib.hid (fun W hb => by
        obtain ⟨b', o', e, _, h2⟩ := HGX.out W hb
        injection e with e
        injection e with e1 e2
        subst e1 e2
        exact h2)
      have HIX := Lib.hid (info29f HXF.out)
      have HFV : Hid (Fps wr VA L) := Lib.hid (row_own HO.out)
      have HH := Lib.hid (has37 (c := VC) HFV.out HLF.out HXF.out (by omega))
      have hk0 : (0 : Int) ≤ (k : Int) := by omega
      have hk1 : (k : Int) < (s.length : Int) := by omega
      have HRW := Lib.hid (HRX.out wr HB.out)
      clear hx
      by_cases hin : x ∈ L
      · rw [decide_eq_true hin] at HH
        have HE : Hid (setF (s.take (k + 1)) = L) := Lib.hid (by rw [HST.out, insF_old hin])
        clear hin
        go_wp2_with ((with_reducible refine wpList_load_mid (op := ⟨some 17, _, _, _, _, _⟩) rfl 47 (.tmp 16) rfl b (o + k * 32) ?_ (fpL x) _ HRW.out Try.underlying47 rfl HIX.out ?_); rfl)
        refine Calls.mono HH.out ?_
        rintro e w2 ⟨rfl, hb2⟩
        have HB2 : Hid (Below w.heap.size w w2) := Lib.hid (HB.out.trans (hb2.mono HB.out.size))
        have HO2 := Lib.hid (own_below HO.out hb2)
        clear hb2
        go_wp2_with fail
        go_roundg (s.length - (k + 1))
        case measure => rw [HK.out]; omega
        case rel => exact ⟨k + 1, by omega, rfl, by go_num, by rw [HE.out]; exact HO2.out, HB2.out⟩
      · rw [decide_eq_false hin] at HH
        have HIN := Lib.hid hin
        clear hin
        go_wp2_with ((with_reducible refine wpList_load_mid (op := ⟨some 17, _, _, _, _, _⟩) rfl 47 (.tmp 16) rfl b (o + k * 32) ?_ (fpL x) _ HRW.out Try.underlying47 rfl HIX.out ?_); rfl)
        refine Calls.mono HH.out ?_
        rintro e w2 ⟨rfl, hb2⟩
        have HB2 : Hid (Below w.heap.size w w2) := Lib.hid (HB.out.trans (hb2.mono HB.out.size))
        have HO2 := Lib.hid (own_below HO.out hb2)
        have HFV2 := Lib.hid (HFV.out.below hb2)
        clear hb2 HO HB HFV
        go_wp2_with fail
        go_loopg [5] L.length (fun gj j wq => ∃ m : Nat, m ≤ L.length ∧ gj = L.length - m ∧ j = .int .i64 m ∧ (∀ y ∈ L.take m, lessF y x = true) ∧ Below w2.heap.size w2 wq)
        case atStart => exact ⟨0, Nat.zero_le _, rfl, rfl, (fun y hy => by simp at hy), Below.refl _ _⟩
        case round =>
          obtain ⟨m, hm, hgm, rfl, hall, hbq⟩ := hrel
          have HM := Lib.hid hgm
          have HALL := Lib.hid hall
          have HBQ := Lib.hid hbq
          have HBW : Hid (Below w.heap.size w wr) := Lib.hid (HB2.out.trans (hbq.mono HB2.out.size))
          have HOW := Lib.hid (own_below HO2.out hbq)
          clear hgm hall hbq
          have hm0 : (0 : Int) ≤ (m : Int) := by omega
          by_cases hlt2 : m < L.length
          · obtain ⟨y, hy⟩ : ∃ y, L[m]? = some y := ⟨_, List.getElem?_eq_getElem hlt2⟩
            obtain ⟨vb, vo, hVA, _, _⟩ := HFV2.out.get HLF.out hy
            subst hVA
            have HRY : Hid (∀ W, Below w2.heap.size w2 W → W.rangeAt vb (vo + m * 32) (fpL y)) := Lib.hid (fun W hb => by
              obtain ⟨b', o', e, _, h2⟩ := (HFV2.out.below hb).get HLF.out hy
              injection e with e
              injection e with e1 e2
              subst e1 e2
              exact h2)
            have HYF := Lib.hid (HLF.out y (List.mem_of_getElem? hy))
            have HIY := Lib.hid (info29f HYF.out)
            have HC := Lib.hid (fun (W : World) => less38 (w := W) HYF.out HXF.out)
            have HSS : Hid (∀ W, Below wr.heap.size wr W → W.rangeAt vb (vo + m * 32) (fpL y) ∧ W.rangeAt b (o + k * 32) (fpL x)) := Lib.hid (fun W hb => ⟨HRY.out W (HBQ.out.trans (hb.mono HBQ.out.size)), HRX.out W (HBW.out.trans (hb.mono HBW.out.size))⟩)
            have HYG := Lib.hid hy
            have hm1 : (m : Int) < (L.length : Int) := by omega
            clear hy
            have HR0 : Hid (Below wr.heap.size wr wr.drew) := Lib.hid (below_drew (Below.refl _ _))
            cases hlx : lessF y x
            case true =>
              rw [hlx] at HC
              have HTK := Lib.hid (take_lt_step HALL.out HYG.out hlx)
              clear hlx
              go_wp2_with fail
              refine wp_region_held_drew (S := (fun W => W.rangeAt vb (vo + m * 32) (fpL y) ∧ W.rangeAt b (o + k * 32) (fpL x))) (by kernel_rfl) ?_ (fun hSx => ?_)
              · exact HSS.out _ HR0.out
              refine wpAnyH_take (i := 0) (oi := ⟨some 19, _, _, _, _, none⟩) (v := ?_) rfl (by kernel_rfl) (by kernel_rfl) (by kernel_rfl) (fun _ _ _ h => h) (Or.inl ⟨by kernel_rfl, ?_⟩) hSx ?_
              rotate_left 1
              focus (intro wx hSw; obtain ⟨s0, s1⟩ := hSw; go_simp; first | done | with_reducible rfl)
              try simp only [Act.put, List.setIfInBounds_toArray, List.set_cons_zero, List.set_cons_succ]
              refine wpAnyH_take (i := 1) (oi := ⟨some 20, _, _, _, _, none⟩) (v := ?_) rfl (by kernel_rfl) (by kernel_rfl) (by kernel_rfl) (fun _ _ _ h => h) (Or.inl ⟨by kernel_rfl, ?_⟩) hSx ?_
              rotate_left 1
              focus (intro wx hSw; obtain ⟨s0, s1⟩ := hSw; go_simp; first | done | with_reducible rfl)
              try simp only [Act.put, List.setIfInBounds_toArray, List.set_cons_zero, List.set_cons_succ]
              refine wpAnyH_take (i := 2) (oi := ⟨some 21, _, _, _, _, none⟩) (v := ?_) rfl (by kernel_rfl) (by kernel_rfl) (by kernel_rfl) (fun _ _ _ h => h) (Or.inl ⟨by kernel_rfl, ?_⟩) hSx ?_
              rotate_left 1
              focus (intro wx hSw; obtain ⟨s0, s1⟩ := hSw; go_simp; first | done | with_reducible rfl)
              try simp only [Act.put, List.setIfInBounds_toArray, List.set_cons_zero, List.set_cons_succ]
              refine wpAnyH_take (i := 3) (oi := ⟨some 22, _, _, _, _, none⟩) (v := ?_) rfl (by kernel_rfl) (by kernel_rfl) (by kernel_rfl) (fun _ _ _ h => h) (Or.inl ⟨by kernel_rfl, ?_⟩) hSx ?_
              rotate_left 1
              focus (intro wx hSw; obtain ⟨s0, s1⟩ := hSw; go_simp; first | done | with_reducible rfl)
              try simp only [Act.put, List.setIfInBounds_toArray, List.set_cons_zero, List.set_cons_succ]
              refine wpAnyH_take (i := 4) (oi := ⟨some 23, _, _, _, _, none⟩) (v := ?_) rfl (by kernel_rfl) (by kernel_rfl) (by kernel_rfl) (fun _ _ _ h => h) (Or.inl ⟨by kernel_rfl, ?_⟩) hSx ?_
              rotate_left 1
              focus (intro wx hSw; obtain ⟨s0, s1⟩ := hSw; go_simp; first | done | with_reducible rfl)
              try simp only [Act.put, List.setIfInBounds_toArray, List.set_cons_zero, List.set_cons_succ]
              refine wpAnyH_take (i := 5) (oi := ⟨some 24, _, _, _, _, some (4, true)⟩) (v := ?_) rfl (by kernel_rfl) (by kernel_rfl) (by kernel_rfl) (fun _ _ _ h => h) (Or.inl ⟨by kernel_rfl, ?_⟩) hSx ?_
              rotate_left 1
              focus (intro wx hSw; obtain ⟨s0, s1⟩ := hSw; go_simp; first | done | with_reducible rfl)
              try simp only [Act.put, List.setIfInBounds_toArray, List.set_cons_zero, List.set_cons_succ]
              refine wpAnyH_take (i := 6) (oi := ⟨some 25, _, _, _, _, some (4, true)⟩) (v := ?_) rfl (by kernel_rfl) (by kernel_rfl) (by kernel_rfl) (fun _ _ _ h => h) (Or.inl ⟨by kernel_rfl, ?_⟩) hSx ?_
              rotate_left 1
              focus (intro wx hSw; obtain ⟨s0, s1⟩ := hSw; go_simp; first | done | with_reducible rfl)
              try simp only [Act.put, List.setIfInBounds_toArray, List.set_cons_zero, List.set_cons_succ]
              refine wpAnyH_take (i := 7) (oi := ⟨some 26, _, _, _, _, some (4, true)⟩) (v := ?_) rfl (by kernel_rfl) (by kernel_rfl) (by kernel_rfl) (fun _ _ _ h => h) (Or.inl ⟨by kernel_rfl, ?_⟩) hSx ?_
              rotate_left 1
              focus (intro wx hSw; obtain ⟨s0, s1⟩ := hSw; go_simp; first | done | with_reducible rfl)
              try simp only [Act.put, List.setIfInBounds_toArray, List.set_cons_zero, List.set_cons_succ]
              refine wpAnyH_take (i := 8) (oi := ⟨some 27, _, _, _, _, some (4, true)⟩) (v := .agg (fpL y).toArray) rfl (by kernel_rfl) (by kernel_rfl) (by kernel_rfl) (fun _ _ _ h => h) (yieldsIf_load_mid (by kernel_rfl) 47 (.tmp 26) rfl (vb) (vo + m * 32) rfl (fpL y) _ (fun _ h => h.1) Try.underlying47 rfl HIY.out) hSx ?_
              try simp only [Act.put, List.setIfInBounds_toArray, List.set_cons_zero, List.set_cons_succ]
              refine wpAnyH_take (i := 9) (oi := ⟨some 28, _, _, _, _, some (4, true)⟩) (v := ?_) rfl (by kernel_rfl) (by kernel_rfl) (by kernel_rfl) (fun _ _ _ h => h) (Or.inl ⟨by kernel_rfl, ?_⟩) hSx ?_
              rotate_left 1
              focus (intro wx hSw; obtain ⟨s0, s1⟩ := hSw; go_simp; first | done | with_reducible rfl)
              try simp only [Act.put, List.setIfInBounds_toArray, List.set_cons_zero, List.set_cons_succ]
              refine wpAnyH_take (i := 10) (oi := ⟨some 29, _, _, _, _, some (4, true)⟩) (v := ?_) rfl (by kernel_rfl) (by kernel_rfl) (by kernel_rfl) (fun _ _ _ h => h) (Or.inl ⟨by kernel_rfl, ?_⟩) hSx ?_
              rotate_left 1
              focus (intro wx hSw; obtain ⟨s0, s1⟩ := hSw; go_simp; first | done | with_reducible rfl)
              try simp only [Act.put, List.setIfInBounds_toArray, List.set_cons_zero, List.set_cons_succ]
              refine wpAnyH_take (i := 11) (oi := ⟨some 30, _, _, _, _, some (4, true)⟩) (v := ?_) rfl (by kernel_rfl) (by kernel_rfl) (by kernel_rfl) (fun _ _ _ h => h) (Or.inl ⟨by kernel_rfl, ?_⟩) hSx ?_
              rotate_left 1
              focus (intro wx hSw; obtain ⟨s0, s1⟩ := hSw; go_simp; first | done | with_reducible rfl)
              try simp only [Act.put, List.setIfInBounds_toArray, List.set_cons_zero, List.set_cons_succ]
              refine wpAnyH_take (i := 12) (oi := ⟨some 31, _, _, _, _, some (4, true)⟩) (v := .agg (fpL x).toArray) rfl (by kernel_rfl) (by kernel_rfl) (by kernel_rfl) (fun _ _ _ h => h) (yieldsIf_load_mid (by kernel_rfl) 47 (.tmp 30) rfl (b) (o + k * 32) rfl (fpL x) _ (fun _ h => h.2) Try.underlying47 rfl HIX.out) hSx ?_
              try simp only [Act.put, List.setIfInBounds_toArray, List.set_cons_zero, List.set_cons_succ]
              refine wpAnyH_ready (rs := [13]) (by kernel_rfl) (by simp) ?_
              refine AllReadyH.cons (o := ⟨some 32, _, _, _, _, some (4, true)⟩) rfl (fun KK hKK => ?_) AllReadyH.nil
              go_simp
              with_reducible refine Calls.mono (HC.out _) ?_
              rintro e z1 ⟨rfl, hz⟩
              have HR1 : Hid (Below wr.heap.size wr z1) := Lib.hid (HR0.out.trans (hz.mono HR0.out.size))
              clear hz
              refine hKK.out _ _ (HSS.out _ HR1.out) (fun hSy => ?_)
              clear hKK hSx
              have hSx := hSy
              clear hSy KK
              try simp only [Act.put, List.setIfInBounds_toArray, List.set_cons_zero, List.set_cons_succ]
              refine wpAnyH_take (i := 14) (oi := ⟨some 33, _, _, _, _, none⟩) (v := ?_) rfl (by kernel_rfl) (by kernel_rfl) (by kernel_rfl) (fun _ _ _ h => h) (Or.inl ⟨by kernel_rfl, ?_⟩) hSx ?_
              rotate_left 1
              focus (intro wx hSw; obtain ⟨s0, s1⟩ := hSw; go_simp; first | done | with_reducible rfl)
              try simp only [Act.put, List.setIfInBounds_toArray, List.set_cons_zero, List.set_cons_succ]
              refine wpAnyH_done (by kernel_rfl) ?_ _
              go_wp2_with fail
              go_roundg (L.length - (m + 1))
              case measure => rw [HM.out]; omega
              case rel => exact ⟨m + 1, by omega, rfl, by go_num, HTK.out, HBQ.out.trans (HR1.out.mono HBQ.out.size)⟩
            case false =>
              rw [hlx] at HC
              have HEQ : Hid (insF L x = L.take m ++ x :: L.drop m) := Lib.hid (insF_at HIN.out HALL.out (fun z hz => by
                rw [HYG.out] at hz
                cases hz
                exact hlx))
              clear hlx
              go_wp2_with fail
              refine wp_region_held_drew (S := (fun W => W.rangeAt vb (vo + m * 32) (fpL y) ∧ W.rangeAt b (o + k * 32) (fpL x))) (by kernel_rfl) ?_ (fun hSx => ?_)
              · exact HSS.out _ HR0.out
              refine wpAnyH_take (i := 0) (oi := ⟨some 19, _, _, _, _, none⟩) (v := ?_) rfl (by kernel_rfl) (by kernel_rfl) (by kernel_rfl) (fun _ _ _ h => h) (Or.inl ⟨by kernel_rfl, ?_⟩) hSx ?_
              rotate_left 1
              focus (intro wx hSw; obtain ⟨s0, s1⟩ := hSw; go_simp; first | done | with_reducible rfl)
              try simp only [Act.put, List.setIfInBounds_toArray, List.set_cons_zero, List.set_cons_succ]
              refine wpAnyH_take (i := 1) (oi := ⟨some 20, _, _, _, _, none⟩) (v := ?_) rfl (by kernel_rfl) (by kernel_rfl) (by kernel_rfl) (fun _ _ _ h => h) (Or.inl ⟨by kernel_rfl, ?_⟩) hSx ?_
              rotate_left 1
              focus (intro wx hSw; obtain ⟨s0, s1⟩ := hSw; go_simp; first | done | with_reducible rfl)
              try simp only [Act.put, List.setIfInBounds_toArray, List.set_cons_zero, List.set_cons_succ]
              refine wpAnyH_take (i := 2) (oi := ⟨some 21, _, _, _, _, none⟩) (v := ?_) rfl (by kernel_rfl) (by kernel_rfl) (by kernel_rfl) (fun _ _ _ h => h) (Or.inl ⟨by kernel_rfl, ?_⟩) hSx ?_
              rotate_left 1
              focus (intro wx hSw; obtain ⟨s0, s1⟩ := hSw; go_simp; first | done | with_reducible rfl)
              try simp only [Act.put, List.setIfInBounds_toArray, List.set_cons_zero, List.set_cons_succ]
              refine wpAnyH_take (i := 3) (oi := ⟨some 22, _, _, _, _, none⟩) (v := ?_) rfl (by kernel_rfl) (by kernel_rfl) (by kernel_rfl) (fun _ _ _ h => h) (Or.inl ⟨by kernel_rfl, ?_⟩) hSx ?_
              rotate_left 1
              focus (intro wx hSw; obtain ⟨s0, s1⟩ := hSw; go_simp; first | done | with_reducible rfl)
              try simp only [Act.put, List.setIfInBounds_toArray, List.set_cons_zero, List.set_cons_succ]
              refine wpAnyH_take (i := 4) (oi := ⟨some 23, _, _, _, _, none⟩) (v := ?_) rfl (by kernel_rfl) (by kernel_rfl) (by kernel_rfl) (fun _ _ _ h => h) (Or.inl ⟨by kernel_rfl, ?_⟩) hSx ?_
              rotate_left 1
              focus (intro wx hSw; obtain ⟨s0, s1⟩ := hSw; go_simp; first | done | with_reducible rfl)
              try simp only [Act.put, List.setIfInBounds_toArray, List.set_cons_zero, List.set_cons_succ]
              refine wpAnyH_take (i := 5) (oi := ⟨some 24, _, _, _, _, some (4, true)⟩) (v := ?_) rfl (by kernel_rfl) (by kernel_rfl) (by kernel_rfl) (fun _ _ _ h => h) (Or.inl ⟨by kernel_rfl, ?_⟩) hSx ?_
              rotate_left 1
              focus (intro wx hSw; obtain ⟨s0, s1⟩ := hSw; go_simp; first | done | with_reducible rfl)
              try simp only [Act.put, List.setIfInBounds_toArray, List.set_cons_zero, List.set_cons_succ]
              refine wpAnyH_take (i := 6) (oi := ⟨some 25, _, _, _, _, some (4, true)⟩) (v := ?_) rfl (by kernel_rfl) (by kernel_rfl) (by kernel_rfl) (fun _ _ _ h => h) (Or.inl ⟨by kernel_rfl, ?_⟩) hSx ?_
              rotate_left 1
              focus (intro wx hSw; obtain ⟨s0, s1⟩ := hSw; go_simp; first | done | with_reducible rfl)
              try simp only [Act.put, List.setIfInBounds_toArray, List.set_cons_zero, List.set_cons_succ]
              refine wpAnyH_take (i := 7) (oi := ⟨some 26, _, _, _, _, some (4, true)⟩) (v := ?_) rfl (by kernel_rfl) (by kernel_rfl) (by kernel_rfl) (fun _ _ _ h => h) (Or.inl ⟨by kernel_rfl, ?_⟩) hSx ?_
              rotate_left 1
              focus (intro wx hSw; obtain ⟨s0, s1⟩ := hSw; go_simp; first | done | with_reducible rfl)
              try simp only [Act.put, List.setIfInBounds_toArray, List.set_cons_zero, List.set_cons_succ]
              refine wpAnyH_take (i := 8) (oi := ⟨some 27, _, _, _, _, some (4, true)⟩) (v := .agg (fpL y).toArray) rfl (by kernel_rfl) (by kernel_rfl) (by kernel_rfl) (fun _ _ _ h => h) (yieldsIf_load_mid (by kernel_rfl) 47 (.tmp 26) rfl (vb) (vo + m * 32) rfl (fpL y) _ (fun _ h => h.1) Try.underlying47 rfl HIY.out) hSx ?_
              try simp only [Act.put, List.setIfInBounds_toArray, List.set_cons_zero, List.set_cons_succ]
              refine wpAnyH_take (i := 9) (oi := ⟨some 28, _, _, _, _, some (4, true)⟩) (v := ?_) rfl (by kernel_rfl) (by kernel_rfl) (by kernel_rfl) (fun _ _ _ h => h) (Or.inl ⟨by kernel_rfl, ?_⟩) hSx ?_
              rotate_left 1
              focus (intro wx hSw; obtain ⟨s0, s1⟩ := hSw; go_simp; first | done | with_reducible rfl)
              try simp only [Act.put, List.setIfInBounds_toArray, List.set_cons_zero, List.set_cons_succ]
              refine wpAnyH_take (i := 10) (oi := ⟨some 29, _, _, _, _, some (4, true)⟩) (v := ?_) rfl (by kernel_rfl) (by kernel_rfl) (by kernel_rfl) (fun _ _ _ h => h) (Or.inl ⟨by kernel_rfl, ?_⟩) hSx ?_
              rotate_left 1
              focus (intro wx hSw; obtain ⟨s0, s1⟩ := hSw; go_simp; first | done | with_reducible rfl)
              try simp only [Act.put, List.setIfInBounds_toArray, List.set_cons_zero, List.set_cons_succ]
              refine wpAnyH_take (i := 11) (oi := ⟨some 30, _, _, _, _, some (4, true)⟩) (v := ?_) rfl (by kernel_rfl) (by kernel_rfl) (by kernel_rfl) (fun _ _ _ h => h) (Or.inl ⟨by kernel_rfl, ?_⟩) hSx ?_
              rotate_left 1
              focus (intro wx hSw; obtain ⟨s0, s1⟩ := hSw; go_simp; first | done | with_reducible rfl)
              try simp only [Act.put, List.setIfInBounds_toArray, List.set_cons_zero, List.set_cons_succ]
              refine wpAnyH_take (i := 12) (oi := ⟨some 31, _, _, _, _, some (4, true)⟩) (v := .agg (fpL x).toArray) rfl (by kernel_rfl) (by kernel_rfl) (by kernel_rfl) (fun _ _ _ h => h) (yieldsIf_load_mid (by kernel_rfl) 47 (.tmp 30) rfl (b) (o + k * 32) rfl (fpL x) _ (fun _ h => h.2) Try.underlying47 rfl HIX.out) hSx ?_
              try simp only [Act.put, List.setIfInBounds_toArray, List.set_cons_zero, List.set_cons_succ]
              refine wpAnyH_ready (rs := [13]) (by kernel_rfl) (by simp) ?_
              refine AllReadyH.cons (o := ⟨some 32, _, _, _, _, some (4, true)⟩) rfl (fun KK hKK => ?_) AllReadyH.nil
              go_simp
              with_reducible refine Calls.mono (HC.out _) ?_
              rintro e z1 ⟨rfl, hz⟩
              have HR1 : Hid (Below wr.heap.size wr z1) := Lib.hid (HR0.out.trans (hz.mono HR0.out.size))
              clear hz
              refine hKK.out _ _ (HSS.out _ HR1.out) (fun hSy => ?_)
              clear hKK hSx
              have hSx := hSy
              clear hSy KK
              try simp only [Act.put, List.setIfInBounds_toArray, List.set_cons_zero, List.set_cons_succ]
              refine wpAnyH_take (i := 14) (oi := ⟨some 33, _, _, _, _, none⟩) (v := ?_) rfl (by kernel_rfl) (by kernel_rfl) (by kernel_rfl) (fun _ _ _ h => h) (Or.inl ⟨by kernel_rfl, ?_⟩) hSx ?_
              rotate_left 1
              focus (intro wx hSw; obtain ⟨s0, s1⟩ := hSw; go_simp; first | done | with_reducible rfl)
              try simp only [Act.put, List.setIfInBounds_toArray, List.set_cons_zero, List.set_cons_succ]
              refine wpAnyH_done (by kernel_rfl) ?_ _
              have HBZ : Hid (Below w.heap.size w z1) := Lib.hid (HBW.out.trans (HR1.out.mono HBW.out.size))
              have HOZ := Lib.hid (own_below HOW.out HR1.out)
              clear hSx HC HRY HSS HFV2 HOW HO2 HBQ HR1
              have hmle : m ≤ L.length := by omega
              obtain ⟨Z, hZ⟩ : ∃ Z, z1 = Z := ⟨_, rfl⟩
              rw [hZ] at HBZ HOZ ⊢
              clear hZ
              have HCAP := Lib.hid (own_cap HOZ.out)
              have HZF : Hid (Fps Z (some ⟨vb, vo, none⟩) L) := Lib.hid (row_own HOZ.out)
              have HTF : Hid (AllFp (L.take (m))) := Lib.hid (fun f hf => HLF.out f (List.mem_of_mem_take hf))
              have HDF : Hid (AllFp (L.drop (m))) := Lib.hid (fun f hf => HLF.out f (List.mem_of_mem_drop hf))
              have HBA : Hid (Below Z.heap.size Z (Z.alloc (.cells #[] 47))) := Lib.hid ((Below.refl _ _).alloc (Nat.le_refl _) _)
              have HL1 : Hid ((fsL (L.take (m))).length = m * 32) := Lib.hid ((by rw [fsL_len HTF.out, List.length_take, Nat.min_eq_left hmle]))
              have HL2 : Hid ((fsL (L.drop (m))).length = (L.length - m) * 32) := Lib.hid ((by rw [fsL_len HDF.out, List.length_drop]))
              have HFX : Hid ((fpL x).length = 32) := Lib.hid (fpL_length HXF.out)
              have HEO : Hid ((Z.alloc (.cells #[] 47)).ownsRow Z.heap.size 47 32 (.slice (some ⟨Z.heap.size, 0, none⟩) 0 0) 0 []) := Lib.hid (empty_own Z 47 32)
              have hcc := HCAP.out
              have hmc : (m : Int) ≤ (VC : Int) := by omega
              have hm00 : (0 : Int) ≤ (m : Int) := by omega
              have hml : (m : Int) ≤ (L.length : Int) := by omega
              have HN1 : Hid (∀ ad, some (⟨vb, vo, none⟩ : Addr) = some ad → ∀ j u, (fsL (L.take (m)))[j]? = some u → (Z.alloc (.cells #[] 47)).cell? (ad.add j) = some u) := Lib.hid (fun ad had j u hj => by
                cases had
                have := fps_part (HZF.out.below HBA.out) (p := 0) (m := m) HLF.out j u (by rw [List.drop_zero]; exact hj)
                rwa [Nat.zero_mul, Nat.add_zero] at this)
              go_wp2_with (first
                | (at_builtin; refine wpList_append_any rfl (.tmp 36) (.tmp 39) _ rfl Z.heap.size 47 i0 _ 32 32 Try.underlying34 I0.out Z0.out S0.out Y0.out (by simp [Value.cells]) (by decide) _ 0 [] rfl HEO.out (some ⟨vb, vo, none⟩) (m) VC (fsL (L.take (m))) rfl HL1.out (fun h => by cases h) HN1.out (fs_one _) (by unfold maxLen; omega) (by omega) HBA.out.size ?_))
              intro v1 w1 hown1 hg1
              obtain ⟨V1, C1, rfl⟩ := own_slice hown1
              have HO1 := Lib.hid hown1
              have HBZ1 : Hid (Below Z.heap.size Z w1) := Lib.hid (HBA.out.grown hg1 HBA.out.size (fun j e => by simp [Value.ownBlock] at e; omega))
              have HOZ1 := Lib.hid (own_below HOZ.out HBZ1.out)
              have HZF1 := Lib.hid (HZF.out.below HBZ1.out)
              clear hown1 hg1 HEO HN1
              have HRX1 := Lib.hid (HRX.out w1 (HBZ.out.trans (HBZ1.out.mono HBZ.out.size)))
              go_wp2_with (first
                | ((with_reducible refine wpList_load_mid (op := ⟨some 45, _, _, _, _, _⟩) rfl 47 (.tmp 44) rfl b (o + k * 32) ?_ (fpL x) _ HRX1.out Try.underlying47 rfl HIX.out ?_); rfl)
                | ((with_reducible refine wpList_build_one (op := ⟨some 46, _, _, _, _, _⟩) rfl 34 (.tmp 45) ?_ 47 32 _ (fpL x) ?_ Try.underlying34 Try.sizeOf47 Try.zeroValue47 ?_ ?_ HFX.out ?_); rfl; rfl; decide; decide)
                | (at_builtin; refine wpList_append_own _ rfl (.tmp 41) (.tmp 46) _ rfl Z.heap.size 47 i0 _ 32 32 Try.underlying34 I0.out Z0.out S0.out Y0.out (by simp [Value.cells]) (by decide) _ (m) _ rfl (HO1.out.alloc _) _ 1 1 (fpL x) rfl (by rw [HFX.out]) (newF _ x _ rfl) fpL_one (by unfold maxLen; omega) (by omega) (by have := HBZ1.out.size; simp; omega) ?_))
              intro v2 w2' hown2 hg2 _
              obtain ⟨V2, C2, rfl⟩ := own_slice hown2
              have HO2' := Lib.hid hown2
              have HBZ2 : Hid (Below Z.heap.size Z w2') := Lib.hid ((HBZ1.out.alloc HBZ1.out.size _).grown hg2 (by have := HBZ1.out.size; simp; omega) (fun j e => (HO1.out.lt j e).1))
              have HZF2 := Lib.hid (HZF.out.below HBZ2.out)
              clear hown2 hg2 HRX1
              have HFIN : Hid (∀ (W : World) (v : Value) (n : Nat) (xs : List Value), W.ownsRow Z.heap.size 47 32 v n xs → n = m + 1 + (L.length - m) → xs = fsL (L.take (m)) ++ fpL x ++ fsL (L.drop (m)) → W.ownsRow w.heap.size 47 32 v (setF (s.take (k + 1))).length (fsL (setF (s.take (k + 1))))) := Lib.hid (fun W v n xs h e1 e2 => by
                rw [HST.out, ins_cells HEQ.out, ins_len HEQ.out hmle, ← e1, ← e2]
                exact own_mono h HBZ.out.size)
              have HDN : Hid (m = m → L.length - m = 0 → fsL (L.drop (m)) = []) := Lib.hid (fun _ hlm => List.length_eq_zero_iff.1 (by rw [HL2.out, hlm]))
              by_cases hmC : m = VC
              · have hlm : L.length - m = 0 := by omega
                have HLM := Lib.hid hlm
                have HDN : Hid (m = m → fsL (L.drop (m)) = []) := Lib.hid (fun h => HDN.out h hlm)
                have hmCi : (m : Int) = (VC : Int) := by omega
                clear hlm
                go_wp2_with (first
                  | (at_builtin; refine wpList_append_own _ rfl (.tmp 48) (.tmp 51) _ rfl Z.heap.size 47 i0 _ 32 32 Try.underlying34 I0.out Z0.out S0.out Y0.out (by simp [Value.cells]) (by decide) _ (m + 1) _ rfl HO2'.out _ 0 _ [] (by first | rfl | (rw [HLM.out]; rfl)) (by simp) (fun j u hj => by simp at hj) (fun u hu => by simp at hu) (by unfold maxLen; omega) (by omega) HBZ2.out.size ?_))
                intro v3 w3 hown3 hg3 _
                obtain ⟨V3, C3, rfl⟩ := own_slice hown3
                have HO3 := Lib.hid (HFIN.out _ _ _ _ hown3 (by first | rfl | omega) (by first | rfl | (rw [List.append_assoc]; done) | (rw [HDN.out (by trivial), hmC, List.append_nil]; done) | (rw [hmC, show fsL (L.drop VC) = [] from by rw [← hmC]; exact HDN.out (by trivial), List.append_nil]; done) | (subst hmC; rw [HDN.out (by trivial), List.append_nil]; done) | (subst hmC; rw [HDN.out (by trivial), List.append_nil, List.take_length]; done) | (rw [List.take_length, List.drop_length]; simp [fsL]; done) | (simp [fsL])))
                have HB3 : Hid (Below w.heap.size w w3) := Lib.hid (HBZ.out.trans ((HBZ2.out.grown hg3 HBZ2.out.size (fun j e => (HO2'.out.lt j (by first | exact e | (rw [hmC]; exact e))).1)).mono HBZ.out.size))
                clear hown3 hg3
                go_wp2_with fail
                go_roundg (s.length - (k + 1))
                case measure => rw [HK.out]; omega
                case rel => exact ⟨k + 1, by omega, rfl, by go_num, HO3.out, HB3.out⟩
              · have hmCi : (m : Int) < (VC : Int) := by omega
                have HN3 : Hid (∀ j u, (fsL (L.drop (m)))[j]? = some u → w2'.cell? ((⟨vb, vo + m * 32, none⟩ : Addr).add j) = some u) := Lib.hid (fun j u hj => by
                  exact fps_part HZF2.out (p := m) (m := L.length - m) HLF.out j u (by rw [List.take_of_length_le (by rw [List.length_drop]; omega)]; exact hj))
                go_wp2_with (first
                  | (at_builtin; refine wpList_append_own _ rfl (.tmp 48) (.tmp 51) _ rfl Z.heap.size 47 i0 _ 32 32 Try.underlying34 I0.out Z0.out S0.out Y0.out (by simp [Value.cells]) (by decide) _ (m + 1) _ rfl HO2'.out ⟨vb, vo + m * 32, none⟩ (L.length - m) (VC - m) (fsL (L.drop (m))) rfl HL2.out HN3.out (fs_one _) (by unfold maxLen; omega) (by omega) HBZ2.out.size ?_))
                intro v3 w3 hown3 hg3 _
                obtain ⟨V3, C3, rfl⟩ := own_slice hown3
                have HO3 := Lib.hid (HFIN.out _ _ _ _ hown3 (by first | rfl | omega) (by first | rfl | (rw [List.append_assoc]; done) | (rw [HDN.out (by trivial), hmC, List.append_nil]; done) | (rw [hmC, show fsL (L.drop VC) = [] from by rw [← hmC]; exact HDN.out (by trivial), List.append_nil]; done) | (subst hmC; rw [HDN.out (by trivial), List.append_nil]; done) | (subst hmC; rw [HDN.out (by trivial), List.append_nil, List.take_length]; done) | (rw [List.take_length, List.drop_length]; simp [fsL]; done) | (simp [fsL])))
                have HB3 : Hid (Below w.heap.size w w3) := Lib.hid (HBZ.out.trans ((HBZ2.out.grown hg3 HBZ2.out.size (fun j e => (HO2'.out.lt j (by first | exact e | (rw [hmC]; exact e))).1)).mono HBZ.out.size))
                clear hown3 hg3
                go_wp2_with fail
                go_roundg (s.length - (k + 1))
                case measure => rw [HK.out]; omega
                case rel => exact ⟨k + 1, by omega, rfl, by go_num, HO3.out, HB3.out⟩
          · obtain rfl : m = L.length := by omega
            have HEQ : Hid (insF L x = L.take L.length ++ x :: L.drop L.length) := Lib.hid (insF_at HIN.out HALL.out (fun z hz => by simp at hz))
            have hmle : L.length ≤ L.length := Nat.le_refl _
            go_wp2_with fail
            go_quiet (fail)
            obtain ⟨Z, hZ⟩ : ∃ Z, wr.drewN nq = Z := ⟨_, rfl⟩
            have HBZ : Hid (Below w.heap.size w (wr.drewN nq)) := Lib.hid (below_drewN HBW.out nq)
            have HOZ := Lib.hid (own_below HOW.out (below_drewN (Below.refl _ _) nq))
            rw [hZ] at HBZ HOZ ⊢
            clear hZ HFV2 HOW HO2 HBQ
            rcases aok_own HOZ.out with ⟨rfl, hl0⟩ | ⟨vb, vo, rfl⟩
            · have hvc : VC = 0 := by
                rcases HOZ.out.2 with ⟨e, _⟩ | ⟨g', cap', cur, e, _⟩
                · injection e
                · injection e with e _ _
                  cases e
              subst hvc
              obtain rfl := List.length_eq_zero_iff.1 hl0
              simp only [List.length_nil] at *
              have HCAP := Lib.hid (own_cap HOZ.out)
              have HZF : Hid (Fps Z none []) := Lib.hid (row_own HOZ.out)
              have HTF : Hid (AllFp (([] : List Fp).take (0))) := Lib.hid (fun f hf => HLF.out f (List.mem_of_mem_take hf))
              have HDF : Hid (AllFp (([] : List Fp).drop (0))) := Lib.hid (fun f hf => HLF.out f (List.mem_of_mem_drop hf))
              have HBA : Hid (Below Z.heap.size Z (Z.alloc (.cells #[] 47))) := Lib.hid ((Below.refl _ _).alloc (Nat.le_refl _) _)
              have HL1 : Hid ((fsL (([] : List Fp).take (0))).length = 0 * 32) := Lib.hid ((by simp [fsL]))
              have HL2 : Hid ((fsL (([] : List Fp).drop (0))).length = (0 - 0) * 32) := Lib.hid ((by simp [fsL]))
              have HFX : Hid ((fpL x).length = 32) := Lib.hid (fpL_length HXF.out)
              have HEO : Hid ((Z.alloc (.cells #[] 47)).ownsRow Z.heap.size 47 32 (.slice (some ⟨Z.heap.size, 0, none⟩) 0 0) 0 []) := Lib.hid (empty_own Z 47 32)
              go_wp2_with (first
                | (at_builtin; refine wpList_append_any rfl (.tmp 36) (.tmp 39) _ rfl Z.heap.size 47 i0 _ 32 32 Try.underlying34 I0.out Z0.out S0.out Y0.out (by simp [Value.cells]) (by decide) _ 0 [] rfl HEO.out none (0) 0 (fsL (([] : List Fp).take (0))) rfl HL1.out (fun _ => ⟨by omega, rfl⟩) (fun ad h => by cases h) (fs_one _) (by unfold maxLen; omega) (by omega) HBA.out.size ?_))
              intro v1 w1 hown1 hg1
              obtain ⟨V1, C1, rfl⟩ := own_slice hown1
              have HO1 := Lib.hid hown1
              have HBZ1 : Hid (Below Z.heap.size Z w1) := Lib.hid (HBA.out.grown hg1 HBA.out.size (fun j e => by simp [Value.ownBlock] at e; omega))
              have HOZ1 := Lib.hid (own_below HOZ.out HBZ1.out)
              have HZF1 := Lib.hid (HZF.out.below HBZ1.out)
              clear hown1 hg1 HEO
              have HRX1 := Lib.hid (HRX.out w1 (HBZ.out.trans (HBZ1.out.mono HBZ.out.size)))
              go_wp2_with (first
                | ((with_reducible refine wpList_load_mid (op := ⟨some 45, _, _, _, _, _⟩) rfl 47 (.tmp 44) rfl b (o + k * 32) ?_ (fpL x) _ HRX1.out Try.underlying47 rfl HIX.out ?_); rfl)
                | ((with_reducible refine wpList_build_one (op := ⟨some 46, _, _, _, _, _⟩) rfl 34 (.tmp 45) ?_ 47 32 _ (fpL x) ?_ Try.underlying34 Try.sizeOf47 Try.zeroValue47 ?_ ?_ HFX.out ?_); rfl; rfl; decide; decide)
                | (at_builtin; refine wpList_append_own _ rfl (.tmp 41) (.tmp 46) _ rfl Z.heap.size 47 i0 _ 32 32 Try.underlying34 I0.out Z0.out S0.out Y0.out (by simp [Value.cells]) (by decide) _ (0) _ rfl (HO1.out.alloc _) _ 1 1 (fpL x) rfl (by rw [HFX.out]) (newF _ x _ rfl) fpL_one (by unfold maxLen; omega) (by omega) (by have := HBZ1.out.size; simp; omega) ?_))
              intro v2 w2' hown2 hg2 _
              obtain ⟨V2, C2, rfl⟩ := own_slice hown2
              have HO2' := Lib.hid hown2
              have HBZ2 : Hid (Below Z.heap.size Z w2') := Lib.hid ((HBZ1.out.alloc HBZ1.out.size _).grown hg2 (by have := HBZ1.out.size; simp; omega) (fun j e => (HO1.out.lt j e).1))
              have HZF2 := Lib.hid (HZF.out.below HBZ2.out)
              clear hown2 hg2 HRX1
              go_wp2_with (first
                | (at_builtin; refine wpList_append_any rfl (.tmp 48) (.tmp 51) _ rfl Z.heap.size 47 i0 _ 32 32 Try.underlying34 I0.out Z0.out S0.out Y0.out (by simp [Value.cells]) (by decide) _ (0 + 1) _ rfl HO2'.out none 0 0 [] rfl (by simp) (fun _ => ⟨rfl, rfl⟩) (fun ad h => by cases h) (fun u hu => by simp at hu) (by unfold maxLen; omega) (by omega) HBZ2.out.size ?_))
              intro v3 w3 hown3 hg3
              obtain ⟨V3, C3, rfl⟩ := own_slice hown3
              have HO3 : Hid (w3.ownsRow w.heap.size 47 32 (.slice V3 1 C3) (setF (s.take (k + 1))).length (fsL (setF (s.take (k + 1))))) := Lib.hid (by
                rw [HST.out, ins_cells HEQ.out, ins_len HEQ.out hmle]
                have := own_mono hown3 HBZ.out.size
                simpa [fsL] using this)
              have HB3 : Hid (Below w.heap.size w w3) := Lib.hid (HBZ.out.trans ((HBZ2.out.grown hg3 HBZ2.out.size (fun j e => (HO2'.out.lt j e).1)).mono HBZ.out.size))
              clear hown3 hg3
              go_wp2_with fail
              go_roundg (s.length - (k + 1))
              case measure => rw [HK.out]; omega
              case rel => exact ⟨k + 1, by omega, rfl, by go_num, HO3.out, HB3.out⟩
            · clear hlt2
              have HCAP := Lib.hid (own_cap HOZ.out)
              have HZF : Hid (Fps Z (some ⟨vb, vo, none⟩) L) := Lib.hid (row_own HOZ.out)
              have HTF : Hid (AllFp (L.take (L.length))) := Lib.hid (fun f hf => HLF.out f (List.mem_of_mem_take hf))
              have HDF : Hid (AllFp (L.drop (L.length))) := Lib.hid (fun f hf => HLF.out f (List.mem_of_mem_drop hf))
              have HBA : Hid (Below Z.heap.size Z (Z.alloc (.cells #[] 47))) := Lib.hid ((Below.refl _ _).alloc (Nat.le_refl _) _)
              have HL1 : Hid ((fsL (L.take (L.length))).length = L.length * 32) := Lib.hid ((by rw [fsL_len HTF.out, List.length_take, Nat.min_eq_left hmle]))
              have HL2 : Hid ((fsL (L.drop (L.length))).length = (L.length - L.length) * 32) := Lib.hid ((by rw [fsL_len HDF.out, List.length_drop]))
              have HFX : Hid ((fpL x).length = 32) := Lib.hid (fpL_length HXF.out)
              have HEO : Hid ((Z.alloc (.cells #[] 47)).ownsRow Z.heap.size 47 32 (.slice (some ⟨Z.heap.size, 0, none⟩) 0 0) 0 []) := Lib.hid (empty_own Z 47 32)
              have hcc := HCAP.out
              have hmc : (L.length : Int) ≤ (VC : Int) := by omega
              have hm00 : (0 : Int) ≤ (L.length : Int) := by omega
              have hml : (L.length : Int) ≤ (L.length : Int) := by omega
              have HN1 : Hid (∀ ad, some (⟨vb, vo, none⟩ : Addr) = some ad → ∀ j u, (fsL (L.take (L.length)))[j]? = some u → (Z.alloc (.cells #[] 47)).cell? (ad.add j) = some u) := Lib.hid (fun ad had j u hj => by
                cases had
                have := fps_part (HZF.out.below HBA.out) (p := 0) (m := L.length) HLF.out j u (by rw [List.drop_zero]; exact hj)
                rwa [Nat.zero_mul, Nat.add_zero] at this)
              go_wp2_with (first
                | (at_builtin; refine wpList_append_any rfl (.tmp 36) (.tmp 39) _ rfl Z.heap.size 47 i0 _ 32 32 Try.underlying34 I0.out Z0.out S0.out Y0.out (by simp [Value.cells]) (by decide) _ 0 [] rfl HEO.out (some ⟨vb, vo, none⟩) (L.length) VC (fsL (L.take (L.length))) rfl HL1.out (fun h => by cases h) HN1.out (fs_one _) (by unfold maxLen; omega) (by omega) HBA.out.size ?_))
              intro v1 w1 hown1 hg1
              obtain ⟨V1, C1, rfl⟩ := own_slice hown1
              have HO1 := Lib.hid hown1
              have HBZ1 : Hid (Below Z.heap.size Z w1) := Lib.hid (HBA.out.grown hg1 HBA.out.size (fun j e => by simp [Value.ownBlock] at e; omega))
              have HOZ1 := Lib.hid (own_below HOZ.out HBZ1.out)
              have HZF1 := Lib.hid (HZF.out.below HBZ1.out)
              clear hown1 hg1 HEO HN1
              have HRX1 := Lib.hid (HRX.out w1 (HBZ.out.trans (HBZ1.out.mono HBZ.out.size)))
              go_wp2_with (first
                | ((with_reducible refine wpList_load_mid (op := ⟨some 45, _, _, _, _, _⟩) rfl 47 (.tmp 44) rfl b (o + k * 32) ?_ (fpL x) _ HRX1.out Try.underlying47 rfl HIX.out ?_); rfl)
                | ((with_reducible refine wpList_build_one (op := ⟨some 46, _, _, _, _, _⟩) rfl 34 (.tmp 45) ?_ 47 32 _ (fpL x) ?_ Try.underlying34 Try.sizeOf47 Try.zeroValue47 ?_ ?_ HFX.out ?_); rfl; rfl; decide; decide)
                | (at_builtin; refine wpList_append_own _ rfl (.tmp 41) (.tmp 46) _ rfl Z.heap.size 47 i0 _ 32 32 Try.underlying34 I0.out Z0.out S0.out Y0.out (by simp [Value.cells]) (by decide) _ (L.length) _ rfl (HO1.out.alloc _) _ 1 1 (fpL x) rfl (by rw [HFX.out]) (newF _ x _ rfl) fpL_one (by unfold maxLen; omega) (by omega) (by have := HBZ1.out.size; simp; omega) ?_))
              intro v2 w2' hown2 hg2 _
              obtain ⟨V2, C2, rfl⟩ := own_slice hown2
              have HO2' := Lib.hid hown2
              have HBZ2 : Hid (Below Z.heap.size Z w2') := Lib.hid ((HBZ1.out.alloc HBZ1.out.size _).grown hg2 (by have := HBZ1.out.size; simp; omega) (fun j e => (HO1.out.lt j e).1))
              have HZF2 := Lib.hid (HZF.out.below HBZ2.out)
              clear hown2 hg2 HRX1
              have HFIN : Hid (∀ (W : World) (v : Value) (n : Nat) (xs : List Value), W.ownsRow Z.heap.size 47 32 v n xs → n = L.length + 1 + (L.length - L.length) → xs = fsL (L.take (L.length)) ++ fpL x ++ fsL (L.drop (L.length)) → W.ownsRow w.heap.size 47 32 v (setF (s.take (k + 1))).length (fsL (setF (s.take (k + 1))))) := Lib.hid (fun W v n xs h e1 e2 => by
                rw [HST.out, ins_cells HEQ.out, ins_len HEQ.out hmle, ← e1, ← e2]
                exact own_mono h HBZ.out.size)
              have HDN : Hid (L.length = L.length → L.length - L.length = 0 → fsL (L.drop (L.length)) = []) := Lib.hid (fun _ hlm => List.length_eq_zero_iff.1 (by rw [HL2.out, hlm]))
              by_cases hmC : L.length = VC
              · have hlm : L.length - L.length = 0 := by omega
                have HLM := Lib.hid hlm
                have HDN : Hid (L.length = L.length → fsL (L.drop (L.length)) = []) := Lib.hid (fun h => HDN.out h hlm)
                have hmCi : (L.length : Int) = (VC : Int) := by omega
                clear hlm
                go_wp2_with (first
                  | (at_builtin; refine wpList_append_own _ rfl (.tmp 48) (.tmp 51) _ rfl Z.heap.size 47 i0 _ 32 32 Try.underlying34 I0.out Z0.out S0.out Y0.out (by simp [Value.cells]) (by decide) _ (L.length + 1) _ rfl HO2'.out _ 0 _ [] (by first | rfl | (rw [HLM.out]; rfl)) (by simp) (fun j u hj => by simp at hj) (fun u hu => by simp at hu) (by unfold maxLen; omega) (by omega) HBZ2.out.size ?_))
                intro v3 w3 hown3 hg3 _
                obtain ⟨V3, C3, rfl⟩ := own_slice hown3
                have HO3 := Lib.hid (HFIN.out _ _ _ _ hown3 (by first | rfl | omega) (by first | rfl | (rw [List.append_assoc]; done) | (rw [HDN.out (by trivial), hmC, List.append_nil]; done) | (rw [hmC, show fsL (L.drop VC) = [] from by rw [← hmC]; exact HDN.out (by trivial), List.append_nil]; done) | (subst hmC; rw [HDN.out (by trivial), List.append_nil]; done) | (subst hmC; rw [HDN.out (by trivial), List.append_nil, List.take_length]; done) | (rw [List.take_length, List.drop_length]; simp [fsL]; done) | (simp [fsL])))
                have HB3 : Hid (Below w.heap.size w w3) := Lib.hid (HBZ.out.trans ((HBZ2.out.grown hg3 HBZ2.out.size (fun j e => (HO2'.out.lt j (by first | exact e | (rw [hmC]; exact e))).1)).mono HBZ.out.size))
                clear hown3 hg3
                go_wp2_with fail
                go_roundg (s.length - (k + 1))
                case measure => rw [HK.out]; omega
                case rel => exact ⟨k + 1, by omega, rfl, by go_num, HO3.out, HB3.out⟩
              · have hmCi : (L.length : Int) < (VC : Int) := by omega
                go_wp2_with (first
                  | (at_builtin; refine wpList_append_own _ rfl (.tmp 48) (.tmp 51) _ rfl Z.heap.size 47 i0 _ 32 32 Try.underlying34 I0.out Z0.out S0.out Y0.out (by simp [Value.cells]) (by decide) _ (L.length + 1) _ rfl HO2'.out _ 0 _ [] rfl (by simp) (fun j u hj => by simp at hj) (fun u hu => by simp at hu) (by unfold maxLen; omega) (by omega) HBZ2.out.size ?_))
                intro v3 w3 hown3 hg3 _
                obtain ⟨V3, C3, rfl⟩ := own_slice hown3
                have HO3 := Lib.hid (HFIN.out _ _ _ _ hown3 (by first | rfl | omega) (by first | rfl | (rw [List.append_assoc]; done) | (rw [HDN.out (by trivial), hmC, List.append_nil]; done) | (rw [hmC, show fsL (L.drop VC) = [] from by rw [← hmC]; exact HDN.out (by trivial), List.append_nil]; done) | (subst hmC; rw [HDN.out (by trivial), List.append_nil]; done) | (subst hmC; rw [HDN.out (by trivial), List.append_nil, List.take_length]; done) | (rw [List.take_length, List.drop_length]; simp [fsL]; done) | (simp [fsL])))
                have HB3 : Hid (Below w.heap.size w w3) := Lib.hid (HBZ.out.trans ((HBZ2.out.grown hg3 HBZ2.out.size (fun j e => (HO2'.out.lt j (by first | exact e | (rw [hmC]; exact e))).1)).mono HBZ.out.size))
                clear hown3 hg3
                go_wp2_with fail
                go_roundg (s.length - (k + 1))
                case measure => rw [HK.out]; omega
                case rel => exact ⟨k + 1, by omega, rfl, by go_num, HO3.out, HB3.out⟩
    · obtain rfl : k = s.length := by omega
      rw [List.take_length] at HO ⊢
      go_wp2_with fail
      go_ret
      exact ⟨VA, VC, rfl, row_own HO.out, own_cap HO.out, aok_own HO.out, HB.out⟩
end Go.Proofs.Ytnpgfhoagpeelaa
