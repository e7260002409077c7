/- The walk over counting: the uses that count. -/
import Derived.Test.YtkfajeicbkeigaaDoorTA
import Derived.WalkMore
namespace Go.Proofs.YtkfajeicbkeigaaDoor
open Go.RowKit Go.Maps
def cntStep (a : List Us) (u : Us) : List Us := if u.nm ∈ a.map (·.nm) then a else a ++ [u]
def cnt (l : List Us) : List Us := l.foldl cntStep []
theorem cnt_snoc (l : List Us) (u : Us) : cnt (l ++ [u]) = if u.nm ∈ (cnt l).map (·.nm) then cnt l else cnt l ++ [u] := by
  rw [cnt, List.foldl_append]
  rfl
theorem cnt_take {l : List Us} {k : Nat} {u : Us} (h : l[k]? = some u) : cnt (l.take (k + 1)) = if u.nm ∈ (cnt (l.take k)).map (·.nm) then cnt (l.take k) else cnt (l.take k) ++ [u] := by
  rw [List.take_add_one, h]
  exact cnt_snoc _ _
theorem cnt_sub {l : List Us} : ∀ u ∈ cnt l, u ∈ l := by
  induction l using snoc_ind with
  | h0 => intro u hu; cases hu
  | h1 l x ih =>
    intro u hu
    rw [cnt_snoc] at hu
    split at hu
    · exact List.mem_append.2 (.inl (ih u hu))
    · rcases List.mem_append.1 hu with h | h
      · exact List.mem_append.2 (.inl (ih u h))
      · exact List.mem_append.2 (.inr h)
theorem cnt_len (l : List Us) : (cnt l).length ≤ l.length := by
  induction l using snoc_ind with
  | h0 => exact Nat.le_refl _
  | h1 l x ih =>
    rw [cnt_snoc, List.length_append]
    split
    · omega
    · rw [List.length_append]; simp; omega
theorem info81 : (Tryd.prog.info? 81).map (fun i => (i.zero, i.size, i.bytes)) = some (some (.agg #[.string ⟨#[]⟩, .slice none 0 0]), 2, 40) := by kernel_rfl
/-- the name at a place of the uses -/
def Lim (us : List Us) : Prop := us.length ≤ 10 ∧ ∀ u ∈ us, u.cs.length ≤ 12 ∧ NmOk u.nm
theorem Lim.cnt {us : List Us} (h : Lim us) : Lim (cnt us) := ⟨Nat.le_trans (cnt_len us) h.1, fun u hu => h.2 u (cnt_sub u hu)⟩
theorem info_parts {P : Program} {t : TypeId} {z : Option Value} {s b : Nat} (h : (P.info? t).map (fun i => (i.zero, i.size, i.bytes)) = some (z, s, b)) : ∃ i, P.info? t = some i ∧ i.zero = z ∧ i.size = s ∧ i.bytes = b := by
  obtain ⟨i, hi, he⟩ := Option.map_eq_some_iff.1 h
  injection he with h1 h2
  injection h2 with h2 h3
  exact ⟨i, hi, h1, h2, h3⟩
theorem own_apart {w : World} {base e size n : Nat} {v : Value} {xs : List Value} (h : w.ownsRow base e size v n xs) {b : Nat} (hb : b < base) : v.ownBlock = none ∨ v.ownBlock ≠ some b := by
  right
  intro e
  have := (h.lt b e).1
  omega
theorem map_apart {w : World} {base e size n : Nat} {v : Value} {xs : List Value} (h : w.ownsRow base e size v n xs) {b : Nat} (hb : b < base) : some b ≠ v.ownBlock := by
  intro q
  have := (h.lt b q.symm).1
  omega
theorem new2 (W : World) (a b : Value) (t : TypeId) (g : Nat) (hg : g = W.heap.size) : ∀ j u, [a, b][j]? = some u → (W.alloc (.cells #[a, b] t)).cell? ((⟨g, 0, none⟩ : Addr).add j) = some u := by
  subst hg
  exact new_cells W [a, b] t
set_option maxRecDepth 100000 in
set_option maxHeartbeats 4000000 in
theorem counting43 {A : Option Addr} {c : Nat} {us : List Us} {w : World} (h : Uss w A us) (hl : Lim us) :
    Calls Tryd.prog 43 #[.slice A us.length c] w fun e w' => ∃ B d, e = .returned (.slice B (cnt us).length d) ∧ Uss w' B (cnt us) ∧ Below w.heap.size w w' := by
  have H := Lib.hid h
  have HL := Lib.hid hl
  have hn := hl.1
  have HCN : Hid (∀ k, (cnt (us.take k)).length ≤ 10) := Lib.hid (fun k => Nat.le_trans (cnt_len _) (by rw [List.length_take]; omega))
  have HCS : Hid (∀ k, ∀ u ∈ cnt (us.take k), u ∈ us) := Lib.hid (fun k u hu => List.mem_of_mem_take (cnt_sub u hu))
  have HEND : Hid (cnt (us.take us.length) = cnt us) := Lib.hid (by rw [List.take_length])
  clear h hl
  obtain ⟨i0, hi, hz0, hz1, hz2⟩ := info_parts info81
  have I0 := Lib.hid hi
  have Z0 := Lib.hid hz0
  have S0 := Lib.hid hz1
  have Y0 := Lib.hid hz2
  clear hi hz0 hz1 hz2
  have hmm := @run_makeMap Tryd.prog
  obtain ⟨n, hnn⟩ : ∃ n, us.length = n := ⟨_, rfl⟩
  have HLEN := Lib.hid hnn
  rw [hnn] at hn HEND ⊢
  clear hnn
  go_enter Tryd.func43, Tryd.ntmps43
  go_wp2_with fail
  go_step3
  go_wp2_with fail
  go_step3
  go_wp2_with fail
  have HM0 : Hid ((w.alloc (.map #[] 0)).ownsMap Tryd.prog 9 (plainElem Tryd.prog 3) w.heap.size 0 (setS [])) := Lib.hid (World.ownsMap_made w Tryd.prog 9 (plainElem Tryd.prog 3))
  clear hmm
  go_loopg [4, 10] n (fun gk v i wr => ∃ k : Nat, k ≤ n ∧ gk = n - k ∧ i = .int .i64 k ∧ wr.ownsRow (w.heap.size + 1) 81 2 v (cnt (us.take k)).length ((cnt (us.take k)).flatMap usV) ∧ wr.ownsMap Tryd.prog 9 (plainElem Tryd.prog 3) w.heap.size k (setS ((cnt (us.take k)).map (·.nm))) ∧ Below w.heap.size w wr)
  case atStart => exact ⟨0, Nat.zero_le _, rfl, rfl, World.ownsRow_nil _ _ _ _, HM0.out, (Below.refl _ _).alloc (Nat.le_refl _) _⟩
  case round =>
    obtain ⟨k, hk, hgk, rfl, hown, hmap, hb⟩ := hrel
    obtain ⟨VA, VC, rfl⟩ := own_slice hown
    have HK := Lib.hid hgk
    have HO := Lib.hid hown
    have HM := Lib.hid hmap
    have HB := Lib.hid hb
    have hkI : (k : Int) ≤ 10 := by omega
    clear hgk hown hmap hb
    by_cases hlt : k < n
    · obtain ⟨u, hu⟩ : ∃ u, us[k]? = some u := ⟨us[k]'(by rw [HLEN.out]; exact hlt), by simp⟩
      obtain ⟨b, o, rfl, hbl, hr, hcks⟩ := (H.out.below HB.out).get hu
      have hnm := (HL.out.2 u (List.mem_of_getElem? hu)).2
      have HKEY := Lib.hid (key9 hnm)
      have HST := Lib.hid (cnt_take hu)
      have c0 := hr 0 _ rfl
      have c1 := hr 1 _ rfl
      have HCK := Lib.hid hcks
      have HU := Lib.hid hu
      rw [Nat.add_zero] at c0
      obtain ⟨nm, uA, uc, cs⟩ := u
      simp only at *
      have hbx := heap_alloc_new wr (.cells #[.string (str nm), .slice uA cs.length uc] 81)
      have e0 := cell_of_row (wr.alloc (.cells #[.string (str nm), .slice uA cs.length uc] 81)) wr.heap.size 0 _ 81 (0, 0) hbx
      have e1 := cell_of_row (wr.alloc (.cells #[.string (str nm), .slice uA cs.length uc] 81)) wr.heap.size 1 _ 81 (0, 0) hbx
      have hk0 : (0 : Int) ≤ (k : Int) := by omega
      have hk1 : (k : Int) < (n : Int) := by omega
      have HM1 := Lib.hid (HM.out.alloc (.cells #[.string (str nm), .slice uA cs.length uc] 81))
      have HAT := Lib.hid (atKey_setS ((cnt (us.take k)).map (·.nm)) nm)
      have HBX := Lib.hid hbx
      clear hr hu hcks hbx
      have HNE : Hid (wr.heap.size ≠ w.heap.size) := Lib.hid (by have := HM.out.lt; omega)
      have HB1 : Hid (Below w.heap.size w (wr.alloc (.cells #[.string (str nm), .slice uA cs.length uc] 81))) := Lib.hid (HB.out.alloc HB.out.size _)
      have HO1 : Hid ((wr.alloc (.cells #[.string (str nm), .slice uA cs.length uc] 81)).ownsRow (w.heap.size + 1) 81 2 (.slice VA (cnt (us.take k)).length VC) (cnt (us.take k)).length ((cnt (us.take k)).flatMap usV)) := Lib.hid (HO.out.alloc _)
      have HLE := Lib.hid (HCN.out k)
      by_cases hin : nm ∈ (cnt (us.take k)).map (·.nm)
      · have HA0 : Hid ((setS ((cnt (us.take k)).map (·.nm))).atKey (nmKey nm) (.lit (.int .i64 0)) = .lit (.int .i64 1)) := Lib.hid (by rw [HAT.out, if_pos hin])
        have HT : Hid (cnt (us.take (k + 1)) = cnt (us.take k)) := Lib.hid (by rw [HST.out, if_pos hin])
        clear hin
        go_wp2_with (first
          | (at_lookup; refine wpList_lookup_own_int _ rfl _ _ 92 rfl 9 3 .i64 law9 Tryd.underlying92 Tryd.underlying3 (Tryd.zeroValue3 _) w.heap.size _ _ rfl HM1.out _ _ rfl HKEY.out ?_; intro c hat hwc; obtain rfl : c = 1 := by (have := hat.symm.trans HA0.out; simpa using this)))
        go_roundg (n - (k + 1))
        case measure => rw [HK.out]; omega
        case rel => exact ⟨k + 1, by omega, rfl, by go_num, by rw [HT.out]; exact HO1.out, by rw [HT.out]; exact HM1.out.mono (by omega), HB1.out⟩
      · have HA0 : Hid ((setS ((cnt (us.take k)).map (·.nm))).atKey (nmKey nm) (.lit (.int .i64 0)) = .lit (.int .i64 0)) := Lib.hid (by rw [HAT.out, if_neg hin])
        have HT : Hid (cnt (us.take (k + 1)) = cnt (us.take k) ++ [⟨nm, uA, uc, cs⟩]) := Lib.hid (by rw [HST.out, if_neg hin])
        have h1w : (Lit.int .i64 1).wf = true := rfl
        obtain ⟨m, hm⟩ : ∃ m, (cnt (us.take k)).length = m := ⟨_, rfl⟩
        have HMM := Lib.hid hm
        rw [hm] at HO1 HLE ⊢
        clear hin hm
        go_wp2_with (first
          | (at_lookup; refine wpList_lookup_own_int _ rfl _ _ 92 rfl 9 3 .i64 law9 Tryd.underlying92 Tryd.underlying3 (Tryd.zeroValue3 _) w.heap.size _ _ rfl HM1.out _ _ rfl HKEY.out ?_; intro c hat hwc; obtain rfl : c = 0 := by (have := hat.symm.trans HA0.out; simpa using this))
          | (at_mapUpdate; refine wpList_mapUpdate_own _ rfl _ _ _ 92 rfl 9 3 law9 Tryd.underlying92 _ w.heap.size k _ rfl HM1.out (by simp only [maxLen]; omega) _ _ _ rfl rfl HKEY.out one [] (plainElem_int Tryd.underlying3 h1w) ?_; intro w1 hown1 hgrow1; have f0 := hgrow1.cell e0 (fun e => HNE.out (Option.some.inj e)); have f1 := hgrow1.cell e1 (fun e => HNE.out (Option.some.inj e)); have HN1 := Lib.hid hown1; have HG1 := Lib.hid hgrow1; clear hown1 hgrow1)
          | (at_builtin; refine wpList_append_own _ rfl (.tmp 22) (.tmp 24) _ rfl (w.heap.size + 1) 81 i0 _ 2 40 Tryd.underlying42 I0.out Z0.out S0.out Y0.out rfl (by decide) _ m _ rfl ((HO1.out.kept HG1.out (own_apart HO1.out (Nat.lt_succ_self _))).alloc _) _ 1 1 [.string (str nm), .slice uA cs.length uc] rfl rfl (new2 _ _ _ _ _ rfl) (by simp [Value.oneCell']) (by have := HLE.out; unfold maxLen; omega) (by have := HLE.out; omega) (by have := HG1.out.size; have := HM.out.lt; simp at *; omega) ?_))
        intro v8 w8 hown8 hg8 _
        obtain ⟨V8, C8, rfl⟩ := own_slice hown8
        have HO8 := Lib.hid hown8
        have HW1 : Hid (Below w.heap.size w w1) := Lib.hid (HB1.out.grown HG1.out (by have := HB1.out.size; exact this) (fun j e => by injection e with e; omega))
        have HB8 : Hid (Below w.heap.size w w8) := Lib.hid ((HW1.out.alloc HW1.out.size _).grown hg8 (by have := HW1.out.size; simp at this ⊢; omega) (fun j e => by have := (HO1.out.lt j e).1; omega))
        have HM8 : Hid (w8.ownsMap Tryd.prog 9 (plainElem Tryd.prog 3) w.heap.size (k + 1) (setS ((cnt (us.take k) ++ [(⟨nm, uA, uc, cs⟩ : Us)]).map (·.nm)))) := Lib.hid (by
          rw [List.map_append, List.map_singleton, setS_snoc]
          exact (HN1.out.alloc _).kept hg8 (map_apart HO1.out (Nat.lt_succ_self _)))
        clear hown8 hg8
        go_wp2_with fail
        go_roundg (n - (k + 1))
        case measure => rw [HK.out]; omega
        case rel => exact ⟨k + 1, by omega, rfl, by go_num, by rw [HT.out, List.flatMap_append, List.length_append, HMM.out]; exact HO8.out, by rw [HT.out]; exact HM8.out, HB8.out⟩
    · obtain rfl : k = n := by omega
      go_wp2_with fail
      rw [Exit.noGoto_ret]
      go_ret
      rw [← HEND.out]
      exact ⟨_, _, rfl, ⟨row_own HO.out, fun u hu => (H.out.2 u (HCS.out _ u hu)).below HB.out⟩, HB.out⟩
end Go.Proofs.YtkfajeicbkeigaaDoor
