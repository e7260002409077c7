/- The reference's Hooks, last. -/
import Derived.Test.YtnpgfhoagpeelaaBK
namespace Go.Proofs.Ytnpgfhoagpeelaa
open Go.RowKit
open Go.Maps
theorem map_take_f {rs : List Rr} {k : Nat} {r : Rr} (h : rs[k]? = some r) : (rs.take (k + 1)).map (·.f) = (rs.take k).map (·.f) ++ [r.f] := by
  rw [List.take_add_one, h, List.map_append]
  rfl
set_option maxRecDepth 100000 in
set_option maxHeartbeats 4000000 in
theorem hooks24 {T : Nat → Prop} {W : World} {wb ph mo c : Nat} {A : Option Addr} {rs : List Rr} (h : Ref T W wb ph mo A c rs) :
    Calls Try.prog 24 #[.pointer (some ⟨wb, 0, none⟩)] W fun r W' => ∃ B d, r = .returned (.slice B (rs.map (·.f)).length d) ∧ W'.ownsRow W.heap.size 47 32 (.slice B (rs.map (·.f)).length d) (rs.map (·.f)).length (fsL (rs.map (·.f))) ∧ Below W.heap.size W W' := by
  have HH := Lib.hid h
  have hnum := h.num
  obtain ⟨i0, hi, hz0, hz1, hz2⟩ := info_parts info29'
  have I0 := Lib.hid hi
  have Z0 := Lib.hid hz0
  have S0 := Lib.hid hz1
  have Y0 := Lib.hid hz2
  clear h hi hz0 hz1 hz2
  go_enter Try.func24, Try.ntmps24
  go_wp2_with fail
  go_loopg [3, 4] rs.length (fun gk ov i wr => ∃ k : Nat, k ≤ rs.length ∧ gk = rs.length - k ∧ i = .int .i64 k ∧ wr.ownsRow W.heap.size 47 32 ov k (fsL ((rs.take k).map (·.f))) ∧ Below W.heap.size W wr)
  case atStart => exact ⟨0, Nat.zero_le _, rfl, rfl, World.ownsRow_nil _ _ _ _, Below.refl _ _⟩
  case round =>
    obtain ⟨k, hk, hgk, rfl, hrow, hb⟩ := hrel
    obtain ⟨VA, VC, rfl⟩ := own_slice hrow
    have HK := Lib.hid hgk
    have HROW := Lib.hid hrow
    have HB := Lib.hid hb
    have HHW := Lib.hid (HH.out.below hb)
    clear hgk hrow hb
    have c2 := HHW.out.c.2.2
    have hk0 : (0 : Int) ≤ (k : Int) := by omega
    by_cases hlt : k < rs.length
    · obtain ⟨r, hr⟩ : ∃ r, rs[k]? = some r := ⟨_, List.getElem?_eq_getElem hlt⟩
      obtain ⟨ab, ao, rfl, hab, hrg, _, _⟩ := HHW.out.get hr
      have HRG := Lib.hid hrg
      have HRF := Lib.hid (HH.out.ok r (List.mem_of_getElem? hr)).fp
      have HIX := Lib.hid (info29f HRF.out)
      have HFX : Hid ((fpL r.f).length = 32) := Lib.hid (fpL_length HRF.out)
      have HMT := Lib.hid (map_take_f hr)
      have HROW2 := Lib.hid (HROW.out.alloc (.cells (fpL r.f).toArray 47))
      have hk1 : (k : Int) < (rs.length : Int) := by omega
      have HHB := Lib.hid HB.out.size
      clear hr hrg hab
      go_wp2_with (first
        | ((with_reducible refine wpList_load_mid (op := ⟨some 22, _, _, _, _, _⟩) rfl 47 (.tmp 21) rfl ab (ao + k * 33) ?_ (fpL r.f) _ HRG.out Try.underlying47 rfl HIX.out ?_); rfl)
        | ((with_reducible refine wpList_build_one (op := ⟨some 23, _, _, _, _, _⟩) rfl 34 (.tmp 22) ?_ 47 32 _ (fpL r.f) ?_ Try.underlying34 Try.sizeOf47 Try.zeroValue47 ?_ ?_ HFX.out ?_); rfl; rfl; decide; decide)
        | (at_builtin; refine wpList_append_own _ rfl (.tmp 14) (.tmp 23) _ rfl W.heap.size 47 i0 _ 32 32 Try.underlying34 I0.out Z0.out S0.out Y0.out (by simp [Value.cells]) (by decide) _ k _ rfl HROW2.out _ 1 1 (fpL r.f) rfl (by rw [HFX.out]) (newF _ r.f _ rfl) fpL_one (by unfold maxLen; omega) (by omega) (by have := HHB.out; simp; omega) ?_))
      intro v3 w3 hown3 hg3 _
      have HB3 : Hid (Below W.heap.size W w3) := Lib.hid ((HB.out.alloc HB.out.size _).grown hg3 (by have := HHB.out; simp; omega) (fun j q => (HROW2.out.lt j q).1))
      have HOWN3 : Hid (w3.ownsRow W.heap.size 47 32 v3 (k + 1) (fsL ((rs.take (k + 1)).map (·.f)))) := Lib.hid (by
        rw [HMT.out, fsL_app]
        have : fsL [r.f] = fpL r.f := by simp [fsL]
        rw [this, List.map_take]
        exact hown3)
      clear hown3 hg3
      go_wp2_with fail
      go_roundg (rs.length - (k + 1))
      case measure => rw [HK.out]; omega
      case rel => exact ⟨k + 1, by omega, rfl, by go_num, HOWN3.out, HB3.out⟩
    · obtain rfl : k = rs.length := by omega
      go_wp2_with fail
      go_ret
      refine ⟨VA, VC, by rw [List.length_map]; rfl, ?_, HB.out⟩
      have := HROW.out
      rw [List.take_length] at this
      rw [List.length_map]
      exact this
def skipT (rs : List Rr) (i : Int) : Nat → List Rr
  | 0 => []
  | k + 1 => skipT rs i k ++ (match rs[k]? with | some r => if (k : Int) = i then [] else [r] | none => [])
theorem skip_step {rs : List Rr} {i : Int} {k : Nat} {r : Rr} (h : rs[k]? = some r) : skipT rs i (k + 1) = skipT rs i k ++ (if (k : Int) = i then [] else [r]) := by simp only [skipT, h]
theorem skip_len (rs : List Rr) (i : Int) : ∀ k, (skipT rs i k).length ≤ k
  | 0 => Nat.le_refl _
  | k + 1 => by
    have ih := skip_len rs i k
    simp only [skipT, List.length_append]
    have : (match rs[k]? with | some r => if (k : Int) = i then [] else [r] | none => ([] : List Rr)).length ≤ 1 := by
      split
      · split <;> simp
      · simp
    omega
theorem skip_mem (rs : List Rr) (i : Int) : ∀ k, ∀ x ∈ skipT rs i k, x ∈ rs
  | 0, x, h => by cases h
  | k + 1, x, h => by
    simp only [skipT] at h
    rcases List.mem_append.1 h with h | h
    · exact skip_mem rs i k x h
    · split at h
      · rename_i r hr
        split at h
        · cases h
        · rw [List.mem_singleton] at h
          subst h
          exact List.mem_of_getElem? hr
      · cases h
theorem info74 : (Try.prog.info? 74).map (fun i => (i.zero, i.size, i.bytes)) = some (some (.agg (Array.replicate 32 (.int .u8 0) ++ #[.slice none 0 0])), 33, 56) := by kernel_rfl
theorem info74s : (Try.prog.info? 74).map (·.size) = some 33 := by kernel_rfl
theorem rrL_one {r : Rr} : ∀ v ∈ rrL r, v.oneCell' = true := fun v hv => by
  unfold rrL at hv
  rcases List.mem_append.1 hv with hv | hv
  · exact fpL_one v hv
  · rw [List.mem_singleton] at hv; subst hv; rfl
theorem range_new2 (W : World) (L : List Value) (t : TypeId) : (W.alloc (.cells L.toArray t)).rangeAt W.heap.size 0 L := fun j v hv => by
  rw [Nat.zero_add, cell_of_row _ W.heap.size j _ t (0, 0) (heap_alloc_new _ _)]
  simpa using hv
theorem newL2 (W : World) (L : List Value) (t : TypeId) (g : Nat) (hg : g = W.heap.size) : ∀ j u, L[j]? = some u → (W.alloc (.cells L.toArray t)).cell? ((⟨g, 0, none⟩ : Addr).add j) = some u := fun j u hj => by
  subst hg
  rw [Addr.add_lit]
  exact range_new2 W L t j u hj
/-- a block of another type holds none of it -/
theorem ids_not_wb {T : Nat → Prop} {W : World} {wb ph mo c b o : Nat} {A : Option Addr} {rs : List Rr} {l : List Id} (h : Ref T W wb ph mo A c rs) (hl : l ≠ []) (hr : W.rangeAt b o (idL l)) : b ≠ wb := by
  rintro rfl
  obtain ⟨x, L, rfl⟩ := List.exists_cons_of_ne_nil hl
  have h1 := hr 0 (.int .u32 x) rfl
  rw [cell_of_row W b _ _ 32 (0, 0) h.hd] at h1
  match o, h1 with
  | 0, h1 => cases h1
  | 1, h1 => cases h1
  | 2, h1 => cases h1
  | n + 3, h1 => simp at h1
end Go.Proofs.Ytnpgfhoagpeelaa
