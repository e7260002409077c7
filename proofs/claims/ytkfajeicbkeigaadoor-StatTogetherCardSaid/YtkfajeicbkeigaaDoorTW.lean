/- Uses without their addresses; the example's numbers. -/
import Derived.Test.YtkfajeicbkeigaaDoorTV
namespace Go.Proofs.YtkfajeicbkeigaaDoor
open Go.RowKit Go.Maps
def bareU (u : Us) : Us := ⟨u.nm, none, 0, u.cs⟩
/-- the uses without their addresses -/
def bare (us : List Us) : List Us := us.map bareU
theorem bare_nms (us : List Us) : nmsU (bare us) = nmsU us := by unfold nmsU bare; rw [List.map_map]; rfl
theorem bare_prs (us : List Us) : prs (bare us) = prs us := by unfold prs bare; rw [List.flatMap_map]; rfl
theorem bare_chk (us : List Us) : chk (bare us) = chk us := by
  unfold chk chkB bare
  rw [List.all_map]
  rfl
theorem bare_len (us : List Us) : (bare us).length = us.length := List.length_map ..
theorem bare_cnt (us : List Us) : cnt (bare us) = bare (cnt us) := by
  have key : ∀ (l a : List Us), (bare l).foldl cntStep (bare a) = bare (l.foldl cntStep a) := by
    intro l
    induction l with
    | nil => intro a; rfl
    | cons u r ih =>
      intro a
      show (bare r).foldl cntStep (cntStep (bare a) (bareU u)) = bare (r.foldl cntStep (cntStep a u))
      rw [← ih]
      congr 1
      have e : (bare a).map (·.nm) = a.map (·.nm) := bare_nms a
      unfold cntStep
      rw [e]
      show (if u.nm ∈ a.map (·.nm) then bare a else bare a ++ [bareU u]) = _
      split
      · rfl
      · unfold bare; rw [List.map_append]; rfl
  exact key us []
theorem bare_tot (us : List Us) (g : List Nm → Bool) : totF (bare us) g = totF us g := by unfold totF; rw [bare_cnt, bare_chk, bare_prs]
theorem bare_long (us : List Us) : longF (bare us) = longF us := by unfold longF; rw [bare_cnt, bare_chk, bare_prs]
theorem bare_sav (us : List Us) : savN (bare us) = savN us := by unfold savN; rw [bare_long, bare_tot]
theorem bare_key (us : List Us) : keyF (bare us) = keyF us := by funext s; unfold keyF; rw [bare_tot]
theorem bare_order (us : List Us) : orderL (bare us) = orderL us := by unfold orderL; rw [bare_cnt, bare_chk, bare_key, bare_nms]
/-- uses that are the same but for their addresses -/
def Like (us vs : List Us) : Prop := bare us = bare vs
theorem Like.len {us vs : List Us} (h : Like us vs) : us.length = vs.length := by rw [← bare_len us, ← bare_len vs, h]
theorem Like.nms {us vs : List Us} (h : Like us vs) : nmsU us = nmsU vs := by rw [← bare_nms us, ← bare_nms vs, h]
theorem Like.prs {us vs : List Us} (h : Like us vs) : prs us = prs vs := by rw [← bare_prs us, ← bare_prs vs, h]
theorem Like.chk {us vs : List Us} (h : Like us vs) : chk us = chk vs := by rw [← bare_chk us, ← bare_chk vs, h]
theorem Like.cnt {us vs : List Us} (h : Like us vs) : Like (cnt us) (cnt vs) := by unfold Like; rw [← bare_cnt us, ← bare_cnt vs, h]
theorem Like.tot {us vs : List Us} (h : Like us vs) (g : List Nm → Bool) : totF us g = totF vs g := by rw [← bare_tot us, ← bare_tot vs, h]
theorem Like.long {us vs : List Us} (h : Like us vs) : longF us = longF vs := by rw [← bare_long us, ← bare_long vs, h]
theorem Like.sav {us vs : List Us} (h : Like us vs) : savN us = savN vs := by rw [← bare_sav us, ← bare_sav vs, h]
theorem Like.order {us vs : List Us} (h : Like us vs) : orderL us = orderL vs := by rw [← bare_order us, ← bare_order vs, h]
theorem like_mem {us vs : List Us} (h : Like us vs) : ∀ u ∈ us, ∃ v ∈ vs, v.nm = u.nm ∧ v.cs = u.cs := by
  intro u hu
  have h1 : bareU u ∈ bare vs := by rw [← h]; exact List.mem_map.2 ⟨u, hu, rfl⟩
  obtain ⟨v, hv, e⟩ := List.mem_map.1 h1
  unfold bareU at e
  injection e with e1 _ _ e2
  exact ⟨v, hv, e1, e2⟩
theorem Like.lim {us vs : List Us} (h : Like us vs) (hl : Lim vs) : Lim us := ⟨by rw [h.len]; exact hl.1, fun u hu => by
  obtain ⟨v, hv, e1, e2⟩ := like_mem h u hu
  rw [← e1, ← e2]
  exact hl.2 v hv⟩
theorem Like.ok {us vs : List Us} (h : Like us vs) (hl : AllOk vs) : AllOk us := fun u hu => by
  obtain ⟨v, hv, _, e2⟩ := like_mem h u hu
  rw [← e2]
  exact hl v hv
/-- the example -/
def us0 (A B : Option Addr) : List Us := [⟨[97], A, 2, [((1, 0), 5), ((2, 0), 7)]⟩, ⟨[98], B, 1, [((2, 0), 7)]⟩]
theorem us0_like (A B : Option Addr) : Like (us0 A B) (us0 none none) := rfl
theorem us0_lim (A B : Option Addr) : Lim (us0 A B) := (us0_like A B).lim ⟨by decide, fun u hu => by
  simp [us0] at hu
  rcases hu with rfl | rfl <;> (unfold NmOk; decide +kernel)⟩
theorem us0_ok (A B : Option Addr) : AllOk (us0 A B) := (us0_like A B).ok (by
  intro u hu c hc
  simp [us0] at hu
  rcases hu with rfl | rfl
  · simp at hc
    rcases hc with rfl | rfl <;> (unfold CkOk PlcOk; decide +kernel)
  · simp at hc
    subst hc
    unfold CkOk PlcOk
    decide +kernel)
theorem us0_order (A B : Option Addr) : orderL (us0 A B) = [[97], [98]] := by rw [(us0_like A B).order]; decide +kernel
theorem us0_whole (A B : Option Addr) : totF (us0 A B) (fun _ => true) = 12 := by rw [(us0_like A B).tot]; decide +kernel
theorem us0_gains (A B : Option Addr) : totF (us0 A B) (fun l => allIn l [[97]]) = 5 := by rw [(us0_like A B).tot]; decide +kernel
theorem us0_both (A B : Option Addr) : totF (us0 A B) (fun l => decide ([97] ∈ l) && decide ([98] ∈ l)) = 7 := by rw [(us0_like A B).tot]; decide +kernel
theorem us0_sav (A B : Option Addr) : savN (us0 A B) = (7, 19) := by rw [(us0_like A B).sav]; decide +kernel
theorem of0 : ofV 6 4 = .tuple #[.agg (shA 3 2), .int .i64 0] := by
  unfold ofV
  rw [if_pos (by decide)]
  have h1 : ((Int.toNat 6 / Nat.gcd (Int.toNat 6) (Int.toNat 4) : Nat) : Int) = 3 := by decide +kernel
  have h2 : ((Int.toNat 4 / Nat.gcd (Int.toNat 6) (Int.toNat 4) : Nat) : Int) = 2 := by decide +kernel
  rw [h1, h2]
theorem pct0 : pctI 1 8 = str [49, 50, 46, 53, 37] := by decide +kernel
theorem less0 : lessI 1 3 1 2 = true := by decide +kernel
end Go.Proofs.YtkfajeicbkeigaaDoor
