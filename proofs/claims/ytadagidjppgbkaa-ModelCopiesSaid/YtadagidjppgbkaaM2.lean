/- The walks over write, end, and Do at Begin, Write, Commit, Restore. -/
import Derived.Test.YtadagidjppgbkaaM1
namespace Go.Proofs.Ytadagidjppgbkaa
open Go.RowKit Go.Maps
def writeE (s : Md) (da : ByteArray) : Int := if s.op = false then 6 else if 1048576 < s.by_.size + da.size then 240 else 0
def Md.wrote (s : Md) (da : ByteArray) : Md := if writeE s da = 0 then ⟨s.D, s.n, s.op, s.nm, s.by_ ++ da⟩ else s
set_option maxHeartbeats 2000000 in
theorem write_at {g b : Nat} {s : Md} {w : World} (h : MdAt g b s w) (da : ByteArray) (hda : da.size ≤ maxLen) (hby : s.by_.size ≤ 1048576) : Calls Try.prog 32 #[.pointer (some ⟨g, 0, none⟩), .string da] w (Post g b (s.wrote da) w (.int .i64 (writeE s da))) := by
  have H := Lib.hid h
  have c1 := h.c1
  have c3 := h.c3
  have f3 := h.fz 3
  have hml : (da.size : Int) ≤ 9223372036854775807 := by unfold maxLen at hda; omega
  clear h hda
  have hcase : (s.op = false ∧ writeE s da = 6) ∨ (s.op = true ∧ 1048576 < s.by_.size + da.size ∧ writeE s da = 240) ∨ (s.op = true ∧ s.by_.size + da.size ≤ 1048576 ∧ writeE s da = 0) := by
    unfold writeE
    cases h1 : s.op
    · exact .inl ⟨rfl, by rw [if_pos rfl]⟩
    · by_cases h2 : 1048576 < s.by_.size + da.size
      · exact .inr (.inl ⟨rfl, h2, by rw [if_neg (by simp), if_pos h2]⟩)
      · exact .inr (.inr ⟨rfl, by omega, by rw [if_neg (by simp), if_neg h2]⟩)
  rcases hcase with ⟨h1, he⟩ | ⟨h1, h2, he⟩ | ⟨h1, h2, he⟩
  · rw [Md.wrote, he, if_neg (by decide)]
    rw [h1] at c1
    clear h1 he
    go_enter Try.func32, Try.ntmps32
    go_wp2
    go_ret
    exact ⟨rfl, H.out, Turn.refl _ _ _⟩
  · rw [Md.wrote, he, if_neg (by decide)]
    rw [h1] at c1
    have hb1 : (s.by_.size : Int) ≤ 1048576 := by omega
    have t1 : (1048576 : Int) - (s.by_.size : Int) < (da.size : Int) := by omega
    clear h1 he h2 hby
    go_enter Try.func32, Try.ntmps32
    go_wp2
    go_ret
    exact ⟨rfl, H.out, Turn.refl _ _ _⟩
  · rw [Md.wrote, he, if_pos rfl]
    have hop := Lib.hid h1
    rw [h1] at c1
    have hb1 : (s.by_.size : Int) ≤ 1048576 := by omega
    have t1 : (da.size : Int) ≤ (1048576 : Int) - (s.by_.size : Int) := by omega
    clear h1 he h2 hby
    go_enter Try.func32, Try.ntmps32
    go_wp2
    go_ret
    exact ⟨rfl, H.out.set 3 (.string (s.by_ ++ da)) _ rfl rfl rfl, Turn.set _ _ _⟩
def Md.kept (s : Md) : Md := ⟨s.D.put (.string s.nm.data.toList) (.lit (.string s.by_.data.toList)), s.n + 1, false, ByteArray.empty, ByteArray.empty⟩
def Md.ended (s : Md) (keep : Bool) : Md := if s.op = false then s else if keep = true then s.kept else s.shut
def endE (s : Md) : Int := if s.op = false then 6 else 0
set_option maxHeartbeats 2000000 in
theorem end_at {g b : Nat} {s : Md} {w : World} (h : MdAt g b s w) (keep : Bool) (hnm : s.nm.size ≤ maxLen) (hby : s.by_.size ≤ maxLen) (hn : s.n < maxLen) : Calls Try.prog 33 #[.pointer (some ⟨g, 0, none⟩), .bool keep] w (Post g b (s.ended keep) w (.int .i64 (endE s))) := by
  have H := Lib.hid h
  have c0 := h.c0
  have c1 := h.c1
  have c2 := h.c2
  have c3 := h.c3
  cases h1 : s.op
  · rw [Md.ended, endE, h1, if_pos rfl, if_pos rfl]
    rw [h1] at c1
    clear h h1 hnm hby hn
    go_enter Try.func33, Try.ntmps33
    go_wp2
    go_ret
    exact ⟨rfl, H.out, Turn.refl _ _ _⟩
  · have e2 : endE s = 0 := by rw [endE, if_neg (by rw [h1]; simp)]
    rw [e2]
    have e1 : s.ended keep = if keep = true then s.kept else s.shut := by rw [Md.ended, if_neg (by rw [h1]; simp)]
    rw [e1]
    clear e1 e2
    rw [h1] at c1
    cases keep
    · have hC := crash_at h
      have HC := Lib.hid hC
      clear h h1 hnm hby hn hC
      rw [if_neg (by simp)]
      go_enter Try.func33, Try.ntmps33
      go_wp2_with (go_at_call 9; refine HC.out.mono ?_; rintro e w1 ⟨rfl, hm1, ht1⟩; have HM1 := Lib.hid hm1; clear hm1)
      go_ret
      exact ⟨rfl, HM1.out, ht1⟩
    · rw [if_pos rfl]
      obtain ⟨w2, hrun, hown2, hgrow⟩ := h.2.drew.update law9 Try.underlying65 hn (key_ok hnm) (plainElem_string Try.underlying9 hby)
      have hm2 : MdAt g b ⟨s.D.put (.string s.nm.data.toList) (.lit (.string s.by_.data.toList)), s.n + 1, true, s.nm, s.by_⟩ w2 := by
        refine ⟨?_, hown2⟩
        have := (hgrow.block g h.lt.1 (fun e => h.ne (by injection e))).trans h.1
        rw [this, mdA, h1]
        rfl
      have HM2 := Lib.hid hm2
      have HC := Lib.hid (crash_at hm2)
      have HG := Lib.hid hgrow
      have HS0 : Hid (w.drew.cell? ⟨g, 0, none⟩ = some (.map (some b)) ∧ w.drew.cell? ⟨g, 2, none⟩ = some (.string s.nm) ∧ w.drew.cell? ⟨g, 3, none⟩ = some (.string s.by_)) := ⟨c0, c2, c3⟩
      have HS1 : Hid (w2.cell? ⟨g, 0, none⟩ = some (.map (some b)) ∧ w2.cell? ⟨g, 2, none⟩ = some (.string s.nm) ∧ w2.cell? ⟨g, 3, none⟩ = some (.string s.by_)) := ⟨hm2.c0, hm2.c2, hm2.c3⟩
      clear h h1 hnm hby hn hown2 hgrow hm2
      go_enter Try.func33, Try.ntmps33
      go_wp2_with fail
      go_region_held3 (fun w' => w'.cell? ⟨g, 0, none⟩ = some (.map (some b)) ∧ w'.cell? ⟨g, 2, none⟩ = some (.string s.nm) ∧ w'.cell? ⟨g, 3, none⟩ = some (.string s.by_)) (first | exact HS0.out | exact HS1.out) (first | fail)
      go_wp2_with (go_at_call 9; refine HC.out.mono ?_; rintro e w3 ⟨rfl, hm3, ht3⟩; have HM3 := Lib.hid hm3; clear hm3)
      go_ret
      exact ⟨rfl, HM3.out, (Turn.of_grown (w := w) ⟨HG.out.os, HG.out.tape, HG.out.output, HG.out.size, HG.out.block⟩ (.inr rfl)).trans ht3⟩
end Go.Proofs.Ytadagidjppgbkaa
