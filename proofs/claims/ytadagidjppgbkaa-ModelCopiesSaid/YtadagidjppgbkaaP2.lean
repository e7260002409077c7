/- The model's Do beside the reference's: the same answers, and they stay alike. -/
import Derived.Test.YtadagidjppgbkaaR15
namespace Go.Proofs.Ytadagidjppgbkaa
open Go.RowKit Go.Maps Go.Sort
/-- a model and the reference's say the same -/
structure Sim (s : Md) (r : Rm) : Prop where
  op : s.op = r.op
  nm : s.nm = r.nm
  by_ : s.by_ = r.by_
  look : Look s r.L
  srt : Srt r.L
  len : r.L.length ≤ 256
  bsz : r.by_.size ≤ 1048576
  nsz : r.nm.size ≤ maxLen
  opn : r.op = true → lookL r.L r.nm = none ∧ r.L.length < 256
  shut : r.op = false → r.nm = ByteArray.empty ∧ r.by_ = ByteArray.empty
def rm0 : Rm := ⟨[], false, ByteArray.empty, ByteArray.empty⟩
theorem sim0 : Sim st0 rm0 := ⟨rfl, rfl, rfl, fun nm => ⟨rfl, fun v hv => by cases hv⟩, List.Pairwise.nil, by simp [rm0], by simp [rm0], by simp [rm0, maxLen], (fun h => by cases h), fun _ => ⟨rfl, rfl⟩⟩
theorem has_iff {s : Md} {r : Rm} (h : Sim s r) (nm : ByteArray) : has s nm = true ↔ 0 ≤ atN r.L nm 0 := by
  rw [(h.look nm).1]
  cases hl : lookL r.L nm with
  | none => simp [atN_none 0 hl]
  | some v => obtain ⟨i, _, hi⟩ := atN_some0 hl; simp [hi]
theorem beginE_eq {g b : Nat} {s : Md} {w : World} {r : Rm} (hm : MdAt g b s w) (h : Sim s r) (nm : ByteArray) : beginE s nm = rbE r nm := by
  unfold beginE rbE
  rw [h.op, hm.size_eq h.look h.srt]
  simp only [has_iff h nm]
theorem rbE_zero {r : Rm} {nm : ByteArray} (h : rbE r nm = 0) : r.op = false ∧ 1 ≤ nm.size ∧ nm.size ≤ 48 ∧ lookL r.L nm = none ∧ r.L.length < 256 := by
  unfold rbE at h
  by_cases h1 : r.op = true
  · simp [h1] at h
  rw [if_neg h1] at h
  by_cases h2 : nm.size < 1 ∨ 48 < nm.size
  · rw [if_pos h2] at h; cases h
  rw [if_neg h2] at h
  by_cases h3 : 0 ≤ atN r.L nm 0
  · simp [h3] at h
  rw [if_neg h3] at h
  by_cases h4 : 256 ≤ r.L.length
  · simp [h4] at h
  refine ⟨by simpa using h1, by omega, by omega, ?_, by omega⟩
  cases hl : lookL r.L nm with
  | none => rfl
  | some v => obtain ⟨i, _, hi⟩ := atN_some0 hl; rw [hi] at h3; omega
def DoAll (g b n : Nat) (r : Rm) (a : Ans) (w : World) (e : Ending) (w' : World) : Prop :=
  ∃ s v, e = .returned (replyV a.E a.D v) ∧ w'.ownsRow w.heap.size 9 1 v a.ks.length (a.ks.map encStr) ∧ MdAt g b s w' ∧ Turn g b w w' ∧ Sim s r ∧ s.n ≤ n + 1
theorem Sim.shutS {s : Md} {r : Rm} (h : Sim s r) : Sim s.shut r.shut :=
  ⟨rfl, rfl, rfl, h.look.same rfl, h.srt, h.len, by simp [Rm.shut], by simp [Rm.shut, maxLen], (fun e => by cases e), fun _ => ⟨rfl, rfl⟩⟩
theorem rwE_eq {s : Md} {r : Rm} (h : Sim s r) (da : ByteArray) : writeE s da = rwE r da := by
  unfold writeE rwE
  rw [h.op, h.by_]
theorem rwE_zero {r : Rm} {da : ByteArray} (h : rwE r da = 0) : r.op = true ∧ r.by_.size + da.size ≤ 1048576 := by
  unfold rwE at h
  cases h1 : r.op
  · simp [h1] at h
  · by_cases h2 : 1048576 < r.by_.size + da.size
    · simp [h1, h2] at h
    · exact ⟨rfl, by omega⟩
set_option maxHeartbeats 1000000 in
theorem do_all {g b : Nat} {s : Md} {w : World} {r : Rm} (h : MdAt g b s w) (hs : Sim s r) (hn : s.n < maxLen) (op : Int) (nm da : ByteArray) (hnm : nm.size ≤ maxLen) (hda : da.size ≤ maxLen) :
    Calls Try.prog 14 #[.pointer (some ⟨g, 0, none⟩), callV op nm da] w (DoAll g b s.n (r.step op nm da) (r.ans op nm da) w) := by
  have hby : s.by_.size ≤ 1048576 := by rw [hs.by_]; exact hs.bsz
  have hby' : s.by_.size ≤ maxLen := by unfold maxLen; omega
  have hsn : s.nm.size ≤ maxLen := by rw [hs.nm]; exact hs.nsz
  have hmap : IsMap s.D := by obtain ⟨es, hD, _⟩ := h.2.keysOf; exact ⟨es, hD⟩
  have hmax : Maps.size s.D ≤ 1000000 := by rw [h.size_eq hs.look hs.srt]; have := hs.len; omega
  by_cases e1 : op = 1
  · subst e1
    refine (do_begin h nm da hnm).mono ?_
    rintro e w' ⟨he, hm, ht⟩
    rw [beginE_eq h hs] at he
    have hst : r.step 1 nm da = (if rbE r nm = 0 then ⟨r.L, true, nm, ByteArray.empty⟩ else r) := rfl
    refine ⟨_, _, he, World.ownsRow_nil _ _ _ _, hm, ht, ?_, ?_⟩
    · rw [hst, Md.begun, beginE_eq h hs]
      by_cases hE : rbE r nm = 0
      · obtain ⟨_, _, k2, k3, k4⟩ := rbE_zero hE
        rw [if_pos hE, if_pos hE]
        exact ⟨rfl, rfl, rfl, hs.look.same rfl, hs.srt, hs.len, by simp, by unfold maxLen; show nm.size ≤ _; omega, fun _ => ⟨k3, k4⟩, fun e => by cases e⟩
      · rw [if_neg hE, if_neg hE]; exact hs
    · unfold Md.begun; split <;> exact Nat.le_succ _
  by_cases e2 : op = 2
  · subst e2
    refine (do_write h nm da hda hby).mono ?_
    rintro e w' ⟨he, hm, ht⟩
    rw [rwE_eq hs] at he
    have hst : r.step 2 nm da = (if rwE r da = 0 then ⟨r.L, r.op, r.nm, r.by_ ++ da⟩ else r) := rfl
    refine ⟨_, _, he, World.ownsRow_nil _ _ _ _, hm, ht, ?_, ?_⟩
    · rw [hst, Md.wrote, rwE_eq hs]
      by_cases hE : rwE r da = 0
      · obtain ⟨k1, k2⟩ := rwE_zero hE
        rw [if_pos hE, if_pos hE]
        exact ⟨hs.op, hs.nm, by show s.by_ ++ da = r.by_ ++ da; rw [hs.by_], hs.look.same rfl, hs.srt, hs.len, by show (r.by_ ++ da).size ≤ _; rw [ByteArray.size_append]; exact k2, hs.nsz, hs.opn, fun e => by rw [show r.op = false from e] at k1; cases k1⟩
      · rw [if_neg hE, if_neg hE]; exact hs
    · unfold Md.wrote; split <;> exact Nat.le_succ _
  by_cases e3 : op = 3
  · subst e3
    refine (do_commit h nm da hsn hby' hn).mono ?_
    rintro e w' ⟨he, hm, ht⟩
    cases hop : r.op
    · have hsop : s.op = false := by rw [hs.op, hop]
      have hst : r.step 3 nm da = r := by simp [Rm.step, hop]
      have han : r.ans 3 nm da = .err 6 := by simp [Rm.ans, hop]
      rw [hst, han]
      rw [Md.ended, if_pos hsop] at hm
      rw [endE, if_pos hsop] at he
      exact ⟨_, _, he, World.ownsRow_nil _ _ _ _, hm, ht, hs, Nat.le_succ _⟩
    · have hsop : s.op = true := by rw [hs.op, hop]
      have hst : r.step 3 nm da = ⟨insN r.L r.nm r.by_, false, ByteArray.empty, ByteArray.empty⟩ := by simp [Rm.step, hop]
      have han : r.ans 3 nm da = .err 0 := by simp [Rm.ans, hop]
      rw [hst, han]
      rw [Md.ended, if_neg (by rw [hsop]; simp), if_pos rfl] at hm
      rw [endE, if_neg (by rw [hsop]; simp)] at he
      obtain ⟨k1, k2⟩ := hs.opn hop
      refine ⟨_, _, he, World.ownsRow_nil _ _ _ _, hm, ht, ⟨rfl, rfl, rfl, ?_, srt_insN hs.srt k1, by rw [insN_length]; omega, by simp, by simp [maxLen], (fun e => by cases e), fun _ => ⟨rfl, rfl⟩⟩, Nat.le_refl _⟩
      have := Look.kept hs.look hmap (by rw [hs.nm]; exact k1)
      rw [hs.nm, hs.by_] at this
      exact this
  by_cases e4 : op = 4
  · subst e4
    refine (do_abort h nm da hsn hby' hn).mono ?_
    rintro e w' ⟨he, hm, ht⟩
    cases hop : r.op
    · have hsop : s.op = false := by rw [hs.op, hop]
      have hst : r.step 4 nm da = r := by simp [Rm.step, hop]
      have han : r.ans 4 nm da = .err 6 := by simp [Rm.ans, hop]
      rw [hst, han]
      rw [Md.ended, if_pos hsop] at hm
      rw [endE, if_pos hsop] at he
      exact ⟨_, _, he, World.ownsRow_nil _ _ _ _, hm, ht, hs, Nat.le_succ _⟩
    · have hsop : s.op = true := by rw [hs.op, hop]
      have hst : r.step 4 nm da = r.shut := by simp [Rm.step, hop]
      have han : r.ans 4 nm da = .err 0 := by simp [Rm.ans, hop]
      rw [hst, han]
      rw [Md.ended, if_neg (by rw [hsop]; simp), if_neg (by simp)] at hm
      rw [endE, if_neg (by rw [hsop]; simp)] at he
      exact ⟨_, _, he, World.ownsRow_nil _ _ _ _, hm, ht, hs.shutS, Nat.le_succ _⟩
  by_cases e5 : op = 5
  · subst e5
    have hst : r.step 5 nm da = r := by simp [Rm.step]
    rw [hst]
    refine (do_restore h nm da hnm).mono ?_
    rintro e w' ⟨he, hm, ht⟩
    have hlk := hs.look nm
    cases hl : lookL r.L nm with
    | none =>
      have han : r.ans 5 nm da = .err 6 := by simp [Rm.ans, hl]
      rw [han]
      rw [hl] at hlk
      rw [if_neg (by rw [hlk.1]; simp)] at he
      exact ⟨_, _, he, World.ownsRow_nil _ _ _ _, hm, ht, hs, Nat.le_succ _⟩
    | some v =>
      have han : r.ans 5 nm da = ⟨0, v, []⟩ := by simp [Rm.ans, hl]
      rw [han]
      rw [hl] at hlk
      rw [if_pos (by rw [hlk.1]; rfl), hlk.2 v rfl] at he
      exact ⟨_, _, he, World.ownsRow_nil _ _ _ _, hm, ht, hs, Nat.le_succ _⟩
  by_cases e6 : op = 6
  · subst e6
    refine (do_delete h nm da hnm).mono ?_
    rintro e w' ⟨he, hm, ht⟩
    cases hop : r.op
    · have hsop : s.op = false := by rw [hs.op, hop]
      have hlk := hs.look nm
      cases hl : lookL r.L nm with
      | none =>
        have hst : r.step 6 nm da = r := by simp [Rm.step, hop, hl]
        have han : r.ans 6 nm da = .err 6 := by simp [Rm.ans, hop, hl]
        rw [hst, han]
        rw [hl] at hlk
        have hE : removeE s nm = 6 := by simp [removeE, hsop, hlk.1]
        rw [Md.removed, hE, if_neg (by decide)] at hm
        rw [hE] at he
        exact ⟨_, _, he, World.ownsRow_nil _ _ _ _, hm, ht, hs, Nat.le_succ _⟩
      | some v =>
        obtain ⟨i, hi1, hi2⟩ := atN_some0 hl
        have hst : r.step 6 nm da = ⟨r.L.eraseIdx i, false, ByteArray.empty, ByteArray.empty⟩ := by simp [Rm.step, hop, hl, hi2]
        have han : r.ans 6 nm da = .err 0 := by simp [Rm.ans, hop, hl]
        rw [hst, han]
        rw [hl] at hlk
        have hE : removeE s nm = 0 := by simp [removeE, hsop, hlk.1]
        rw [Md.removed, hE, if_pos rfl] at hm
        rw [hE] at he
        refine ⟨_, _, he, World.ownsRow_nil _ _ _ _, hm, ht, ⟨hsop, by rw [hs.nm]; exact (hs.shut hop).1, by rw [hs.by_]; exact (hs.shut hop).2, hs.look.del hs.srt hi1 rfl, srt_erase hs.srt i, ?_, by simp, by simp [maxLen], (fun e => by cases e), fun _ => ⟨rfl, rfl⟩⟩, Nat.le_succ _⟩
        show (r.L.eraseIdx i).length ≤ 256
        have := hs.len
        have := List.length_eraseIdx_le r.L i
        omega
    · have hsop : s.op = true := by rw [hs.op, hop]
      have hst : r.step 6 nm da = r := by simp [Rm.step, hop]
      have han : r.ans 6 nm da = .err 250 := by simp [Rm.ans, hop]
      rw [hst, han]
      have hE : removeE s nm = 250 := by simp [removeE, hsop]
      rw [Md.removed, hE, if_neg (by decide)] at hm
      rw [hE] at he
      exact ⟨_, _, he, World.ownsRow_nil _ _ _ _, hm, ht, hs, Nat.le_succ _⟩
  by_cases e7 : op = 7
  · subst e7
    have hst : r.step 7 nm da = r := by simp [Rm.step]
    have han : r.ans 7 nm da = ⟨0, ByteArray.empty, namesL r.L⟩ := by simp [Rm.ans]
    rw [hst, han]
    refine (do_list h nm da hmax).mono ?_
    rintro e w' ⟨v, he, hr, hm, ht⟩
    rw [h.keys_eq hs.look hs.srt] at hr
    exact ⟨_, v, he, hr, hm, ht, hs, Nat.le_succ _⟩
  by_cases e8 : op = 8
  · subst e8
    have hst : r.step 8 nm da = r := by simp [Rm.step]
    have han : r.ans 8 nm da = .err (if r.op = true then 250 else 0) := by simp [Rm.ans]
    rw [hst, han]
    refine (do_pass h nm da).mono ?_
    rintro e w' ⟨he, hm, ht⟩
    rw [hs.op] at he
    exact ⟨_, _, he, World.ownsRow_nil _ _ _ _, hm, ht, hs, Nat.le_succ _⟩
  · have hst : r.step op nm da = r := by simp only [Rm.step, e1, e2, e3, e4, e6, if_false]
    have han : r.ans op nm da = .err 1 := by simp only [Rm.ans, e1, e2, e3, e4, e5, e6, e7, e8, if_false, or_self]
    rw [hst, han]
    refine (do_other h op nm da ⟨e1, e2, e3, e4, e5, e6, e7, e8⟩).mono ?_
    rintro e w' ⟨he, hm, ht⟩
    exact ⟨_, _, he, World.ownsRow_nil _ _ _ _, hm, ht, hs, Nat.le_succ _⟩
end Go.Proofs.Ytadagidjppgbkaa
