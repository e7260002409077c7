/- The walks over the functions that tell of a place's names. -/
import Derived.Test.YtkfajeicbkeigaaDoorTE
namespace Go.Proofs.YtkfajeicbkeigaaDoor
open Go.RowKit Go.Maps
theorem nodup_sub_len {α : Type} [DecidableEq α] : ∀ {a b : List α}, a.Nodup → (∀ x ∈ a, x ∈ b) → a.length ≤ b.length
  | [], b, _, _ => Nat.zero_le _
  | x :: r, b, hn, hs => by
    have hx := hs x (by simp)
    obtain ⟨h1, h2⟩ := List.nodup_cons.1 hn
    have := nodup_sub_len (a := r) (b := b.erase x) h2 (fun y hy => (List.mem_erase_of_ne (by rintro rfl; exact h1 hy)).2 (hs y (by simp [hy])))
    have hp := List.length_pos_of_mem hx
    rw [List.length_erase_of_mem hx] at this
    simp only [List.length_cons]
    omega
theorem dd_sub {a b : List Nm} (h : ∀ x ∈ a, x ∈ b) : (dd a).length ≤ (dd b).length := nodup_sub_len (nodup_dd a) (fun x hx => mem_dd.2 (h x (mem_dd.1 hx)))
theorem dd_full {a b : List Nm} (h : ∀ x ∈ a, x ∈ b) : (dd a).length = (dd b).length ↔ ∀ x ∈ b, x ∈ a := by
  constructor
  · intro e x hx
    rcases Classical.em (x ∈ a) with h1 | h1
    · exact h1
    · exfalso
      have hn : (x :: dd a).Nodup := List.nodup_cons.2 ⟨fun hm => h1 (mem_dd.1 hm), nodup_dd a⟩
      have := nodup_sub_len hn (b := dd b) (fun y hy => by
        rcases List.mem_cons.1 hy with rfl | hy
        · exact mem_dd.2 hx
        · exact mem_dd.2 (h y (mem_dd.1 hy)))
      simp only [List.length_cons] at this
      omega
  · intro h2
    exact Nat.le_antisymm (dd_sub h) (dd_sub h2)
/-- all of the names l are among ns -/
def allIn (l ns : List Nm) : Bool := l.all fun x => decide (x ∈ ns)
/-- how many of the first k names, each once, are among l -/
def hits (l ns : List Nm) (k : Nat) : Nat := (dd ((ns.take k).filter fun s => decide (s ∈ l))).length
theorem hits_step {l ns : List Nm} {k : Nat} {s : Nm} (h : ns[k]? = some s) : hits l ns (k + 1) = if s ∈ l ∧ s ∉ ns.take k then hits l ns k + 1 else hits l ns k := by
  unfold hits
  rw [List.take_add_one, h, List.filter_append]
  by_cases h1 : s ∈ l
  · have : [s].filter (fun s => decide (s ∈ l)) = [s] := by simp [h1]
    rw [Option.toList_some, this, dd_snoc]
    by_cases h2 : s ∈ ns.take k
    · rw [if_pos (mem_dd.2 (List.mem_filter.2 ⟨h2, by simpa using h1⟩)), if_neg (fun h => h.2 h2)]
    · rw [if_neg (fun hm => h2 (List.mem_filter.1 (mem_dd.1 hm)).1), if_pos ⟨h1, h2⟩, List.length_append]
      rfl
  · have : [s].filter (fun s => decide (s ∈ l)) = [] := by simp [h1]
    rw [Option.toList_some, this, List.append_nil, if_neg (fun h => h1 h.1)]
theorem hits_le (l ns : List Nm) (k : Nat) : hits l ns k ≤ k := by
  unfold hits
  refine Nat.le_trans (nodup_sub_len (nodup_dd _) (b := ns.take k) (fun x hx => (List.mem_filter.1 (mem_dd.1 hx)).1)) ?_
  rw [List.length_take]
  omega
theorem hits_all {l ns : List Nm} : decide (hits l ns ns.length = (dd l).length) = allIn l ns := by
  unfold hits allIn
  rw [List.take_length, Bool.eq_iff_iff, decide_eq_true_eq, dd_full (fun x hx => by simpa using (List.mem_filter.1 hx).2), List.all_eq_true]
  constructor
  · intro h x hx
    simpa using (List.mem_filter.1 (h x hx)).1
  · intro h x hx
    exact List.mem_filter.2 ⟨by simpa using h x hx, by simpa using hx⟩
/-- names as memory holds them -/
def Nms (w : World) (A : Option Addr) (ns : List Nm) : Prop := Row w A (ns.map fun s => .string (str s))
theorem Nms.below {w w' : World} {A : Option Addr} {ns : List Nm} (h : Nms w A ns) (hb : Below w.heap.size w w') : Nms w' A ns := Row.below h hb
theorem Nms.get {w : World} {A : Option Addr} {ns : List Nm} (h : Nms w A ns) (hk : ns ≠ []) : ∃ b o, A = some ⟨b, o, none⟩ ∧ b < w.heap.size ∧ ∀ k s, ns[k]? = some s → w.cell? ⟨b, o + k, none⟩ = some (.string (str s)) := by
  obtain ⟨b, o, e, hb, hc⟩ := h (by simpa using hk)
  exact ⟨b, o, e, hb, fun k s hs => hc k _ (by simp [hs])⟩
/-- a map that keeps a set of names, wherever the world goes on -/
def InS (W : World) (a : Nat) (l : List Nm) : Prop := ∀ W', Below W.heap.size W W' → (∀ s, NmOk s → (Instr.lookup 92 (.map (some a)) (.string (str s)) false).run Tryd.prog W' = .ok (.int .i64 (if s ∈ l then 1 else 0)) W') ∧ ∃ N, W'.ownsMap Tryd.prog 9 (plainElem Tryd.prog 3) a N (setS l)
set_option maxRecDepth 100000 in
theorem inS_of {W : World} {a N : Nat} {l : List Nm} (h : W.ownsMap Tryd.prog 9 (plainElem Tryd.prog 3) a N (setS l)) : InS W a l := fun W' hb => by
  have h' := h.kept (grown_of_below hb) (by simp)
  refine ⟨fun s hs => ?_, N, h'⟩
  obtain ⟨c, hrun, hat, _⟩ := h'.lookup_int law9 Tryd.underlying92 Tryd.underlying3 (Tryd.zeroValue3 W') (key9 hs)
  rw [atKey_setS] at hat
  injection hat with hat
  injection hat with _ hat
  subst hat
  exact hrun
theorem InS.below {W W' : World} {a : Nat} {l : List Nm} (h : InS W a l) (hb : Below W.heap.size W W') : InS W' a l := fun W2 h2 => h W2 (hb.trans (h2.mono hb.size))
theorem take_str (ns : List Nm) (k : Nat) (s : Nm) : Lib.containsS ((ns.map str).take k) (str s) = decide (s ∈ ns.take k) := by
  rw [Bool.eq_iff_iff, Lib.containsS_iff, decide_eq_true_eq, ← List.map_take, List.mem_map]
  constructor
  · rintro ⟨x, hx, e⟩
    have : x = s := by
      have := congrArg ByteArray.toList e
      rwa [ByteArray.toList_eq, ByteArray.toList_eq] at this
    rw [← this]; exact hx
  · intro h; exact ⟨s, h, rfl⟩
theorem all46 (v : Value) (w : World) : Calls Tryd.prog 46 #[v] w fun e w' => e = .returned (.bool true) ∧ w' = w := by
  go_enter Tryd.func46, Tryd.ntmps46
  go_wp2_with fail
  go_ret
  exact ⟨rfl, rfl⟩
set_option maxHeartbeats 2000000 in
theorem both48 {W : World} {a x y : Nat} {l : List Nm} {s u : Nm} (h : InS W a l) (hs : NmOk s) (hu : NmOk u) (hx : W.cell? ⟨x, 0, none⟩ = some (.string (str s))) (hy : W.cell? ⟨y, 0, none⟩ = some (.string (str u))) :
    Calls Tryd.prog 48 #[.map (some a), .pointer (some ⟨x, 0, none⟩), .pointer (some ⟨y, 0, none⟩)] W fun e w' => e = .returned (.bool (decide (s ∈ l) && decide (u ∈ l))) ∧ w' = W := by
  obtain ⟨hl, _⟩ := h W (Below.refl _ _)
  have l1 := hl s hs
  have l2 := hl u hu
  clear hl h
  by_cases h1 : s ∈ l
  · rw [if_pos h1] at l1
    rw [show decide (s ∈ l) = true by simpa using h1]
    by_cases h2 : u ∈ l
    · rw [if_pos h2] at l2
      rw [show decide (u ∈ l) = true by simpa using h2]
      clear h1 h2
      go_enter Tryd.func48, Tryd.ntmps48
      go_wp2_with fail
      go_ret
      exact ⟨rfl, rfl⟩
    · rw [if_neg h2] at l2
      rw [show decide (u ∈ l) = false by simpa using h2]
      clear h1 h2
      go_enter Tryd.func48, Tryd.ntmps48
      go_wp2_with fail
      go_ret
      exact ⟨rfl, rfl⟩
  · rw [if_neg h1] at l1
    rw [show decide (s ∈ l) = false by simpa using h1]
    clear h1
    go_enter Tryd.func48, Tryd.ntmps48
    go_wp2_with fail
    go_ret
    exact ⟨rfl, rfl⟩
theorem contains55 {W : World} {b o c : Nat} {ns : List Nm} (hc : ∀ k s, ns[k]? = some s → W.cell? ⟨b, o + k, none⟩ = some (.string (str s))) (k : Nat) (hk : k ≤ ns.length) (hn : ns.length ≤ 1000) (s : Nm) :
    Calls Tryd.prog 55 #[.slice (some ⟨b, o, none⟩) k c, .string (str s)] W fun e w' => e = .returned (.bool (decide (s ∈ ns.take k))) ∧ w' = W := by
  have := Tryd.slices_Contains_string b o k c (ns.map str) (str s) W (by simpa using hk) (by omega) (fun j hj => by
    rw [List.length_map] at hj
    rw [hc j ns[j] (by simp [hj])]
    congr 1
    simp [List.getD, hj])
  rwa [take_str] at this
set_option maxRecDepth 100000 in
set_option maxHeartbeats 4000000 in
theorem alone54 {W : World} {a nb cc : Nat} {NA : Option Addr} {l ns : List Nm} (h : InS W a l) (hn : ns.length ≤ 1000) (hns : Nms W NA ns) (hok : ∀ s ∈ ns, NmOk s) (hc : W.cell? ⟨nb, 0, none⟩ = some (.slice NA ns.length cc)) (hcc : ns.length ≤ cc) :
    Calls Tryd.prog 54 #[.map (some a), .pointer (some ⟨nb, 0, none⟩)] W fun e w' => e = .returned (.bool (allIn l ns)) ∧ w' = W := by
  obtain ⟨hlk, N, hown⟩ := h W (Below.refl _ _)
  have HLK := Lib.hid hlk
  have HOWN := Lib.hid hown
  have HNS := Lib.hid hns
  have HOK := Lib.hid hok
  have HALL : Hid (decide (hits l ns ns.length = (dd l).length) = allIn l ns) := Lib.hid hits_all
  have HSTEP : Hid (∀ k s, ns[k]? = some s → hits l ns (k + 1) = if s ∈ l ∧ s ∉ ns.take k then hits l ns k + 1 else hits l ns k) := Lib.hid (fun k s h => hits_step h)
  have HLE : Hid (∀ k, hits l ns k ≤ k) := Lib.hid (hits_le l ns)
  have HLEN : Hid (Maps.size (setS l) = (dd l).length) := Lib.hid (size_setS l)
  have H0 : Hid (hits l ns 0 = 0) := Lib.hid rfl
  generalize allIn l ns = r at *
  generalize hH : hits l ns = H at *
  clear hlk hown hns hok h hH
  go_enter Tryd.func54, Tryd.ntmps54
  go_wp2_with fail
  go_loopg [4, 9] ns.length (fun gk n i wr => ∃ k : Nat, k ≤ ns.length ∧ gk = ns.length - k ∧ i = .int .i64 k ∧ n = .int .i64 (H k : Nat) ∧ wr = W)
  case atStart => exact ⟨0, Nat.zero_le _, rfl, rfl, by rw [H0.out]; rfl, rfl⟩
  case round =>
    obtain ⟨k, hk, hgk, rfl, rfl, rfl⟩ := hrel
    have HK := Lib.hid hgk
    clear hgk
    by_cases hlt : k < ns.length
    · obtain ⟨s, hs⟩ : ∃ s, ns[k]? = some s := ⟨ns[k]'hlt, by simp⟩
      obtain ⟨b, o, rfl, _, hcs⟩ := HNS.out.get (by rintro rfl; simp at hlt)
      have c0 := hcs k s hs
      have hlk := HLK.out s (HOK.out s (List.mem_of_getElem? hs))
      have HST := Lib.hid (HSTEP.out k s hs)
      have HC : Hid (Calls Tryd.prog 55 #[.slice (some ⟨b, o, none⟩) k cc, .string (str s)] wr fun e w' => e = .returned (.bool (decide (s ∈ ns.take k))) ∧ w' = wr) := Lib.hid (contains55 hcs k hk hn s)
      have hle := HLE.out k
      have hk0 : (0 : Int) ≤ (k : Int) := by omega
      have hk1 : (k : Int) < (ns.length : Int) := by omega
      have hk2 : (k : Int) ≤ (cc : Int) := by omega
      clear hcs hs
      by_cases h1 : s ∈ l
      · rw [if_pos h1] at hlk
        by_cases h2 : s ∈ ns.take k
        · have HE : Hid (H (k + 1) = H k) := Lib.hid (by rw [HST.out, if_neg (fun h => h.2 h2)])
          rw [show decide (s ∈ ns.take k) = true by simpa using h2] at HC
          clear h1 h2
          go_wp2_with fail
          refine Calls.mono HC.out ?_
          rintro e w2 ⟨rfl, rfl⟩
          go_wp2_with fail
          go_roundg (ns.length - (k + 1))
          case measure => rw [HK.out]; omega
          case rel => exact ⟨k + 1, by omega, rfl, by go_num, by rw [HE.out], rfl⟩
        · have HE : Hid (H (k + 1) = H k + 1) := Lib.hid (by rw [HST.out, if_pos ⟨h1, h2⟩])
          rw [show decide (s ∈ ns.take k) = false by simpa using h2] at HC
          clear h1 h2
          go_wp2_with fail
          refine Calls.mono HC.out ?_
          rintro e w2 ⟨rfl, rfl⟩
          go_wp2_with fail
          go_roundg (ns.length - (k + 1))
          case measure => rw [HK.out]; omega
          case rel => exact ⟨k + 1, by omega, rfl, by go_num, by rw [HE.out]; go_num, rfl⟩
      · rw [if_neg h1] at hlk
        have HE : Hid (H (k + 1) = H k) := Lib.hid (by rw [HST.out, if_neg (fun h => h1 h.1)])
        clear h1
        go_wp2_with fail
        go_roundg (ns.length - (k + 1))
        case measure => rw [HK.out]; omega
        case rel => exact ⟨k + 1, by omega, rfl, by go_num, by rw [HE.out], rfl⟩
    · obtain rfl : k = ns.length := by omega
      have hlen : (Builtin.len_ #[92] 3 #[.map (some a)]).run Tryd.prog wr = .ok (.int .i64 ((dd l).length : Nat)) wr := by rw [← HLEN.out]; exact HOWN.out.len Tryd.underlying92 3
      generalize H ns.length = x at *
      generalize (dd l).length = y at *
      have HR : Hid (((x : Int) == (y : Int)) = r) := Lib.hid (by rw [← HALL.out, Bool.eq_iff_iff]; simp; omega)
      go_wp2_with fail
      go_ret
      rw [HR.out]
      exact ⟨rfl, rfl⟩
theorem alone47 (A : Option Addr) (n c : Nat) (w : World) : Calls Tryd.prog 47 #[.slice A n c] w fun e w' => e = .returned (.func (.func 54) #[] #[.pointer (some ⟨w.heap.size, 0, none⟩)]) ∧ w' = w.alloc (.cells #[.slice A n c] 40) := by
  go_enter Tryd.func47, Tryd.ntmps47
  go_wp2_with fail
  go_ret
  exact ⟨rfl, rfl⟩
end Go.Proofs.YtkfajeicbkeigaaDoor
