/- Helpers for rows of bytes; the walks over value, text. -/
import Derived.Test.YtjakkmioofbcaaaDoorA4
import Derived.Test.YtjakkmioofbcaaaDoorShelf
namespace Go.Proofs.YtjakkmioofbcaaaDoor
open Go.RowKit
theorem own_slice {w : World} {base n e size : Nat} {v : Value} {xs : List Value} (h : w.ownsRow base e size v n xs) : ∃ A c, v = .slice A n c := by
  rcases h.2 with ⟨rfl, rfl⟩ | ⟨g, cap, cur, rfl, _⟩
  · exact ⟨none, 0, rfl⟩
  · exact ⟨_, cap, rfl⟩
theorem grown_of_below {A B : World} (h : Below A.heap.size A B) : A.grownBy B none := ⟨h.os, h.tape, h.output, h.size, fun k hk _ => h.block k hk⟩
theorem own_below {w w' : World} {base n e size : Nat} {v : Value} {xs : List Value} (h : w.ownsRow base e size v n xs) (hb : Below w.heap.size w w') : w'.ownsRow base e size v n xs :=
  h.kept (grown_of_below hb) (by rcases hoo : v.ownBlock with _ | g <;> simp)
theorem below_drewN {B : Nat} {a w : World} (h : Below B a w) (n : Nat) : Below B a (w.drewN n) := ⟨h.os, h.tape, h.output, h.size, h.block⟩
theorem below_drew {B : Nat} {a w : World} (h : Below B a w) : Below B a w.drew := ⟨h.os, h.tape, h.output, h.size, h.block⟩
theorem _root_.Go.World.ownsRow.drewN {w : World} {base n e size : Nat} {v : Value} {xs : List Value} (h : w.ownsRow base e size v n xs) (q : Nat) : (w.drewN q).ownsRow base e size v n xs := h
theorem info5 : (Tryd.prog.info? 5).map (fun i => (i.zero, i.size, i.bytes)) = some (some (.int .u8 0), 1, 1) := by kernel_rfl
theorem info9 : (Tryd.prog.info? 9).map (fun i => (i.zero, i.size, i.bytes)) = some (some (.string ⟨#[]⟩), 1, 16) := by kernel_rfl
theorem info3 : (Tryd.prog.info? 3).map (fun i => (i.zero, i.size, i.bytes)) = some (some (.int .i64 0), 1, 8) := by kernel_rfl
theorem info4 : (Tryd.prog.info? 4).map (fun i => (i.zero, i.size, i.bytes)) = some (some (.bool false), 1, 1) := by kernel_rfl
def bytesV (l : List UInt8) : List Value := l.map fun b => .int .u8 (b.toNat : Int)
theorem bytesV_append (a b : List UInt8) : bytesV (a ++ b) = bytesV a ++ bytesV b := by simp [bytesV]
theorem bytesV_len (a : List UInt8) : (bytesV a).length = a.length := by simp [bytesV]
theorem strOf (l : List UInt8) : strOfNums (l.map fun b => (b.toNat : Int)) = str l := by
  have h : (l.map fun b => (b.toNat : Int)).map (fun n => UInt8.ofNat n.toNat) = l := by
    rw [List.map_map]
    exact (List.map_congr_left (fun b _ => by simp)).trans (List.map_id l)
  unfold strOfNums str
  rw [h]
theorem conv_own {w : World} {base : Nat} {v : Value} {l : List UInt8} (h : w.ownsRow base 5 1 v l.length (bytesV l)) : (convert 70 9 v).run Tryd.prog w = .ok (.string (str l)) w := by
  rcases h.2 with ⟨rfl, h0⟩ | ⟨g, cap, cur, rfl, hb, hr, hc, hm, hs, ht⟩
  · have : l = [] := List.length_eq_zero_iff.1 h0
    subst this
    exact run_convert_bytes_nil w 70 5 Tryd.underlying70 Tryd.underlying5 0 0 9 Tryd.underlying9
  · rw [← strOf l]
    refine run_convert_bytes_arg (P := Tryd.prog) w 70 5 Tryd.underlying70 Tryd.underlying5 g 0 l.length cap _ (by simp) (fun i hi => ?_) 9 Tryd.underlying9
    rw [Nat.zero_add, h.cellAt i (by omega)]
    simp [bytesV, List.getD, hi]
theorem new1 (W : World) (a : Value) (t : TypeId) (g : Nat) (hg : g = W.heap.size) : ∀ j u, [a][j]? = some u → (W.alloc (.cells #[a] t)).cell? ((⟨g, 0, none⟩ : Addr).add j) = some u := by
  intro j u hj
  subst hg
  match j, hj with
  | 0, hj => simp at hj; subst hj; simp [Addr.add]
def hexL : List UInt8 := [48, 49, 50, 51, 52, 53, 54, 55, 56, 57, 97, 98, 99, 100, 101, 102]
def val (c : UInt8) : Int := Lib.indexByte hexL c
def hexd (n : Nat) : UInt8 := hexL.getD n 0
theorem val_fin : ∀ n : Fin 256, (-1 ≤ val (UInt8.ofNat n.1) ∧ val (UInt8.ofNat n.1) < 16) ∧ (0 ≤ val (UInt8.ofNat n.1) → hexd (val (UInt8.ofNat n.1)).toNat = UInt8.ofNat n.1) := by decide +kernel
theorem val_all (c : UInt8) : (-1 ≤ val c ∧ val c < 16) ∧ (0 ≤ val c → hexd (val c).toNat = c) := by
  have h := val_fin ⟨c.toNat, c.toNat_lt⟩
  simpa using h
theorem val_hexd : ∀ n : Fin 16, val (hexd n.1) = n.1 := by decide +kernel
theorem value58 (c : UInt8) (w : World) : Calls Tryd.prog 88 #[.int .u8 (c.toNat : Int)] w fun e w' => e = .returned (.int .i64 (val c)) ∧ w' = w := by
  have h := Lib.hid (Tryd.strings_IndexByte (str hexL) (c.toNat : Int) w)
  have hv : Hid (Lib.indexByte (str hexL).data.toList ((c.toNat : Int).toNat.toUInt8) = val c) := Lib.hid (by simp [val, str])
  go_enter Tryd.func88, Tryd.ntmps88
  go_wp2_with fail
  refine Calls.mono h.out ?_
  rintro e w' ⟨rfl, rfl⟩
  go_wp2
  go_ret
  exact ⟨rfl, rfl⟩
/-- the reference's value -/
def rval (c : UInt8) : Nat := if 48 ≤ c.toNat ∧ c.toNat ≤ 57 then c.toNat - 48 else if 97 ≤ c.toNat ∧ c.toNat ≤ 102 then c.toNat - 97 + 10 else 0
theorem rval_hexd : ∀ n : Fin 16, rval (hexd n.1) = n.1 := by decide +kernel
theorem rval_lt (c : UInt8) : rval c < 16 := by unfold rval; split <;> (try split) <;> omega
theorem rvalue54 (c : UInt8) (w : World) : Calls Tryd.prog 70 #[.int .u8 (c.toNat : Int)] w fun e w' => e = .returned (.int .i64 (rval c : Int)) ∧ w' = w := by
  by_cases a : (48 : Int) ≤ (c.toNat : Int)
  · by_cases b : (c.toNat : Int) ≤ 57
    · have hr : rval c = c.toNat - 48 := by unfold rval; rw [if_pos ⟨by omega, by omega⟩]
      have HR := Lib.hid hr
      clear hr
      go_enter Tryd.func70, Tryd.ntmps70
      go_wp2
      go_ret
      exact ⟨by rw [HR.out]; congr 1; simp; omega, rfl⟩
    · by_cases d : (97 : Int) ≤ (c.toNat : Int)
      · by_cases f : (c.toNat : Int) ≤ 102
        · have hr : rval c = c.toNat - 97 + 10 := by unfold rval; rw [if_neg (by omega), if_pos ⟨by omega, by omega⟩]
          have HR := Lib.hid hr
          clear hr
          go_enter Tryd.func70, Tryd.ntmps70
          go_wp2
          go_ret
          exact ⟨by rw [HR.out]; congr 1; simp; omega, rfl⟩
        · have hr : rval c = 0 := by unfold rval; rw [if_neg (by omega), if_neg (by omega)]
          have HR := Lib.hid hr
          clear hr
          go_enter Tryd.func70, Tryd.ntmps70
          go_wp2
          go_ret
          exact ⟨by rw [HR.out]; rfl, rfl⟩
      · have hr : rval c = 0 := by unfold rval; rw [if_neg (by omega), if_neg (by omega)]
        have HR := Lib.hid hr
        clear hr
        go_enter Tryd.func70, Tryd.ntmps70
        go_wp2
        go_ret
        exact ⟨by rw [HR.out]; rfl, rfl⟩
  · have hr : rval c = 0 := by unfold rval; rw [if_neg (by omega), if_neg (by omega)]
    have HR := Lib.hid hr
    have d : ¬ (97 : Int) ≤ (c.toNat : Int) := by omega
    clear hr
    go_enter Tryd.func70, Tryd.ntmps70
    go_wp2
    go_ret
    exact ⟨by rw [HR.out]; rfl, rfl⟩
end Go.Proofs.YtjakkmioofbcaaaDoor
