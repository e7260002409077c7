/- The walk over the library's stable sort, of ten names at most. -/
import Derived.Test.YtkfajeicbkeigaaDoorTL
namespace Go.Proofs.YtkfajeicbkeigaaDoor
open Go.RowKit Go.Maps
set_option maxRecDepth 100000 in
set_option maxHeartbeats 4000000 in
theorem stable56 {W : World} {A : Option Addr} {cap gb n : Nat} {R : World → Prop} (hn : n ≤ 10)
    (hc : Calls Tryd.prog 63 #[.slice A n cap, .int .i64 0, .int .i64 n, .func (.func 50) #[] #[.pointer (some ⟨gb, 0, none⟩)]] W fun e w' => e = .returned (.tuple #[]) ∧ R w') :
    Calls Tryd.prog 56 #[.slice A n cap, .int .i64 n, .func (.func 50) #[] #[.pointer (some ⟨gb, 0, none⟩)]] W fun e w' => e = .returned (.tuple #[]) ∧ R w' := by
  have HC := Lib.hid hc
  clear hc
  go_enter Tryd.func56, Tryd.ntmps56
  go_wp2_with fail
  go_loop [7, 8] (fun a b => a = .int .i64 0 ∧ b = .int .i64 20) (fun _ _ => 0)
  case atStart => exact ⟨rfl, rfl⟩
  case round =>
    obtain ⟨rfl, rfl⟩ := hrel
    go_wp2_with fail
    refine Calls.mono HC.out ?_
    rintro e w' ⟨rfl, hr⟩
    have HR := Lib.hid hr
    clear hr
    go_wp2_with fail
    go_loop [6] (fun a => a = .int .i64 20) (fun _ => 0)
    case atStart => rfl
    case round =>
      obtain rfl := hrel
      go_wp2_with fail
      exact bodyPost_end (results_none rfl _ _ _) rfl ⟨rfl, HR.out⟩
set_option maxHeartbeats 4000000 in
theorem stable49 {W : World} {A : Option Addr} {cap gb n : Nat} {R : World → Prop} (hn : n ≤ 10)
    (hc : Calls Tryd.prog 63 #[.slice A n cap, .int .i64 0, .int .i64 n, .func (.func 50) #[] #[.pointer (some ⟨gb, 0, none⟩)]] W fun e w' => e = .returned (.tuple #[]) ∧ R w') :
    Calls Tryd.prog 49 #[.slice A n cap, .func (.func 50) #[] #[.pointer (some ⟨gb, 0, none⟩)]] W fun e w' => e = .returned (.tuple #[]) ∧ R w' := by
  have HC := Lib.hid (stable56 hn hc)
  clear hc
  go_enter Tryd.func49, Tryd.ntmps49
  go_wp2_with fail
  refine Calls.mono HC.out ?_
  rintro e w' ⟨rfl, hr⟩
  have HR := Lib.hid hr
  clear hr
  go_wp2_with fail
  exact bodyPost_end (results_none rfl _ _ _) rfl ⟨rfl, HR.out⟩
set_option maxRecDepth 100000 in
set_option maxHeartbeats 4000000 in
theorem sort63_0 {W : World} {A : Option Addr} {cap : Nat} {F : Value} : Calls Tryd.prog 63 #[.slice A 0 cap, .int .i64 0, .int .i64 (0 : Nat), F] W fun e w' => e = .returned (.tuple #[]) ∧ w' = W := by
  go_enter Tryd.func63, Tryd.ntmps63
  go_wp2_with fail
  go_loop [8] (fun a => a = .int .i64 1) (fun _ => 0)
  case atStart => rfl
  case round =>
    obtain rfl := hrel
    go_wp2_with fail
    exact bodyPost_end (results_none rfl _ _ _) rfl ⟨rfl, rfl⟩
end Go.Proofs.YtkfajeicbkeigaaDoor
