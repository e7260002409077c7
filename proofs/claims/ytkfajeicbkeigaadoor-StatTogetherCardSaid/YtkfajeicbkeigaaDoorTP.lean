/- The walk over the reference's Count. -/
import Derived.Test.YtkfajeicbkeigaaDoorTO
namespace Go.Proofs.YtkfajeicbkeigaaDoor
open Go.RowKit Go.Maps
theorem info60 : (Tryd.prog.info? 60).map (fun i => (i.zero, i.size, i.bytes)) = some (some (.agg #[.string ⟨#[]⟩, .slice none 0 0]), 2, 40) := by kernel_rfl
theorem str_toList (l : List UInt8) : (str l).toList = l := by rw [ByteArray.toList_eq]; rfl
theorem str_beq (a b : List UInt8) : ((str a).toList == (str b).toList) = decide (a = b) := by
  rw [str_toList, str_toList, Bool.eq_iff_iff]
  simp
/-- is a name among the first k of the uses? -/
def nmIn (us : List Us) (nm : Nm) (k : Nat) : Bool := decide (nm ∈ (us.take k).map (·.nm))
theorem nmIn_step {us : List Us} {nm : Nm} {k : Nat} {u : Us} (h : us[k]? = some u) : nmIn us nm (k + 1) = (nmIn us nm k || decide (u.nm = nm)) := by
  unfold nmIn
  rw [List.take_add_one, h, Option.toList_some, List.map_append, List.map_singleton, Bool.eq_iff_iff, Bool.or_eq_true, decide_eq_true_eq, decide_eq_true_eq, decide_eq_true_eq, List.mem_append, List.mem_singleton]
  exact ⟨fun h => h.imp id Eq.symm, fun h => h.imp id Eq.symm⟩
set_option maxRecDepth 100000 in
set_option maxHeartbeats 8000000 in
theorem count18 {A : Option Addr} {c : Nat} {us : List Us} {w : World} (h : Uss w A us) (hn : us.length ≤ 10) :
    Calls Tryd.prog 18 #[.slice A us.length c] w fun e w' => ∃ B d, e = .returned (.slice B (cnt us).length d) ∧ Uss w' B (cnt us) ∧ Below w.heap.size w w' := by
  have H := Lib.hid h
  have HCN : Hid (∀ k, (cnt (us.take k)).length ≤ 10) := Lib.hid (fun k => Nat.le_trans (cnt_len _) (by rw [List.length_take]; omega))
  have HCS : Hid (∀ k, ∀ u ∈ cnt (us.take k), u ∈ us) := Lib.hid (fun k u hu => List.mem_of_mem_take (cnt_sub u hu))
  have HEND : Hid (cnt (us.take us.length) = cnt us) := Lib.hid (by rw [List.take_length])
  clear h
  obtain ⟨i0, hi, hz0, hz1, hz2⟩ := info_parts info60
  have I0 := Lib.hid hi
  have Z0 := Lib.hid hz0
  have S0 := Lib.hid hz1
  have Y0 := Lib.hid hz2
  clear hi hz0 hz1 hz2
  obtain ⟨n, hnn⟩ : ∃ n, us.length = n := ⟨_, rfl⟩
  have HLEN := Lib.hid hnn
  rw [hnn] at hn HEND ⊢
  clear hnn
  go_enter Tryd.func18, Tryd.ntmps18
  go_wp2_with fail
  go_loopg [3, 4] n (fun gk v i wr => ∃ k : Nat, k ≤ n ∧ gk = n - k ∧ i = .int .i64 k ∧ wr.ownsRow w.heap.size 60 2 v (cnt (us.take k)).length ((cnt (us.take k)).flatMap usV) ∧ Below w.heap.size w wr)
  case atStart => exact ⟨0, Nat.zero_le _, rfl, rfl, World.ownsRow_nil _ _ _ _, Below.refl _ _⟩
  case round =>
    obtain ⟨wo, rfl⟩ : ∃ wo, wo = wr := ⟨_, rfl⟩
    obtain ⟨k, hk, hgk, rfl, hown, hb⟩ := hrel
    obtain ⟨VA, VC, rfl⟩ := own_slice hown
    have HK := Lib.hid hgk
    have HO := Lib.hid hown
    have HB := Lib.hid hb
    have hkI : (k : Int) ≤ 10 := by omega
    clear hgk hown hb
    by_cases hlt : k < n
    · obtain ⟨u, hu⟩ : ∃ u, us[k]? = some u := ⟨us[k]'(by rw [HLEN.out]; exact hlt), by simp⟩
      have HGET := Lib.hid (H.out.below HB.out)
      obtain ⟨b, o, rfl, hbl, hr, hcks⟩ := HGET.out.get hu
      have HST := Lib.hid (cnt_take hu)
      have c0 := hr 0 _ rfl
      have c1 := hr 1 _ rfl
      rw [Nat.add_zero] at c0
      obtain ⟨nm, uA, uc, cs⟩ := u
      simp only at *
      have hk0 : (0 : Int) ≤ (k : Int) := by omega
      have hk1 : (k : Int) < (n : Int) := by omega
      have HLE := Lib.hid (HCN.out k)
      have HROW := Lib.hid (row_own HO.out)
      have HIN : Hid (∀ j, nmIn (cnt (us.take k)) nm j = nmIn (cnt (us.take k)) nm j) := Lib.hid (fun _ => rfl)
      have HIE : Hid (nmIn (cnt (us.take k)) nm (cnt (us.take k)).length = decide (nm ∈ (cnt (us.take k)).map (·.nm))) := Lib.hid (by unfold nmIn; rw [List.take_length])
      have HIS : Hid (∀ j v, (cnt (us.take k))[j]? = some v → nmIn (cnt (us.take k)) nm (j + 1) = (nmIn (cnt (us.take k)) nm j || decide (v.nm = nm))) := Lib.hid (fun j v hv => nmIn_step hv)
      have HI0 : Hid (nmIn (cnt (us.take k)) nm 0 = false) := Lib.hid (by simp [nmIn])
      generalize hO : cnt (us.take k) = O at *
      have HOE := Lib.hid hO
      generalize hN : nmIn O nm = N at *
      clear hr hu hcks hO hN HIN hbl
      go_wp2_with fail
      go_loopg [5, 6] O.length (fun gj tv jv wQ => ∃ j : Nat, j ≤ O.length ∧ gj = O.length - j ∧ jv = .int .i64 j ∧ tv = .bool (N j) ∧ ∃ q, wQ = wo.drewN q)
      case atStart => exact ⟨0, Nat.zero_le _, rfl, rfl, by rw [HI0.out], 0, rfl⟩
      case round =>
        obtain ⟨j, hj, hgj, rfl, rfl, q, rfl⟩ := hrel
        have HJ := Lib.hid hgj
        have hjI : (O.length : Int) ≤ 10 := by have := HLE.out; omega
        clear hgj
        by_cases hjl : j < O.length
        · obtain ⟨v, hv⟩ : ∃ v, O[j]? = some v := ⟨O[j]'hjl, by simp⟩
          obtain ⟨b2, o2, rfl, _, hr2⟩ := HROW.out (fun e => by
            have := flat_len usV_len O
            rw [e] at this
            simp at this
            omega)
          have f0 := hr2 (j * 2 + 0) _ (flat_get usV_len O j 0 v (.string (str v.nm)) hv rfl)
          rw [Nat.add_zero] at f0
          have HISJ := Lib.hid (HIS.out j v hv)
          have hj0 : (0 : Int) ≤ (j : Int) := by omega
          have hj1 : (j : Int) < (O.length : Int) := by omega
          have hbq := str_beq v.nm nm
          clear hr2 hv
          generalize v.nm = vn at *
          cases ht : N j
          case true =>
            have HE : Hid (N (j + 1) = true) := Lib.hid (by rw [HISJ.out, ht]; rfl)
            clear ht
            go_wp2_with fail
            go_quiet (fail)
            go_wp2_with fail
            go_roundg (O.length - (j + 1))
            case measure => rw [HJ.out]; omega
            case rel => exact ⟨j + 1, by omega, rfl, by go_num, by rw [HE.out], _, rfl⟩
          case false =>
            by_cases hvn : vn = nm
            · have HE : Hid (N (j + 1) = true) := Lib.hid (by rw [HISJ.out, hvn]; simp)
              rw [show decide (vn = nm) = true by simpa using hvn] at hbq
              clear ht hvn
              go_wp2_with fail
              go_quiet (fail)
              go_wp2_with fail
              go_roundg (O.length - (j + 1))
              case measure => rw [HJ.out]; omega
              case rel => exact ⟨j + 1, by omega, rfl, by go_num, by rw [HE.out], _, rfl⟩
            · have HE : Hid (N (j + 1) = false) := Lib.hid (by rw [HISJ.out, ht]; simpa using hvn)
              rw [show decide (vn = nm) = false by simpa using hvn] at hbq
              clear ht hvn
              go_wp2_with fail
              go_quiet (fail)
              go_wp2_with fail
              go_roundg (O.length - (j + 1))
              case measure => rw [HJ.out]; omega
              case rel => exact ⟨j + 1, by omega, rfl, by go_num, by rw [HE.out], _, rfl⟩
        · obtain rfl : j = O.length := by omega
          have HBQ : Hid (Below w.heap.size w (wo.drewN q)) := Lib.hid (below_drewN HB.out q)
          have HOQ : Hid ((wo.drewN q).ownsRow w.heap.size 60 2 (.slice VA O.length VC) O.length (O.flatMap usV)) := Lib.hid HO.out
          by_cases hin : nm ∈ O.map (·.nm)
          · have HF : N O.length = true := by rw [HIE.out]; simpa using hin
            have HT : Hid (cnt (us.take (k + 1)) = O) := Lib.hid (by rw [HST.out, if_pos hin])
            rw [HF]
            clear hin HF
            go_wp2_with fail
            go_roundg (n - (k + 1))
            case measure => rw [HK.out]; omega
            case rel => exact ⟨k + 1, by omega, rfl, by go_num, by rw [HT.out]; exact HOQ.out, HBQ.out⟩
          · have HF : N O.length = false := by rw [HIE.out]; simpa using hin
            have HT : Hid (cnt (us.take (k + 1)) = O ++ [⟨nm, uA, uc, cs⟩]) := Lib.hid (by rw [HST.out, if_neg hin])
            rw [HF]
            obtain ⟨m, hm⟩ : ∃ m, O.length = m := ⟨_, rfl⟩
            have HMM := Lib.hid hm
            rw [hm] at HOQ HLE ⊢
            clear hin HF hm
            go_wp2_with (first
              | (at_builtin; refine wpList_append_own _ rfl (.tmp 35) (.tmp 40) _ rfl w.heap.size 60 i0 _ 2 40 Tryd.underlying39 I0.out Z0.out S0.out Y0.out rfl (by decide) _ m _ rfl (HOQ.out.alloc _) _ 1 1 [.string (str nm), .slice uA cs.length uc] rfl rfl (new2 _ _ _ _ _ rfl) (by simp [Value.oneCell']) (by have := HLE.out; unfold maxLen; omega) (by have := HLE.out; omega) (by have := HBQ.out.size; simp at *; omega) ?_))
            intro v8 w8 hown8 hg8 _
            obtain ⟨V8, C8, rfl⟩ := own_slice hown8
            have HO8 := Lib.hid hown8
            have HB8 : Hid (Below w.heap.size w w8) := Lib.hid ((HBQ.out.alloc HBQ.out.size _).grown hg8 (by have := HBQ.out.size; simp at this ⊢; omega) (fun j e => (HOQ.out.lt j e).1))
            clear hown8 hg8
            go_wp2_with fail
            go_roundg (n - (k + 1))
            case measure => rw [HK.out]; omega
            case rel => exact ⟨k + 1, by omega, rfl, by go_num, by rw [HT.out, List.flatMap_append, List.length_append, HMM.out]; exact HO8.out, HB8.out⟩
    · obtain rfl : k = n := by omega
      go_wp2_with fail
      go_ret
      rw [← HEND.out]
      exact ⟨_, _, rfl, ⟨row_own HO.out, fun u hu => (H.out.2 u (HCS.out _ u hu)).below HB.out⟩, HB.out⟩
end Go.Proofs.YtkfajeicbkeigaaDoor
