/- Draws of families and transformers. -/
import Derived.Test.YtiaeakpgldpaiaaDrawB
import Derived.Test.YtiaeakpgldpaiaaInts
import Derived.Test.YtiaeakpgldpaiaaSpecN
import Derived.Test.YtiaeakpgldpaiaaSpecG
namespace Go.Proofs.Ytiaeakpgldpaiaa
set_option linter.unusedSimpArgs false
set_option linter.unusedVariables false
set_option maxRecDepth 4000
open Go.RowKit

theorem or16_lt {a b : Nat} (h : a < 65536) (h' : b < 65536) : a ||| b < 65536 := Nat.or_lt_two_pow (n := 16) h h'
set_option maxHeartbeats 1000000 in
theorem s_l1Up (f : Nat) (w : World) (hf : f < 65536) : Calls Try.prog 255 #[.int .i64 (f : Int)] w fun e w' => (∃ m : Nat, m < 65536 ∧ e = .returned (.int .i64 (m : Int))) ∧ w = w' := by
  go_enter Try.func255, Try.ntmps255
  go_wp2_with fail
  go_loop [3, 4] (fun o i => ∃ k m : Nat, k ≤ 16 ∧ i = .int .i64 k ∧ m < 65536 ∧ o = .int .i64 m) (fun _ i => 16 - (intOf i).toNat)
  case atStart => exact ⟨0, 0, by omega, rfl, by omega, rfl⟩
  case round =>
    obtain ⟨k, m, hk, rfl, hm, rfl⟩ := hrel
    by_cases hlt : k < 16
    · have hd : decide ((k : Int) < 16) = true := by simp; omega
      go_wp2_with fail
      clear hd
      go_loop [3, 5] (fun o i => ∃ j m : Nat, j ≤ 16 ∧ i = .int .i64 j ∧ m < 65536 ∧ o = .int .i64 m) (fun _ i => 16 - (intOf i).toNat)
      case atStart => exact ⟨0, m, by omega, rfl, hm, rfl⟩
      case round =>
        obtain ⟨j, m', hj, rfl, hm', rfl⟩ := hrel
        by_cases hlj : j < 16
        · have hd : decide ((j : Int) < 16) = true := by simp; omega
          cases hb : f.testBit k
          · have HB := Lib.hid hb; clear hb
            go_wp2_with fail
            refine (s_l1Has f k _ hf (by omega)).mono ?_
            rw [HB.out]
            rintro e w' ⟨rfl, rfl⟩
            clear hd
            go_wp2_with fail
            go_round
            case rel => exact ⟨k + 1, m', by omega, by go_num, hm', rfl⟩
            case measure => simp [intOf]; omega
          · have HB := Lib.hid hb; clear hb
            have e1 := bits_andn_nat k j hlt hlj
            have e2 := wrap_one hlj
            have e3 := bits_or_nat m' (one j) hm' (one_lt16 hlj)
            have ho := or16_lt hm' (one_lt16 hlj)
            by_cases hz : andn k j = 0
            · have b1 : ((andn k j : Int) == 0) = true := by rw [hz]; simp
              clear hz
              go_wp2_with fail
              refine (s_l1Has f k _ hf (by omega)).mono ?_
              rw [HB.out]
              rintro e w' ⟨rfl, rfl⟩
              go_wp2_with fail
              go_round
              case rel => exact ⟨j + 1, _, by omega, by go_num, ho, rfl⟩
              case measure => simp [intOf]; omega
            · have b1 : ((andn k j : Int) == 0) = false := by rw [beq_eq_false_iff_ne]; omega
              clear hz
              go_wp2_with fail
              refine (s_l1Has f k _ hf (by omega)).mono ?_
              rw [HB.out]
              rintro e w' ⟨rfl, rfl⟩
              go_wp2_with fail
              go_round
              case rel => exact ⟨j + 1, _, by omega, by go_num, hm', rfl⟩
              case measure => simp [intOf]; omega
        · obtain rfl : j = 16 := by omega
          go_wp2_with fail
          go_round
          case rel => exact ⟨k + 1, m', by omega, by go_num, hm', rfl⟩
          case measure => simp [intOf]; omega
    · obtain rfl : k = 16 := by omega
      go_wp2_with fail
      go_ret
      exact ⟨⟨m, hm, rfl⟩, rfl⟩
theorem s_FamilyValid (f : Nat) (w : World) (hf : f < 65536) : Calls Try.prog 254 #[.int .i64 (f : Int)] w fun e w' => e = .returned (.bool true) ∧ w = w' := by
  have hb : (decide ((0 : Int) ≤ (f : Int)) && decide ((f : Int) ≤ 65535)) = true := by simp; omega
  have HB := Lib.hid hb; clear hb
  go_enter Try.func254, Try.ntmps254
  go_wp2_with fail
  refine (s_l1In _ _ _ _).mono ?_
  rw [HB.out]
  rintro e w' ⟨rfl, rfl⟩
  go_wp2_with fail
  go_ret
  exact ⟨rfl, rfl⟩
/-- Four families. -/
def Fams (zs : List Int) : Prop := ∀ z, z ∈ zs → ∃ f : Nat, f < 65536 ∧ z = (f : Int)
set_option maxHeartbeats 1000000 in
theorem s_TransOf (B : Nat) (v : Value) (zs : List Int) (w : World) (hl : zs.length = 4) (hz : Fams zs) (hv : IntsAt B w v zs) : Calls Try.prog 252 #[v] w fun e w' => (∃ s, Dg 16 s ∧ e = .returned (.tuple #[.string s, .bool true])) ∧ w = w' := by
  obtain ⟨g, cap, cur, rfl, _, a3, a4, a5, a6, a7⟩ := hv
  rw [hl] at a5 ⊢
  have hcell : ∀ k, k < 4 → ∃ f : Nat, f < 65536 ∧ w.cell? ⟨g, k, none⟩ = some (.int .i64 (f : Int)) := fun k hk => by
    have hlk : k < zs.length := by omega
    obtain ⟨f, hf, he⟩ := hz zs[k] (List.getElem_mem hlk)
    exact ⟨f, hf, (a3.get k).trans ((a7 k _ (List.getElem?_eq_getElem hlk)).trans (by rw [he]))⟩
  have HC := Lib.hid hcell; clear hcell a3 a4 a7 hz hl
  go_enter Try.func252, Try.ntmps252
  go_wp2_with fail
  go_loop [4] (fun i => ∃ k : Nat, k ≤ 4 ∧ i = .int .i64 k) (fun i => 4 - (intOf i).toNat)
  case atStart => exact ⟨0, by omega, rfl⟩
  case round =>
    obtain ⟨k, hk, rfl⟩ := hrel
    by_cases hlt : k < 4
    · obtain ⟨f, hf, c1⟩ := HC.out k hlt
      have i1 := lt_cast hlt
      go_wp2_with fail
      refine (s_FamilyValid f _ hf).mono ?_
      rintro e w' ⟨rfl, rfl⟩
      go_wp2_with fail
      go_round
      case rel => exact ⟨k + 1, by omega, by go_num⟩
      case measure => simp [intOf]; omega
    · obtain rfl : k = 4 := by omega
      go_wp2_with fail
      go_loop [5, 6] (fun o i => ∃ (k : Nat) (s : ByteArray), k ≤ 16 ∧ i = .int .i64 k ∧ o = .string s ∧ Hid (Dg k s)) (fun _ i => 16 - (intOf i).toNat)
      case atStart => exact ⟨0, ⟨#[]⟩, by omega, rfl, rfl, Lib.hid Dg_nil⟩
      case round =>
        obtain ⟨k, s, hk, rfl, rfl, HD⟩ := hrel
        by_cases hlt : k < 16
        · have hd : decide ((k : Int) < 16) = true := by simp; omega
          have hsz : s.size ≤ 16 := by have := Dg_size HD.out; omega
          go_wp2_with fail
          clear hd
          go_loop [7, 8] (fun o i => ∃ j m : Nat, j ≤ 4 ∧ i = .int .i64 j ∧ m < 16 ∧ o = .int .i64 m) (fun _ i => 4 - (intOf i).toNat)
          case atStart => exact ⟨0, 0, by omega, rfl, by omega, rfl⟩
          case round =>
            obtain ⟨j, m, hj, rfl, hm, rfl⟩ := hrel
            by_cases hlj : j < 4
            · obtain ⟨f, hf, c1⟩ := HC.out j hlj
              have i1 := lt_cast hlj
              have e2 := wrap_one (t := j) (by omega)
              have ho := one_lt hlj
              have e3 := bits_or_nat m (one j) (by omega) (by omega)
              have hom := or_lt hm ho
              go_wp2_with fail
              refine (s_l1Up f _ hf).mono ?_
              rintro e w' ⟨⟨u, hu, rfl⟩, rfl⟩
              cases hb : u.testBit k
              · have HB := Lib.hid hb; clear hb
                go_wp2_with fail
                refine (s_l1Has u k _ hu (by omega)).mono ?_
                rw [HB.out]
                rintro e w' ⟨rfl, rfl⟩
                go_wp2_with fail
                go_round
                case rel => exact ⟨j + 1, m, by omega, by go_num, hm, rfl⟩
                case measure => simp [intOf]; omega
              · have HB := Lib.hid hb; clear hb
                go_wp2_with fail
                refine (s_l1Has u k _ hu (by omega)).mono ?_
                rw [HB.out]
                rintro e w' ⟨rfl, rfl⟩
                go_wp2_with fail
                go_round
                case rel => exact ⟨j + 1, _, by omega, by go_num, hom, rfl⟩
                case measure => simp [intOf]; omega
            · obtain rfl : j = 4 := by omega
              have HD' := Lib.hid (hexChr_dig s m k HD.out hm)
              go_wp2_with fail
              refine (s_l2Digit _ _ hm).mono ?_
              rintro e w' ⟨rfl, rfl⟩
              go_wp2_with fail
              go_round
              case rel => exact ⟨k + 1, _, by omega, by go_num, rfl, HD'⟩
              case measure => simp [intOf]; omega
        · obtain rfl : k = 16 := by omega
          go_wp2_with fail
          go_ret2
          exact ⟨⟨s, HD.out, rfl⟩, rfl⟩
end Go.Proofs.Ytiaeakpgldpaiaa
