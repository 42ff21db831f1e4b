/- The drawer of inputs: what a draw may return, and that it turns nothing but itself. -/
import Derived.Test.YtiaeakpgldpaiaaToInts
import Derived.Test.YtiaeakpgldpaiaaSpecA
namespace Go.Proofs.Ytiaeakpgldpaiaa
set_option linter.unusedSimpArgs false
set_option linter.unusedVariables false
set_option maxRecDepth 4000
open Go.RowKit

theorem bits_xor_nat (a b : Nat) (ha : a < 2 ^ 40) (hb : b < 2 ^ 40) : bits .xor .i64 (a : Int) (b : Int) = ((a ^^^ b : Nat) : Int) := by
  have hp : (2 : Nat) ^ 40 ≤ 2 ^ IntKind.i64.bits := Nat.pow_le_pow_right (by decide) (by decide)
  have ha' : a % 2 ^ IntKind.i64.bits = a := Nat.mod_eq_of_lt (Nat.lt_of_lt_of_le ha hp)
  have hb' : b % 2 ^ IntKind.i64.bits = b := Nat.mod_eq_of_lt (Nat.lt_of_lt_of_le hb hp)
  have hx : a ^^^ b < 2 ^ 40 := Nat.xor_lt_two_pow ha hb
  simp only [bits, BitVec.ofInt_natCast, BitVec.toNat_xor, BitVec.toNat_ofNat, ha', hb']
  exact IntWalk.i64_in _ ⟨by omega, by omega⟩
theorem grown_trans {a b c : World} {r : Option Nat} (h : a.grownBy b r) (k : b.grownBy c r) : a.grownBy c r :=
  ⟨k.os.trans h.os, k.tape.trans h.tape, k.output.trans h.output, Nat.le_trans h.size k.size, fun i hi hne => (k.block i (Nat.lt_of_lt_of_le hi h.size) hne).trans (h.block i hi hne)⟩
theorem grown_drewN {a b : World} {r : Option Nat} (h : a.grownBy b r) (n : Nat) : a.grownBy (b.drewN n) r := ⟨h.os, h.tape, h.output, h.size, h.block⟩
theorem grown_alloc {a b : World} {r : Option Nat} (h : a.grownBy b r) (o : Obj) : a.grownBy (b.alloc o) r := grown_trans h (World.grownBy_alloc b o r)
theorem grown_below {a b c : World} {r : Option Nat} (h : a.grownBy b r) (k : Below b.heap.size b c) : a.grownBy c r :=
  grown_trans h ⟨k.os, k.tape, k.output, k.size, fun i hi _ => k.block i hi⟩
theorem RowAt.grownR {w w' : World} {b : Nat} {t : TypeId} {cs : Array Value} {row : Option Nat} (h : RowAt w b t cs) (hg : w.grownBy w' row) (hne : row ≠ some b) : RowAt w' b t cs :=
  (hg.block b h.lt fun e => hne e.symm).trans h
/-- The drawer at the block g: the bytes that came in, none of them in g, and how many draws there were. -/
def RdAt (w : World) (g p : Nat) : Prop := ∃ a len cap, RowAt w g 111 #[.slice a len cap, .int .i64 (p : Int)] ∧ len ≤ 2000 ∧ len ≤ cap ∧ cap ≤ maxLen ∧ (len = 0 ∨ ∃ b off, a = some ⟨b, off, none⟩ ∧ b < g ∧ ∀ i, i < len → ∃ z : Nat, z < 256 ∧ w.cell? ⟨b, off + i, none⟩ = some (.int .u8 (z : Int)))
theorem RdAt.lt {w : World} {g p : Nat} (h : RdAt w g p) : g < w.heap.size := by obtain ⟨_, _, _, h, _⟩ := h; exact h.lt
theorem RdAt.later {w w' : World} {g p : Nat} (h : RdAt w g p) (hb : Below w.heap.size w w') : RdAt w' g p := by
  obtain ⟨a, len, cap, hr, h1, h2, h3, h4⟩ := h
  refine ⟨a, len, cap, hr.later hb, h1, h2, h3, ?_⟩
  rcases h4 with h4 | ⟨b, off, h5, h6, h7⟩
  · exact .inl h4
  · refine .inr ⟨b, off, h5, h6, fun i hi => ?_⟩
    obtain ⟨z, hz, hc⟩ := h7 i hi
    exact ⟨z, hz, (hb.cell (p := ⟨b, off + i, none⟩) (Nat.lt_trans h6 hr.lt)).trans hc⟩
/-- What a draw leaves. -/
def DrewAt (w : World) (g p n : Nat) (w' : World) : Prop := (∃ q, q ≤ p + n ∧ RdAt w' g q) ∧ w.grownBy w' (some g)
/-- A draw of a number below n. -/
def PickPost (w : World) (g p n : Nat) (e : Ending) (w' : World) : Prop := ∃ k : Nat, k < n ∧ e = .returned (.int .i64 (k : Int)) ∧ RdAt w' g (p + 1) ∧ w.grownBy w' (some g)
set_option maxHeartbeats 2000000 in
theorem s_pick (g p n : Nat) (z : Int) (w : World) (hz : z = (n : Int)) (hn : 1 ≤ n) (hn2 : n ≤ 100000) (hp : p ≤ 100000) (h : RdAt w g p) : Calls Try.prog 108 #[.pointer (some ⟨g, 0, none⟩), .int .i64 z] w (PickPost w g p n) := by
  subst hz
  obtain ⟨a, len, cap, hr, h1, h2, h3, h4⟩ := h
  have c0 : w.cell? ⟨g, 0, none⟩ = some (.slice a len cap) := hr.get 0
  have c1 : w.cell? ⟨g, 1, none⟩ = some (.int .i64 (p : Int)) := hr.get 1
  have f1 := hr.free 1
  have hr' : RowAt (w.setCell ⟨g, 1, none⟩ (.int .i64 ((p : Int) + 1))) g 111 #[.slice a len cap, .int .i64 ((p + 1 : Nat) : Int)] := heap_setCell_same w g 1 _ _ _ hr
  have hg' : w.grownBy (w.setCell ⟨g, 1, none⟩ (.int .i64 ((p : Int) + 1))) (some g) := grown_set (World.grownBy.refl w _)
  have hpost : ∀ (k : Nat) (m : Nat), k < n → PickPost w g p n (.returned (.int .i64 (k : Int))) ((w.setCell ⟨g, 1, none⟩ (.int .i64 ((p : Int) + 1))).drewN m) := fun k m hk => by
    refine ⟨k, hk, rfl, ⟨a, len, cap, hr'.drewN m, h1, h2, h3, ?_⟩, grown_drewN hg' m⟩
    rcases h4 with h4 | ⟨b, off, h5, h6, h7⟩
    · exact .inl h4
    · refine .inr ⟨b, off, h5, h6, fun i hi => ?_⟩
      obtain ⟨z, hz, hc⟩ := h7 i hi
      refine ⟨z, hz, ?_⟩
      show (w.setCell ⟨g, 1, none⟩ _).cell? ⟨b, off + i, none⟩ = _
      rw [World.cell?_of_block (w := w) (heap_setCell_other w ⟨g, 1, none⟩ b _ (by show b ≠ g; omega))]
      exact hc
  have HP := Lib.hid hpost; clear hpost hr' hg'
  by_cases h0 : len = 0
  · have b0 : ((len : Int) == 0) = true := by simp [h0]
    clear h4 h0
    go_enter Try.func108, Try.ntmps108
    go_wp2_with fail
    go_ret
    exact HP.out 0 0 (by omega)
  have b0 : ((len : Int) == 0) = false := by rw [beq_eq_false_iff_ne]; omega
  obtain ⟨b, off, ha, hbg, hcell⟩ := h4.resolve_left h0
  subst ha
  have hne : ∀ i v, (w.setCell ⟨g, 1, none⟩ v).cell? ⟨b, i, none⟩ = w.cell? ⟨b, i, none⟩ := fun i v => World.cell?_of_block (w := w) (heap_setCell_other w ⟨g, 1, none⟩ b v (by show b ≠ g; omega))
  by_cases hlt : p < len
  · obtain ⟨z, hz, hc⟩ := hcell p hlt
    have cz : (w.setCell ⟨g, 1, none⟩ (.int .i64 ((p : Int) + 1))).cell? ⟨b, off + p, none⟩ = some (.int .u8 (z : Int)) := (hne _ _).trans hc
    have hm : (z : Int) % (n : Int) = ((z % n : Nat) : Int) := by simp
    have HM := Lib.hid hm
    clear hcell hc hne h4 hm
    go_enter Try.func108, Try.ntmps108
    go_wp2_with fail
    go_ret
    show PickPost w g p n (.returned (.int .i64 ((z : Int) % (n : Int)))) _
    rw [HM.out]
    exact HP.out (z % n) 0 (Nat.mod_lt _ (by omega))
  · obtain ⟨z1, hz1, hc1⟩ := hcell (p % len) (Nat.mod_lt _ (by omega))
    obtain ⟨z2, hz2, hc2⟩ := hcell ((p * 7 + 3) % len) (Nat.mod_lt _ (by omega))
    have cz1 : (w.setCell ⟨g, 1, none⟩ (.int .i64 ((p : Int) + 1))).cell? ⟨b, off + p % len, none⟩ = some (.int .u8 (z1 : Int)) := (hne _ _).trans hc1
    have cz2 : (w.setCell ⟨g, 1, none⟩ (.int .i64 ((p : Int) + 1))).cell? ⟨b, off + (p * 7 + 3) % len, none⟩ = some (.int .u8 (z2 : Int)) := (hne _ _).trans hc2
    have g0 : (w.setCell ⟨g, 1, none⟩ (.int .i64 ((p : Int) + 1))).cell? ⟨g, 0, none⟩ = some (.slice (some ⟨b, off, none⟩) len cap) := (show RowAt _ g 111 _ from heap_setCell_same w g 1 _ _ (.int .i64 ((p : Int) + 1)) hr).get 0
    have i1 : (0 : Int) ≤ ((p % len : Nat) : Int) ∧ ((p % len : Nat) : Int) < (len : Int) := lt_cast (Nat.mod_lt _ (by omega))
    have i2 : (0 : Int) ≤ (((p * 7 + 3) % len : Nat) : Int) ∧ (((p * 7 + 3) % len : Nat) : Int) < (len : Int) := lt_cast (Nat.mod_lt _ (by omega))
    have i3 : (0 : Int) ≤ ((p : Int) * 7 + 3) % (len : Int) ∧ ((p : Int) * 7 + 3) % (len : Int) < (len : Int) := ⟨Int.emod_nonneg _ (by omega), Int.emod_lt_of_pos _ (by omega)⟩
    have i4 : (0 : Int) ≤ (p : Int) % (len : Int) ∧ (p : Int) % (len : Int) < (len : Int) := ⟨Int.emod_nonneg _ (by omega), Int.emod_lt_of_pos _ (by omega)⟩
    have t3 : (((p : Int) * 7 + 3) % (len : Int)).toNat = (p * 7 + 3) % len := by rw [show ((p : Int) * 7 + 3) % (len : Int) = (((p * 7 + 3) % len : Nat) : Int) from by simp]; rfl
    have m1 : ((p : Int)).tmod (len : Int) = ((p % len : Nat) : Int) := rfl
    have m2 : ((p : Int) * 7 + 3).tmod (len : Int) = (((p * 7 + 3) % len : Nat) : Int) := rfl
    obtain ⟨d, hdd⟩ : ∃ d, d = p / len := ⟨_, rfl⟩
    have m3 : ((p : Int)).tdiv (len : Int) = (d : Int) := by rw [hdd]; rfl
    have hd : d ≤ 100000 := by rw [hdd]; exact Nat.le_trans (Nat.div_le_self _ _) hp
    clear hdd
    have bl : ((len : Int) == 0) = false := b0
    have k1 : IntKind.i64.wrap ((z1 : Int) * 131) = (z1 : Int) * 131 := IntWalk.i64_in _ ⟨by omega, by omega⟩
    have k2 : IntKind.i64.wrap ((p : Int) * 7) = (p : Int) * 7 := IntWalk.i64_in _ ⟨by omega, by omega⟩
    have k3 : IntKind.i64.wrap ((p : Int) * 7 + 3) = (p : Int) * 7 + 3 := IntWalk.i64_in _ ⟨by omega, by omega⟩
    have k4 : IntKind.i64.wrap ((z2 : Int) * 1117) = (z2 : Int) * 1117 := IntWalk.i64_in _ ⟨by omega, by omega⟩
    have k5 : IntKind.i64.wrap ((z1 : Int) * 131 + (z2 : Int) * 1117) = (z1 : Int) * 131 + (z2 : Int) * 1117 := IntWalk.i64_in _ ⟨by omega, by omega⟩
    have k6 : IntKind.i64.wrap ((p : Int) * 29) = (p : Int) * 29 := IntWalk.i64_in _ ⟨by omega, by omega⟩
    have k7 : IntKind.i64.wrap ((z1 : Int) * 131 + (z2 : Int) * 1117 + (p : Int) * 29) = (z1 : Int) * 131 + (z2 : Int) * 1117 + (p : Int) * 29 := IntWalk.i64_in _ ⟨by omega, by omega⟩
    have k8 : IntKind.i64.wrap ((d : Int) * 53) = (d : Int) * 53 := IntWalk.i64_in _ ⟨by omega, by omega⟩
    have k9 : IntKind.i64.wrap ((z1 : Int) * 131 + (z2 : Int) * 1117 + (p : Int) * 29 + (d : Int) * 53) = (z1 : Int) * 131 + (z2 : Int) * 1117 + (p : Int) * 29 + (d : Int) * 53 := IntWalk.i64_in _ ⟨by omega, by omega⟩
    clear hcell hc1 hc2 hne h4 c0 hr
    go_enter Try.func108, Try.ntmps108
    go_wp2_with fail
    refine wp_region_quiet_lit (by kernel_rfl) (by kernel_rfl) ?_
    repeat (any_goals (first | go_big_quiet_step (fail) | quiet_step (fail)))
    all_goals (refine wpQuiet_nil ?_; intro _ hw'; obtain ⟨nq, hw''⟩ := hw'; subst hw'')
    obtain ⟨X, hX⟩ : ∃ X : Nat, (z1 : Int) * 131 + (z2 : Int) * 1117 + (p : Int) * 29 + (d : Int) * 53 = (X : Int) := ⟨z1 * 131 + z2 * 1117 + p * 29 + d * 53, by simp⟩
    have hXl : X < 2 ^ 40 := by omega
    have ex : bits .xor .i64 ((X : Nat) : Int) ((X : Int) / 64) = ((X ^^^ X / 64 : Nat) : Int) := by
      rw [show ((X : Int) / 64) = ((X / 64 : Nat) : Int) from by simp]
      exact bits_xor_nat X (X / 64) hXl (Nat.lt_of_le_of_lt (Nat.div_le_self _ _) hXl)
    clear k1 k2 k3 k4 k5 k6 k7 k8 k9 m1 m2 m3 i1 i2 i3 i4 t3 cz1 cz2
    go_wp2_with fail
    go_ret
    have hk := HP.out ((X ^^^ X / 64) % n) nq (Nat.mod_lt _ (by omega))
    rw [show (((X ^^^ X / 64) % n : Nat) : Int) = ((X ^^^ X / 64 : Nat) : Int) % (n : Int) from by simp] at hk
    exact hk
end Go.Proofs.Ytiaeakpgldpaiaa
