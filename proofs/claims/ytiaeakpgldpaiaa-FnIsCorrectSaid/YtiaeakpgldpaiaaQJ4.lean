/- Joined texts: Ints, ToInts, DrawA, DrawB, DrawC, DrawD, DrawE, DrawF. -/
import Derived.Test.YtiaeakpgldpaiaaProg
import Derived.Test.YtiaeakpgldpaiaaQJ1
import Derived.Deep.AppendLies
import Derived.OwnWalk
import Derived.Laws.OwnMore
import Derived.Test.YtiaeakpgldpaiaaQJ2
namespace Go.Proofs.Ytiaeakpgldpaiaa
set_option linter.unusedSimpArgs false
set_option linter.unusedVariables false
set_option maxRecDepth 4000
open Go.RowKit

theorem infoInt : (Try.prog.info? 3).map (fun i => (i.zero, i.size, i.bytes)) = some (some (.int .i64 0), 1, 8) := by kernel_rfl
/-- The slice v holds the numbers zs, in a block from B on. -/
def IntsAt (B : Nat) (w : World) (v : Value) (zs : List Int) : Prop :=
  ∃ g cap cur, v = .slice (some ⟨g, 0, none⟩) zs.length cap ∧ B ≤ g ∧ RowAt w g 3 cur ∧ cur.size = cap ∧ zs.length ≤ cap ∧ cap ≤ maxLen ∧ ∀ (i : Nat) (z : Int), zs[i]? = some z → cur[i]? = some (Value.int .i64 z)
theorem IntsAt.later {B : Nat} {w w' : World} {v : Value} {zs : List Int} (h : IntsAt B w v zs) (hb : Below w.heap.size w w') : IntsAt B w' v zs := by
  obtain ⟨g, cap, cur, h1, h2, h3, h4⟩ := h
  exact ⟨g, cap, cur, h1, h2, h3.later hb, h4⟩
theorem IntsAt.of_lit {B g : Nat} {w : World} {zs : List Int} (hB : B ≤ g) (h : RowAt w g 3 (zs.map (Value.int .i64)).toArray) (hm : zs.length ≤ maxLen) : IntsAt B w (.slice (some ⟨g, 0, none⟩) zs.length zs.length) zs :=
  ⟨g, zs.length, _, rfl, hB, h, by simp, Nat.le_refl _, hm, fun i z hz => by simp [hz]⟩
theorem IntsAt.owns {B : Nat} {w : World} {v : Value} {zs : List Int} (h : IntsAt B w v zs) : w.ownsRow B 3 1 v zs.length (zs.map (Value.int .i64)) := by
  obtain ⟨g, cap, cur, rfl, h2, h3, h4, h5, h6, h7⟩ := h
  refine ⟨by simp, .inr ⟨g, cap, cur, rfl, h2, h3, h5, h6, by omega, ?_⟩⟩
  apply List.ext_getElem?
  intro i
  rw [List.getElem?_take, List.getElem?_map]
  by_cases hi : i < zs.length
  · rw [if_pos (by omega)]
    have hz : zs[i]? = some zs[i] := List.getElem?_eq_getElem hi
    have := h7 i _ hz
    rw [hz]
    simpa using this
  · rw [if_neg (by omega), List.getElem?_eq_none (by omega)]
    rfl
theorem IntsAt.of_owns {B g n cap : Nat} {w : World} {zs : List Int} (hn : n = zs.length) (h : w.ownsRow B 3 1 (.slice (some ⟨g, 0, none⟩) n cap) n (zs.map (Value.int .i64))) : IntsAt B w (.slice (some ⟨g, 0, none⟩) n cap) zs := by
  subst hn
  rcases h.2 with ⟨h', _⟩ | ⟨g', cap', cur, h', hb, hg, h5, h6, h4, htake⟩
  · simp at h'
  · simp only [Value.slice.injEq, Option.some.injEq, Addr.mk.injEq, and_true, true_and] at h'
    obtain ⟨rfl, rfl⟩ := h'
    refine ⟨g, cap, cur, rfl, hb, hg, by omega, h5, h6, fun i z hz => ?_⟩
    have hlt : i < zs.length := (List.getElem?_eq_some_iff.1 hz).1
    have : (cur.toList.take (zs.length * 1))[i]? = (zs.map (Value.int .i64))[i]? := by rw [htake]
    rw [List.getElem?_take, if_pos (by omega), List.getElem?_map, hz] at this
    simpa using this
theorem IntsAt.kept {B g1 : Nat} {w w' : World} {v : Value} {zs : List Int} (h : IntsAt B w v zs) (hg : w.grownBy w' (some g1)) (hne : ∀ g, v.ownBlock = some g → g ≠ g1) : IntsAt B w' v zs := by
  obtain ⟨g, cap, cur, rfl, h2, h3, h4⟩ := h
  exact ⟨g, cap, cur, rfl, h2, (hg.block g h3.lt (fun e => hne g rfl (by injection e))).trans h3, h4⟩
theorem IntsAt.block {B : Nat} {w : World} {v : Value} {zs : List Int} (h : IntsAt B w v zs) : ∃ g, v.ownBlock = some g ∧ B ≤ g ∧ g < w.heap.size := by
  obtain ⟨g, cap, cur, rfl, h2, h3, _⟩ := h
  exact ⟨g, rfl, h2, h3.lt⟩
theorem IntsAt.apart {B B' g1 : Nat} {w wx : World} {v v1 : Value} {zs zs1 : List Int} (h : IntsAt B w v zs) (h1 : IntsAt B' wx v1 zs1) (hg1 : v1.ownBlock = some g1) (hsz : w.heap.size ≤ B') : (∀ g, v.ownBlock = some g → g ≠ g1) := by
  intro g hg
  obtain ⟨ga, ha, _, ha3⟩ := h.block
  obtain ⟨gb, hb, hb2, _⟩ := h1.block
  rw [hg] at ha; rw [hg1] at hb
  cases ha; cases hb
  omega
/-- The marks. -/
def marks (n : Nat) : List Int := zrow n (fun i => (i : Int) + 1)
theorem marks_len (n : Nat) : (marks n).length = n := zrow_len _ _
theorem marks_get (n i : Nat) (h : i < n) : (marks n)[i]? = some ((i : Int) + 1) := zrow_get _ _ i h
theorem grown_set {w wr : World} {g i : Nat} {u : Value} (hg : w.grownBy wr (some g)) : w.grownBy (wr.setCell ⟨g, i, none⟩ u) (some g) :=
  ⟨hg.os, hg.tape, hg.output, by have := hg.size; simpa using this, fun k hk hne => (heap_setCell_other wr ⟨g, i, none⟩ k u (fun e => hne (by rw [e]))).trans (hg.block k hk hne)⟩
end Go.Proofs.Ytiaeakpgldpaiaa
namespace Go.Proofs.Ytiaeakpgldpaiaa
set_option linter.unusedSimpArgs false
set_option linter.unusedVariables false
set_option maxRecDepth 4000
open Go.RowKit

/-- A slice that came in: nil, or len of the cap numbers zs from an address on. -/
def IsRow (k : IntKind) (W : World) (a : Option Addr) (len cap : Nat) (zs : List Int) : Prop :=
  (a = none ∧ len = 0 ∧ cap = 0 ∧ zs = []) ∨
  ∃ x, a = some x ∧ len ≤ cap ∧ cap ≤ maxLen ∧ zs.length = cap ∧ (∀ i, i < zs.length → W.cell? (x.add i) = some (.int k (zs.getD i 0))) ∧ ∀ n ∈ zs, (Lit.int k n).wf = true
theorem cell_lt {w : World} {a : Addr} {v : Value} (h : w.cell? a = some v) : a.block < w.heap.size := World.block_lt_of_cell? w a h
theorem IsRow.later {k : IntKind} {W W' : World} {a : Option Addr} {len cap : Nat} {zs : List Int} (h : IsRow k W a len cap zs) (hb : Below W.heap.size W W') : IsRow k W' a len cap zs := by
  rcases h with h | ⟨x, h1, h2, h3, h4, h5, h6⟩
  · exact .inl h
  · exact .inr ⟨x, h1, h2, h3, h4, fun i hi => (hb.cell (cell_lt (h5 i hi))).trans (h5 i hi), h6⟩
/-- A slice that came in, told by its elements alone. -/
def InRow (k : IntKind) (W : World) (a : Option Addr) (len cap : Nat) (zs : List Int) : Prop :=
  zs.length = len ∧ len ≤ cap ∧ cap ≤ maxLen ∧ (len = 0 ∨ ∃ b off, a = some ⟨b, off, none⟩ ∧ b < W.heap.size ∧ ∀ i, i < len → W.cell? ⟨b, off + i, none⟩ = some (.int k (zs.getD i 0)))
theorem IsRow.row {k : IntKind} {W : World} {a : Option Addr} {len cap : Nat} {zs : List Int} (h : IsRow k W a len cap zs) : InRow k W a len cap (zs.take len) := by
  rcases h with ⟨rfl, rfl, rfl, rfl⟩ | ⟨x, rfl, h2, h3, h4, h5, _⟩
  · exact ⟨rfl, Nat.le_refl _, Nat.zero_le _, .inl rfl⟩
  · refine ⟨by rw [List.length_take]; omega, h2, h3, ?_⟩
    by_cases h0 : len = 0
    · exact .inl h0
    · right
      have c0 := h5 0 (by omega)
      have hs : x.spot = none := by
        have := World.cell?_spot c0
        rwa [show x.add 0 = x from rfl] at this
      obtain ⟨b, off, spot⟩ := x
      have hs' : spot = none := hs
      subst hs'
      refine ⟨b, off, rfl, ?_, fun i hi => ?_⟩
      · have := cell_lt c0; rwa [show (⟨b, off, none⟩ : Addr).add 0 = ⟨b, off, none⟩ from rfl] at this
      · have := h5 i (by omega)
        rw [show (⟨b, off, none⟩ : Addr).add i = ⟨b, off + i, none⟩ from by cases i <;> rfl] at this
        rw [this]
        congr 2
        rw [List.getD_eq_getElem?_getD, List.getD_eq_getElem?_getD, List.getElem?_take, if_pos hi]
theorem InRow.later {k : IntKind} {W W' : World} {a : Option Addr} {len cap : Nat} {zs : List Int} (h : InRow k W a len cap zs) (hb : Below W.heap.size W W') : InRow k W' a len cap zs := by
  obtain ⟨h1, h2, h3, h4⟩ := h
  refine ⟨h1, h2, h3, ?_⟩
  rcases h4 with h4 | ⟨b, off, h5, h6, h7⟩
  · exact .inl h4
  · exact .inr ⟨b, off, h5, by have := hb.size; omega, fun i hi => (hb.cell (p := ⟨b, off + i, none⟩) h6).trans (h7 i hi)⟩
end Go.Proofs.Ytiaeakpgldpaiaa
namespace Go.Proofs.Ytiaeakpgldpaiaa
set_option linter.unusedSimpArgs false
set_option linter.unusedVariables false
set_option maxRecDepth 4000
open Go.RowKit

theorem bits_xor_nat (a b : Nat) (ha : a < 2 ^ 40) (hb : b < 2 ^ 40) : bits .xor .i64 (a : Int) (b : Int) = ((a ^^^ b : Nat) : Int) := by
  have hp : (2 : Nat) ^ 40 ≤ 2 ^ IntKind.i64.bits := Nat.pow_le_pow_right (by decide) (by decide)
  have ha' : a % 2 ^ IntKind.i64.bits = a := Nat.mod_eq_of_lt (Nat.lt_of_lt_of_le ha hp)
  have hb' : b % 2 ^ IntKind.i64.bits = b := Nat.mod_eq_of_lt (Nat.lt_of_lt_of_le hb hp)
  have hx : a ^^^ b < 2 ^ 40 := Nat.xor_lt_two_pow ha hb
  simp only [bits, BitVec.ofInt_natCast, BitVec.toNat_xor, BitVec.toNat_ofNat, ha', hb']
  exact IntWalk.i64_in _ ⟨by omega, by omega⟩
theorem grown_trans {a b c : World} {r : Option Nat} (h : a.grownBy b r) (k : b.grownBy c r) : a.grownBy c r :=
  ⟨k.os.trans h.os, k.tape.trans h.tape, k.output.trans h.output, Nat.le_trans h.size k.size, fun i hi hne => (k.block i (Nat.lt_of_lt_of_le hi h.size) hne).trans (h.block i hi hne)⟩
theorem grown_drewN {a b : World} {r : Option Nat} (h : a.grownBy b r) (n : Nat) : a.grownBy (b.drewN n) r := ⟨h.os, h.tape, h.output, h.size, h.block⟩
theorem grown_alloc {a b : World} {r : Option Nat} (h : a.grownBy b r) (o : Obj) : a.grownBy (b.alloc o) r := grown_trans h (World.grownBy_alloc b o r)
theorem grown_below {a b c : World} {r : Option Nat} (h : a.grownBy b r) (k : Below b.heap.size b c) : a.grownBy c r :=
  grown_trans h ⟨k.os, k.tape, k.output, k.size, fun i hi _ => k.block i hi⟩
theorem RowAt.grownR {w w' : World} {b : Nat} {t : TypeId} {cs : Array Value} {row : Option Nat} (h : RowAt w b t cs) (hg : w.grownBy w' row) (hne : row ≠ some b) : RowAt w' b t cs :=
  (hg.block b h.lt fun e => hne e.symm).trans h
/-- The drawer at the block g: the bytes that came in, none of them in g, and how many draws there were. -/
def RdAt (w : World) (g p : Nat) : Prop := ∃ a len cap, RowAt w g 111 #[.slice a len cap, .int .i64 (p : Int)] ∧ len ≤ 2000 ∧ len ≤ cap ∧ cap ≤ maxLen ∧ (len = 0 ∨ ∃ b off, a = some ⟨b, off, none⟩ ∧ b < g ∧ ∀ i, i < len → ∃ z : Nat, z < 256 ∧ w.cell? ⟨b, off + i, none⟩ = some (.int .u8 (z : Int)))
theorem RdAt.lt {w : World} {g p : Nat} (h : RdAt w g p) : g < w.heap.size := by obtain ⟨_, _, _, h, _⟩ := h; exact h.lt
theorem RdAt.later {w w' : World} {g p : Nat} (h : RdAt w g p) (hb : Below w.heap.size w w') : RdAt w' g p := by
  obtain ⟨a, len, cap, hr, h1, h2, h3, h4⟩ := h
  refine ⟨a, len, cap, hr.later hb, h1, h2, h3, ?_⟩
  rcases h4 with h4 | ⟨b, off, h5, h6, h7⟩
  · exact .inl h4
  · refine .inr ⟨b, off, h5, h6, fun i hi => ?_⟩
    obtain ⟨z, hz, hc⟩ := h7 i hi
    exact ⟨z, hz, (hb.cell (p := ⟨b, off + i, none⟩) (Nat.lt_trans h6 hr.lt)).trans hc⟩
/-- What a draw leaves. -/
def DrewAt (w : World) (g p n : Nat) (w' : World) : Prop := (∃ q, q ≤ p + n ∧ RdAt w' g q) ∧ w.grownBy w' (some g)
/-- A draw of a number below n. -/
def PickPost (w : World) (g p n : Nat) (e : Ending) (w' : World) : Prop := ∃ k : Nat, k < n ∧ e = .returned (.int .i64 (k : Int)) ∧ RdAt w' g (p + 1) ∧ w.grownBy w' (some g)
set_option maxHeartbeats 2000000 in
theorem s_pick (g p n : Nat) (z : Int) (w : World) (hz : z = (n : Int)) (hn : 1 ≤ n) (hn2 : n ≤ 100000) (hp : p ≤ 100000) (h : RdAt w g p) : Calls Try.prog 108 #[.pointer (some ⟨g, 0, none⟩), .int .i64 z] w (PickPost w g p n) := by
  subst hz
  obtain ⟨a, len, cap, hr, h1, h2, h3, h4⟩ := h
  have c0 : w.cell? ⟨g, 0, none⟩ = some (.slice a len cap) := hr.get 0
  have c1 : w.cell? ⟨g, 1, none⟩ = some (.int .i64 (p : Int)) := hr.get 1
  have f1 := hr.free 1
  have hr' : RowAt (w.setCell ⟨g, 1, none⟩ (.int .i64 ((p : Int) + 1))) g 111 #[.slice a len cap, .int .i64 ((p + 1 : Nat) : Int)] := heap_setCell_same w g 1 _ _ _ hr
  have hg' : w.grownBy (w.setCell ⟨g, 1, none⟩ (.int .i64 ((p : Int) + 1))) (some g) := grown_set (World.grownBy.refl w _)
  have hpost : ∀ (k : Nat) (m : Nat), k < n → PickPost w g p n (.returned (.int .i64 (k : Int))) ((w.setCell ⟨g, 1, none⟩ (.int .i64 ((p : Int) + 1))).drewN m) := fun k m hk => by
    refine ⟨k, hk, rfl, ⟨a, len, cap, hr'.drewN m, h1, h2, h3, ?_⟩, grown_drewN hg' m⟩
    rcases h4 with h4 | ⟨b, off, h5, h6, h7⟩
    · exact .inl h4
    · refine .inr ⟨b, off, h5, h6, fun i hi => ?_⟩
      obtain ⟨z, hz, hc⟩ := h7 i hi
      refine ⟨z, hz, ?_⟩
      show (w.setCell ⟨g, 1, none⟩ _).cell? ⟨b, off + i, none⟩ = _
      rw [World.cell?_of_block (w := w) (heap_setCell_other w ⟨g, 1, none⟩ b _ (by show b ≠ g; omega))]
      exact hc
  have HP := Lib.hid hpost; clear hpost hr' hg'
  by_cases h0 : len = 0
  · have b0 : ((len : Int) == 0) = true := by simp [h0]
    clear h4 h0
    go_enter Try.func108, Try.ntmps108
    go_wp2_with fail
    go_ret
    exact HP.out 0 0 (by omega)
  have b0 : ((len : Int) == 0) = false := by rw [beq_eq_false_iff_ne]; omega
  obtain ⟨b, off, ha, hbg, hcell⟩ := h4.resolve_left h0
  subst ha
  have hne : ∀ i v, (w.setCell ⟨g, 1, none⟩ v).cell? ⟨b, i, none⟩ = w.cell? ⟨b, i, none⟩ := fun i v => World.cell?_of_block (w := w) (heap_setCell_other w ⟨g, 1, none⟩ b v (by show b ≠ g; omega))
  by_cases hlt : p < len
  · obtain ⟨z, hz, hc⟩ := hcell p hlt
    have cz : (w.setCell ⟨g, 1, none⟩ (.int .i64 ((p : Int) + 1))).cell? ⟨b, off + p, none⟩ = some (.int .u8 (z : Int)) := (hne _ _).trans hc
    have hm : (z : Int) % (n : Int) = ((z % n : Nat) : Int) := by simp
    have HM := Lib.hid hm
    clear hcell hc hne h4 hm
    go_enter Try.func108, Try.ntmps108
    go_wp2_with fail
    go_ret
    show PickPost w g p n (.returned (.int .i64 ((z : Int) % (n : Int)))) _
    rw [HM.out]
    exact HP.out (z % n) 0 (Nat.mod_lt _ (by omega))
  · obtain ⟨z1, hz1, hc1⟩ := hcell (p % len) (Nat.mod_lt _ (by omega))
    obtain ⟨z2, hz2, hc2⟩ := hcell ((p * 7 + 3) % len) (Nat.mod_lt _ (by omega))
    have cz1 : (w.setCell ⟨g, 1, none⟩ (.int .i64 ((p : Int) + 1))).cell? ⟨b, off + p % len, none⟩ = some (.int .u8 (z1 : Int)) := (hne _ _).trans hc1
    have cz2 : (w.setCell ⟨g, 1, none⟩ (.int .i64 ((p : Int) + 1))).cell? ⟨b, off + (p * 7 + 3) % len, none⟩ = some (.int .u8 (z2 : Int)) := (hne _ _).trans hc2
    have g0 : (w.setCell ⟨g, 1, none⟩ (.int .i64 ((p : Int) + 1))).cell? ⟨g, 0, none⟩ = some (.slice (some ⟨b, off, none⟩) len cap) := (show RowAt _ g 111 _ from heap_setCell_same w g 1 _ _ (.int .i64 ((p : Int) + 1)) hr).get 0
    have i1 : (0 : Int) ≤ ((p % len : Nat) : Int) ∧ ((p % len : Nat) : Int) < (len : Int) := lt_cast (Nat.mod_lt _ (by omega))
    have i2 : (0 : Int) ≤ (((p * 7 + 3) % len : Nat) : Int) ∧ (((p * 7 + 3) % len : Nat) : Int) < (len : Int) := lt_cast (Nat.mod_lt _ (by omega))
    have i3 : (0 : Int) ≤ ((p : Int) * 7 + 3) % (len : Int) ∧ ((p : Int) * 7 + 3) % (len : Int) < (len : Int) := ⟨Int.emod_nonneg _ (by omega), Int.emod_lt_of_pos _ (by omega)⟩
    have i4 : (0 : Int) ≤ (p : Int) % (len : Int) ∧ (p : Int) % (len : Int) < (len : Int) := ⟨Int.emod_nonneg _ (by omega), Int.emod_lt_of_pos _ (by omega)⟩
    have t3 : (((p : Int) * 7 + 3) % (len : Int)).toNat = (p * 7 + 3) % len := by rw [show ((p : Int) * 7 + 3) % (len : Int) = (((p * 7 + 3) % len : Nat) : Int) from by simp]; rfl
    have m1 : ((p : Int)).tmod (len : Int) = ((p % len : Nat) : Int) := rfl
    have m2 : ((p : Int) * 7 + 3).tmod (len : Int) = (((p * 7 + 3) % len : Nat) : Int) := rfl
    obtain ⟨d, hdd⟩ : ∃ d, d = p / len := ⟨_, rfl⟩
    have m3 : ((p : Int)).tdiv (len : Int) = (d : Int) := by rw [hdd]; rfl
    have hd : d ≤ 100000 := by rw [hdd]; exact Nat.le_trans (Nat.div_le_self _ _) hp
    clear hdd
    have bl : ((len : Int) == 0) = false := b0
    have k1 : IntKind.i64.wrap ((z1 : Int) * 131) = (z1 : Int) * 131 := IntWalk.i64_in _ ⟨by omega, by omega⟩
    have k2 : IntKind.i64.wrap ((p : Int) * 7) = (p : Int) * 7 := IntWalk.i64_in _ ⟨by omega, by omega⟩
    have k3 : IntKind.i64.wrap ((p : Int) * 7 + 3) = (p : Int) * 7 + 3 := IntWalk.i64_in _ ⟨by omega, by omega⟩
    have k4 : IntKind.i64.wrap ((z2 : Int) * 1117) = (z2 : Int) * 1117 := IntWalk.i64_in _ ⟨by omega, by omega⟩
    have k5 : IntKind.i64.wrap ((z1 : Int) * 131 + (z2 : Int) * 1117) = (z1 : Int) * 131 + (z2 : Int) * 1117 := IntWalk.i64_in _ ⟨by omega, by omega⟩
    have k6 : IntKind.i64.wrap ((p : Int) * 29) = (p : Int) * 29 := IntWalk.i64_in _ ⟨by omega, by omega⟩
    have k7 : IntKind.i64.wrap ((z1 : Int) * 131 + (z2 : Int) * 1117 + (p : Int) * 29) = (z1 : Int) * 131 + (z2 : Int) * 1117 + (p : Int) * 29 := IntWalk.i64_in _ ⟨by omega, by omega⟩
    have k8 : IntKind.i64.wrap ((d : Int) * 53) = (d : Int) * 53 := IntWalk.i64_in _ ⟨by omega, by omega⟩
    have k9 : IntKind.i64.wrap ((z1 : Int) * 131 + (z2 : Int) * 1117 + (p : Int) * 29 + (d : Int) * 53) = (z1 : Int) * 131 + (z2 : Int) * 1117 + (p : Int) * 29 + (d : Int) * 53 := IntWalk.i64_in _ ⟨by omega, by omega⟩
    clear hcell hc1 hc2 hne h4 c0 hr
    go_enter Try.func108, Try.ntmps108
    go_wp2_with fail
    refine wp_region_quiet_lit (by kernel_rfl) (by kernel_rfl) ?_
    repeat (any_goals (first | go_big_quiet_step (fail) | quiet_step (fail)))
    all_goals (refine wpQuiet_nil ?_; intro _ hw'; obtain ⟨nq, hw''⟩ := hw'; subst hw'')
    obtain ⟨X, hX⟩ : ∃ X : Nat, (z1 : Int) * 131 + (z2 : Int) * 1117 + (p : Int) * 29 + (d : Int) * 53 = (X : Int) := ⟨z1 * 131 + z2 * 1117 + p * 29 + d * 53, by simp⟩
    have hXl : X < 2 ^ 40 := by omega
    have ex : bits .xor .i64 ((X : Nat) : Int) ((X : Int) / 64) = ((X ^^^ X / 64 : Nat) : Int) := by
      rw [show ((X : Int) / 64) = ((X / 64 : Nat) : Int) from by simp]
      exact bits_xor_nat X (X / 64) hXl (Nat.lt_of_le_of_lt (Nat.div_le_self _ _) hXl)
    clear k1 k2 k3 k4 k5 k6 k7 k8 k9 m1 m2 m3 i1 i2 i3 i4 t3 cz1 cz2
    go_wp2_with fail
    go_ret
    have hk := HP.out ((X ^^^ X / 64) % n) nq (Nat.mod_lt _ (by omega))
    rw [show (((X ^^^ X / 64) % n : Nat) : Int) = ((X ^^^ X / 64 : Nat) : Int) % (n : Int) from by simp] at hk
    exact hk
end Go.Proofs.Ytiaeakpgldpaiaa
namespace Go.Proofs.Ytiaeakpgldpaiaa
set_option linter.unusedSimpArgs false
set_option linter.unusedVariables false
set_option maxRecDepth 4000
open Go.RowKit

/-- The drawer after at most P draws. -/
def RdIn (w : World) (g P : Nat) : Prop := ∃ p, p ≤ P ∧ RdAt w g p
theorem RdIn.mono {w : World} {g P Q : Nat} (h : RdIn w g P) (hq : P ≤ Q) : RdIn w g Q := by obtain ⟨p, h1, h2⟩ := h; exact ⟨p, by omega, h2⟩
theorem RdIn.later {w w' : World} {g P : Nat} (h : RdIn w g P) (hb : Below w.heap.size w w') : RdIn w' g P := by obtain ⟨p, h1, h2⟩ := h; exact ⟨p, h1, h2.later hb⟩
theorem RdIn.lt {w : World} {g P : Nat} (h : RdIn w g P) : g < w.heap.size := by obtain ⟨p, h1, h2⟩ := h; exact h2.lt
theorem RdIn.alloc {w : World} {g P : Nat} (h : RdIn w g P) (o : Obj) : RdIn (w.alloc o) g P := h.later ((Below.refl _ _).alloc (Nat.le_refl _) _)
/-- A number below n. -/
def NumPost (w : World) (g P n : Nat) (e : Ending) (w' : World) : Prop := ∃ k : Nat, k < n ∧ e = .returned (.int .i64 (k : Int)) ∧ RdIn w' g (P + 1) ∧ w.grownBy w' (some g)
theorem s_pickIn (g P n : Nat) (z : Int) (w : World) (hz : z = (n : Int)) (hn : 1 ≤ n) (hn2 : n ≤ 100000) (hp : P ≤ 100000) (h : RdIn w g P) : Calls Try.prog 108 #[.pointer (some ⟨g, 0, none⟩), .int .i64 z] w (NumPost w g P n) := by
  obtain ⟨p, h1, h2⟩ := h
  exact (s_pick g p n z w hz hn hn2 (by omega) h2).mono fun e w' ⟨k, hk, he, hr, hg⟩ => ⟨k, hk, he, ⟨p + 1, by omega, hr⟩, hg⟩
/-- A number of a list. -/
def OfPost (w : World) (g P : Nat) (A : Value → Prop) (e : Ending) (w' : World) : Prop := ∃ v, A v ∧ e = .returned v ∧ RdIn w' g (P + 1) ∧ w.grownBy w' (some g)
theorem s_num (g P b : Nat) (zs : List Int) (w : World) (hn : 1 ≤ zs.length) (hn2 : zs.length ≤ 1000) (hp : P ≤ 100000) (h : RdIn w g P) (hb : b ≠ g) (hr : RowAt w b 3 (zs.map (Value.int .i64)).toArray) : Calls Try.prog 218 #[.pointer (some ⟨g, 0, none⟩), .slice (some ⟨b, 0, none⟩) zs.length zs.length] w (OfPost w g P (fun v => ∃ z, z ∈ zs ∧ v = .int .i64 z)) := by
  go_enter Try.func218, Try.ntmps218
  go_wp2_with fail
  refine (s_pickIn g P zs.length _ _ rfl hn (by omega) hp h).mono ?_
  rintro e w1 ⟨k, hk, rfl, h1, hg⟩
  have hz : zs[k]? = some zs[k] := List.getElem?_eq_getElem hk
  have c1 : w1.cell? ⟨b, k, none⟩ = some (.int .i64 zs[k]) := ((hr.grownR hg (fun e => hb (by injection e with e; exact e.symm))).get k).trans (by simp [hz])
  have i1 := lt_cast hk
  have H1 := Lib.hid h1; have HG := Lib.hid hg; clear h1 hg hz
  go_wp2_with fail
  go_ret
  exact ⟨_, ⟨zs[k], List.getElem_mem hk, rfl⟩, rfl, H1.out, HG.out⟩
theorem s_of (g P b : Nat) (ts : List ByteArray) (w : World) (hn : 1 ≤ ts.length) (hn2 : ts.length ≤ 1000) (hp : P ≤ 100000) (h : RdIn w g P) (hb : b ≠ g) (hr : RowAt w b 9 (ts.map Value.string).toArray) : Calls Try.prog 216 #[.pointer (some ⟨g, 0, none⟩), .slice (some ⟨b, 0, none⟩) ts.length ts.length] w (OfPost w g P (fun v => ∃ t, t ∈ ts ∧ v = .string t)) := by
  go_enter Try.func216, Try.ntmps216
  go_wp2_with fail
  refine (s_pickIn g P ts.length _ _ rfl hn (by omega) hp h).mono ?_
  rintro e w1 ⟨k, hk, rfl, h1, hg⟩
  have hz : ts[k]? = some ts[k] := List.getElem?_eq_getElem hk
  have c1 : w1.cell? ⟨b, k, none⟩ = some (.string ts[k]) := ((hr.grownR hg (fun e => hb (by injection e with e; exact e.symm))).get k).trans (by simp [hz])
  have i1 := lt_cast hk
  have H1 := Lib.hid h1; have HG := Lib.hid hg; clear h1 hg hz
  go_wp2_with fail
  go_ret
  exact ⟨_, ⟨ts[k], List.getElem_mem hk, rfl⟩, rfl, H1.out, HG.out⟩
/-- Some number; some text of a kind. -/
def IntPost (w : World) (g P : Nat) (e : Ending) (w' : World) : Prop := ∃ z : Int, e = .returned (.int .i64 z) ∧ RdIn w' g P ∧ w.grownBy w' (some g)
def TxtPost (w : World) (g P : Nat) (A : ByteArray → Prop) (e : Ending) (w' : World) : Prop := ∃ s, A s ∧ e = .returned (.string s) ∧ RdIn w' g P ∧ w.grownBy w' (some g)
theorem s_l1Some (g P : Nat) (w : World) (hp : P + 2 ≤ 100000) (h : RdIn w g P) : Calls Try.prog 143 #[.pointer (some ⟨g, 0, none⟩)] w (IntPost w g (P + 2)) := by
  go_enter Try.func143, Try.ntmps143
  go_wp2_with fail
  refine (s_pickIn g P 24 _ _ rfl (by omega) (by omega) (by omega) h).mono ?_
  rintro e w1 ⟨k, hk, rfl, h1, hg⟩
  have HG := Lib.hid hg; clear hg
  by_cases h0 : k = 0
  · have b0 : ((k : Int) == 0) = true := by simp [h0]
    have hr := RowAt.fresh w1 3 (([-1, 16, 9223372036854775807] : List Int).map (Value.int .i64)).toArray
    have hlt := h1.lt
    have H1 := Lib.hid (h1.alloc (.cells (([-1, 16, 9223372036854775807] : List Int).map (Value.int .i64)).toArray 3)); have HR := Lib.hid hr
    clear h0 hr h1
    go_wp2_with fail
    refine (s_num g (P + 1) w1.heap.size [-1, 16, 9223372036854775807] _ (by decide) (by decide) (by omega) H1.out (by omega) HR.out).mono ?_
    rintro e w2 ⟨v, ⟨z, _, rfl⟩, rfl, h2, hg2⟩
    have H2 := Lib.hid h2; have HG2 := Lib.hid hg2; clear h2 hg2
    go_wp2_with fail
    go_ret
    exact ⟨_, rfl, H2.out, grown_trans (grown_alloc HG.out _) HG2.out⟩
  · have b0 : ((k : Int) == 0) = false := by rw [beq_eq_false_iff_ne]; omega
    have H1 := Lib.hid h1; clear h0 h1
    go_wp2_with fail
    refine (s_pickIn g (P + 1) 16 _ _ rfl (by omega) (by omega) (by omega) H1.out).mono ?_
    rintro e w2 ⟨j, hj, rfl, h2, hg2⟩
    have H2 := Lib.hid h2; have HG2 := Lib.hid hg2; clear h2 hg2
    go_wp2_with fail
    go_ret
    exact ⟨_, rfl, H2.out, grown_trans HG.out HG2.out⟩
theorem hexChr_dig (s : ByteArray) (n : Nat) (k : Nat) (h : Dg k s) (hn : n < 16) : Dg (k + 1) (s ++ (⟨#[hexChr n]⟩ : ByteArray)) := by
  have e : s ++ (⟨#[hexChr n]⟩ : ByteArray) = txt (k + 1) (fun i => if i < k then dig s i else n) := by
    rw [← txt_snoc k (fun i => if i < k then dig s i else n)]
    congr 1
    · rw [txt_congr (n := k) (F := fun i => if i < k then dig s i else n) (G := dig s) fun i hi => by rw [if_pos hi], txt_of s k h.1 h.2]
    · rw [if_neg (Nat.lt_irrefl k)]
  rw [e]
  exact Dg.txt fun i _ => by split; exact dig_lt _ _; exact hn
theorem Dg_nil : Dg 0 ⟨#[]⟩ := ⟨rfl, rfl⟩
theorem Dg_size {k : Nat} {s : ByteArray} (h : Dg k s) : s.size = k := h.1
set_option maxHeartbeats 2000000 in
theorem s_l2Some (g P : Nat) (w : World) (hp : P + 9 ≤ 100000) (h : RdIn w g P) : Calls Try.prog 109 #[.pointer (some ⟨g, 0, none⟩)] w (TxtPost w g (P + 9) (Dg 4)) := by
  go_enter Try.func109, Try.ntmps109
  go_wp2_with fail
  refine (s_pickIn g P 4 _ _ rfl (by omega) (by omega) (by omega) h).mono ?_
  rintro e w1 ⟨c, hc, rfl, h1, hg⟩
  have HG := Lib.hid hg; have H1 := Lib.hid h1; clear hg h1
  have hcs : c = 0 ∨ c = 1 ∨ (c ≠ 0 ∧ c ≠ 1) := by omega
  rcases hcs with h0 | h0 | h0
  · have b0 : ((c : Int) == 0) = true := by simp [h0]
    have b1 : ((c : Int) == 1) = false := by simp [h0]
    clear h0
    go_wp2_with fail
    go_loopw [3, 5] (fun o i wr => ∃ (k : Nat) (s : ByteArray), k ≤ 4 ∧ i = .int .i64 k ∧ o = .string s ∧ Hid (Dg k s) ∧ Hid (RdIn wr g (P + 1 + 2 * k)) ∧ Hid (w.grownBy wr (some g))) (fun _ i _ => 4 - (intOf i).toNat)
    case atStart => exact ⟨0, ⟨#[]⟩, by omega, rfl, rfl, Lib.hid Dg_nil, H1, HG⟩
    case round =>
      obtain ⟨k, s, hk, rfl, rfl, HD, HRD, HGR⟩ := hrel
      by_cases hlt : k < 4
      · have hsz : s.size ≤ 4 := by have := Dg_size HD.out; omega
        go_wp2_with fail
        refine (s_pickIn g (P + 1 + 2 * k) 16 _ _ rfl (by omega) (by omega) (by omega) HRD.out).mono ?_
        rintro e w2 ⟨n, hn, rfl, h2, hg2⟩
        have H2 := Lib.hid h2
        have HG2 := Lib.hid (grown_trans HGR.out hg2)
        clear h2 hg2
        go_wp2_with fail
        refine (s_pickIn g (P + 1 + 2 * k + 1) 4 _ _ rfl (by omega) (by omega) (by omega) H2.out).mono ?_
        rintro e w3 ⟨m, hm, rfl, h3, hg3⟩
        have H3 := Lib.hid h3
        have HG3 := Lib.hid (grown_trans HG2.out hg3)
        clear h3 hg3
        have hw := wrap_one (t := m) (by omega)
        have ho := one_lt hm
        have HD' := Lib.hid (hexChr_dig s (one m) k HD.out ho)
        go_wp2_with fail
        refine (s_l2Digit _ _ ho).mono ?_
        rintro e w' ⟨rfl, rfl⟩
        go_wp2_with fail
        go_roundw
        case rel => exact ⟨k + 1, _, by omega, by go_num, rfl, HD', Lib.hid (H3.out.mono (by omega)), HG3⟩
        case measure => simp [intOf]; omega
      · obtain rfl : k = 4 := by omega
        go_wp2_with fail
        go_ret
        exact ⟨s, HD.out, rfl, HRD.out.mono (by omega), HGR.out⟩
  · have b0 : ((c : Int) == 0) = false := by simp [h0]
    have b1 : ((c : Int) == 1) = true := by simp [h0]
    clear h0
    go_wp2_with fail
    go_loopw [3, 5] (fun o i wr => ∃ (k : Nat) (s : ByteArray), k ≤ 4 ∧ i = .int .i64 k ∧ o = .string s ∧ Hid (Dg k s) ∧ Hid (RdIn wr g (P + 1 + 2 * k)) ∧ Hid (w.grownBy wr (some g))) (fun _ i _ => 4 - (intOf i).toNat)
    case atStart => exact ⟨0, ⟨#[]⟩, by omega, rfl, rfl, Lib.hid Dg_nil, H1, HG⟩
    case round =>
      obtain ⟨k, s, hk, rfl, rfl, HD, HRD, HGR⟩ := hrel
      by_cases hlt : k < 4
      · have hsz : s.size ≤ 4 := by have := Dg_size HD.out; omega
        go_wp2_with fail
        refine (s_pickIn g (P + 1 + 2 * k) 16 _ _ rfl (by omega) (by omega) (by omega) HRD.out).mono ?_
        rintro e w2 ⟨n, hn, rfl, h2, hg2⟩
        have H2 := Lib.hid h2
        have HG2 := Lib.hid (grown_trans HGR.out hg2)
        clear h2 hg2
        go_wp2_with fail
        refine (s_pickIn g (P + 1 + 2 * k + 1) 16 _ _ rfl (by omega) (by omega) (by omega) H2.out).mono ?_
        rintro e w3 ⟨m, hm, rfl, h3, hg3⟩
        have H3 := Lib.hid h3
        have HG3 := Lib.hid (grown_trans HG2.out hg3)
        clear h3 hg3
        have e1 := bits_and_nat n m (by omega) (by omega)
        have ho : n &&& m < 16 := and_lt hn
        have HD' := Lib.hid (hexChr_dig s (n &&& m) k HD.out ho)
        go_wp2_with fail
        refine (s_l2Digit _ _ ho).mono ?_
        rintro e w' ⟨rfl, rfl⟩
        go_wp2_with fail
        go_roundw
        case rel => exact ⟨k + 1, _, by omega, by go_num, rfl, HD', Lib.hid (H3.out.mono (by omega)), HG3⟩
        case measure => simp [intOf]; omega
      · obtain rfl : k = 4 := by omega
        go_wp2_with fail
        go_ret
        exact ⟨s, HD.out, rfl, HRD.out.mono (by omega), HGR.out⟩
  · have b0 : ((c : Int) == 0) = false := by rw [beq_eq_false_iff_ne]; omega
    have b1 : ((c : Int) == 1) = false := by rw [beq_eq_false_iff_ne]; omega
    clear h0
    go_wp2_with fail
    go_loopw [3, 5] (fun o i wr => ∃ (k : Nat) (s : ByteArray), k ≤ 4 ∧ i = .int .i64 k ∧ o = .string s ∧ Hid (Dg k s) ∧ Hid (RdIn wr g (P + 1 + 2 * k)) ∧ Hid (w.grownBy wr (some g))) (fun _ i _ => 4 - (intOf i).toNat)
    case atStart => exact ⟨0, ⟨#[]⟩, by omega, rfl, rfl, Lib.hid Dg_nil, H1, HG⟩
    case round =>
      obtain ⟨k, s, hk, rfl, rfl, HD, HRD, HGR⟩ := hrel
      by_cases hlt : k < 4
      · have hsz : s.size ≤ 4 := by have := Dg_size HD.out; omega
        go_wp2_with fail
        refine (s_pickIn g (P + 1 + 2 * k) 16 _ _ rfl (by omega) (by omega) (by omega) HRD.out).mono ?_
        rintro e w2 ⟨n, hn, rfl, h2, hg2⟩
        have H2 := Lib.hid h2
        have HG2 := Lib.hid (grown_trans HGR.out hg2)
        clear h2 hg2
        have H3 := H2
        have HG3 := HG2
        have HD' := Lib.hid (hexChr_dig s n k HD.out hn)
        go_wp2_with fail
        refine (s_l2Digit _ _ hn).mono ?_
        rintro e w' ⟨rfl, rfl⟩
        go_wp2_with fail
        go_roundw
        case rel => exact ⟨k + 1, _, by omega, by go_num, rfl, HD', Lib.hid (H3.out.mono (by omega)), HG3⟩
        case measure => simp [intOf]; omega
      · obtain rfl : k = 4 := by omega
        go_wp2_with fail
        go_ret
        exact ⟨s, HD.out, rfl, HRD.out.mono (by omega), HGR.out⟩
end Go.Proofs.Ytiaeakpgldpaiaa
namespace Go.Proofs.Ytiaeakpgldpaiaa
set_option linter.unusedSimpArgs false
set_option linter.unusedVariables false
set_option maxRecDepth 4000
open Go.RowKit

theorem or16_lt {a b : Nat} (h : a < 65536) (h' : b < 65536) : a ||| b < 65536 := Nat.or_lt_two_pow (n := 16) h h'
set_option maxHeartbeats 1000000 in
theorem s_l1Up (f : Nat) (w : World) (hf : f < 65536) : Calls Try.prog 255 #[.int .i64 (f : Int)] w fun e w' => (∃ m : Nat, m < 65536 ∧ e = .returned (.int .i64 (m : Int))) ∧ w = w' := by
  go_enter Try.func255, Try.ntmps255
  go_wp2_with fail
  go_loop [3, 4] (fun o i => ∃ k m : Nat, k ≤ 16 ∧ i = .int .i64 k ∧ m < 65536 ∧ o = .int .i64 m) (fun _ i => 16 - (intOf i).toNat)
  case atStart => exact ⟨0, 0, by omega, rfl, by omega, rfl⟩
  case round =>
    obtain ⟨k, m, hk, rfl, hm, rfl⟩ := hrel
    by_cases hlt : k < 16
    · have hd : decide ((k : Int) < 16) = true := by simp; omega
      go_wp2_with fail
      clear hd
      go_loop [3, 5] (fun o i => ∃ j m : Nat, j ≤ 16 ∧ i = .int .i64 j ∧ m < 65536 ∧ o = .int .i64 m) (fun _ i => 16 - (intOf i).toNat)
      case atStart => exact ⟨0, m, by omega, rfl, hm, rfl⟩
      case round =>
        obtain ⟨j, m', hj, rfl, hm', rfl⟩ := hrel
        by_cases hlj : j < 16
        · have hd : decide ((j : Int) < 16) = true := by simp; omega
          cases hb : f.testBit k
          · have HB := Lib.hid hb; clear hb
            go_wp2_with fail
            refine (s_l1Has f k _ hf (by omega)).mono ?_
            rw [HB.out]
            rintro e w' ⟨rfl, rfl⟩
            clear hd
            go_wp2_with fail
            go_round
            case rel => exact ⟨k + 1, m', by omega, by go_num, hm', rfl⟩
            case measure => simp [intOf]; omega
          · have HB := Lib.hid hb; clear hb
            have e1 := bits_andn_nat k j hlt hlj
            have e2 := wrap_one hlj
            have e3 := bits_or_nat m' (one j) hm' (one_lt16 hlj)
            have ho := or16_lt hm' (one_lt16 hlj)
            by_cases hz : andn k j = 0
            · have b1 : ((andn k j : Int) == 0) = true := by rw [hz]; simp
              clear hz
              go_wp2_with fail
              refine (s_l1Has f k _ hf (by omega)).mono ?_
              rw [HB.out]
              rintro e w' ⟨rfl, rfl⟩
              go_wp2_with fail
              go_round
              case rel => exact ⟨j + 1, _, by omega, by go_num, ho, rfl⟩
              case measure => simp [intOf]; omega
            · have b1 : ((andn k j : Int) == 0) = false := by rw [beq_eq_false_iff_ne]; omega
              clear hz
              go_wp2_with fail
              refine (s_l1Has f k _ hf (by omega)).mono ?_
              rw [HB.out]
              rintro e w' ⟨rfl, rfl⟩
              go_wp2_with fail
              go_round
              case rel => exact ⟨j + 1, _, by omega, by go_num, hm', rfl⟩
              case measure => simp [intOf]; omega
        · obtain rfl : j = 16 := by omega
          go_wp2_with fail
          go_round
          case rel => exact ⟨k + 1, m', by omega, by go_num, hm', rfl⟩
          case measure => simp [intOf]; omega
    · obtain rfl : k = 16 := by omega
      go_wp2_with fail
      go_ret
      exact ⟨⟨m, hm, rfl⟩, rfl⟩
theorem s_FamilyValid (f : Nat) (w : World) (hf : f < 65536) : Calls Try.prog 254 #[.int .i64 (f : Int)] w fun e w' => e = .returned (.bool true) ∧ w = w' := by
  have hb : (decide ((0 : Int) ≤ (f : Int)) && decide ((f : Int) ≤ 65535)) = true := by simp; omega
  have HB := Lib.hid hb; clear hb
  go_enter Try.func254, Try.ntmps254
  go_wp2_with fail
  refine (s_l1In _ _ _ _).mono ?_
  rw [HB.out]
  rintro e w' ⟨rfl, rfl⟩
  go_wp2_with fail
  go_ret
  exact ⟨rfl, rfl⟩
/-- Four families. -/
def Fams (zs : List Int) : Prop := ∀ z, z ∈ zs → ∃ f : Nat, f < 65536 ∧ z = (f : Int)
set_option maxHeartbeats 1000000 in
theorem s_TransOf (B : Nat) (v : Value) (zs : List Int) (w : World) (hl : zs.length = 4) (hz : Fams zs) (hv : IntsAt B w v zs) : Calls Try.prog 252 #[v] w fun e w' => (∃ s, Dg 16 s ∧ e = .returned (.tuple #[.string s, .bool true])) ∧ w = w' := by
  obtain ⟨g, cap, cur, rfl, _, a3, a4, a5, a6, a7⟩ := hv
  rw [hl] at a5 ⊢
  have hcell : ∀ k, k < 4 → ∃ f : Nat, f < 65536 ∧ w.cell? ⟨g, k, none⟩ = some (.int .i64 (f : Int)) := fun k hk => by
    have hlk : k < zs.length := by omega
    obtain ⟨f, hf, he⟩ := hz zs[k] (List.getElem_mem hlk)
    exact ⟨f, hf, (a3.get k).trans ((a7 k _ (List.getElem?_eq_getElem hlk)).trans (by rw [he]))⟩
  have HC := Lib.hid hcell; clear hcell a3 a4 a7 hz hl
  go_enter Try.func252, Try.ntmps252
  go_wp2_with fail
  go_loop [4] (fun i => ∃ k : Nat, k ≤ 4 ∧ i = .int .i64 k) (fun i => 4 - (intOf i).toNat)
  case atStart => exact ⟨0, by omega, rfl⟩
  case round =>
    obtain ⟨k, hk, rfl⟩ := hrel
    by_cases hlt : k < 4
    · obtain ⟨f, hf, c1⟩ := HC.out k hlt
      have i1 := lt_cast hlt
      go_wp2_with fail
      refine (s_FamilyValid f _ hf).mono ?_
      rintro e w' ⟨rfl, rfl⟩
      go_wp2_with fail
      go_round
      case rel => exact ⟨k + 1, by omega, by go_num⟩
      case measure => simp [intOf]; omega
    · obtain rfl : k = 4 := by omega
      go_wp2_with fail
      go_loop [5, 6] (fun o i => ∃ (k : Nat) (s : ByteArray), k ≤ 16 ∧ i = .int .i64 k ∧ o = .string s ∧ Hid (Dg k s)) (fun _ i => 16 - (intOf i).toNat)
      case atStart => exact ⟨0, ⟨#[]⟩, by omega, rfl, rfl, Lib.hid Dg_nil⟩
      case round =>
        obtain ⟨k, s, hk, rfl, rfl, HD⟩ := hrel
        by_cases hlt : k < 16
        · have hd : decide ((k : Int) < 16) = true := by simp; omega
          have hsz : s.size ≤ 16 := by have := Dg_size HD.out; omega
          go_wp2_with fail
          clear hd
          go_loop [7, 8] (fun o i => ∃ j m : Nat, j ≤ 4 ∧ i = .int .i64 j ∧ m < 16 ∧ o = .int .i64 m) (fun _ i => 4 - (intOf i).toNat)
          case atStart => exact ⟨0, 0, by omega, rfl, by omega, rfl⟩
          case round =>
            obtain ⟨j, m, hj, rfl, hm, rfl⟩ := hrel
            by_cases hlj : j < 4
            · obtain ⟨f, hf, c1⟩ := HC.out j hlj
              have i1 := lt_cast hlj
              have e2 := wrap_one (t := j) (by omega)
              have ho := one_lt hlj
              have e3 := bits_or_nat m (one j) (by omega) (by omega)
              have hom := or_lt hm ho
              go_wp2_with fail
              refine (s_l1Up f _ hf).mono ?_
              rintro e w' ⟨⟨u, hu, rfl⟩, rfl⟩
              cases hb : u.testBit k
              · have HB := Lib.hid hb; clear hb
                go_wp2_with fail
                refine (s_l1Has u k _ hu (by omega)).mono ?_
                rw [HB.out]
                rintro e w' ⟨rfl, rfl⟩
                go_wp2_with fail
                go_round
                case rel => exact ⟨j + 1, m, by omega, by go_num, hm, rfl⟩
                case measure => simp [intOf]; omega
              · have HB := Lib.hid hb; clear hb
                go_wp2_with fail
                refine (s_l1Has u k _ hu (by omega)).mono ?_
                rw [HB.out]
                rintro e w' ⟨rfl, rfl⟩
                go_wp2_with fail
                go_round
                case rel => exact ⟨j + 1, _, by omega, by go_num, hom, rfl⟩
                case measure => simp [intOf]; omega
            · obtain rfl : j = 4 := by omega
              have HD' := Lib.hid (hexChr_dig s m k HD.out hm)
              go_wp2_with fail
              refine (s_l2Digit _ _ hm).mono ?_
              rintro e w' ⟨rfl, rfl⟩
              go_wp2_with fail
              go_round
              case rel => exact ⟨k + 1, _, by omega, by go_num, rfl, HD'⟩
              case measure => simp [intOf]; omega
        · obtain rfl : k = 16 := by omega
          go_wp2_with fail
          go_ret2
          exact ⟨⟨s, HD.out, rfl⟩, rfl⟩
end Go.Proofs.Ytiaeakpgldpaiaa
namespace Go.Proofs.Ytiaeakpgldpaiaa
set_option linter.unusedSimpArgs false
set_option linter.unusedVariables false
set_option maxRecDepth 4000
open Go.RowKit

theorem grown_own {a b c : World} {r row : Option Nat} (h : a.grownBy b r) (k : b.grownBy c row) (hr : ∀ j, row = some j → a.heap.size ≤ j) : a.grownBy c r :=
  ⟨k.os.trans h.os, k.tape.trans h.tape, k.output.trans h.output, Nat.le_trans h.size k.size, fun i hi hne => (k.block i (Nat.lt_of_lt_of_le hi h.size) (fun e => by have := hr i e.symm; omega)).trans (h.block i hi hne)⟩
theorem RdAt.kept {w w' : World} {g p : Nat} {row : Option Nat} (h : RdAt w g p) (hg : w.grownBy w' row) (hne : ∀ j, row = some j → g < j) : RdAt w' g p := by
  obtain ⟨a, len, cap, hr, h1, h2, h3, h4⟩ := h
  refine ⟨a, len, cap, hr.grownR hg (fun e => by have := hne _ e; omega), h1, h2, h3, ?_⟩
  rcases h4 with h4 | ⟨b, off, h5, h6, h7⟩
  · exact .inl h4
  · refine .inr ⟨b, off, h5, h6, fun i hi => ?_⟩
    obtain ⟨z, hz, hc⟩ := h7 i hi
    exact ⟨z, hz, hg.cell hc (fun e => by have h9 : g < b := hne _ e.symm; omega)⟩
theorem RdIn.kept {w w' : World} {g P : Nat} {row : Option Nat} (h : RdIn w g P) (hg : w.grownBy w' row) (hne : ∀ j, row = some j → g < j) : RdIn w' g P := by
  obtain ⟨p, h1, h2⟩ := h
  exact ⟨p, h1, h2.kept hg hne⟩
theorem IntsAt.keptR {B g : Nat} {w w' : World} {v : Value} {zs : List Int} (h : IntsAt B w v zs) (hg : w.grownBy w' (some g)) (hgB : g < B) : IntsAt B w' v zs :=
  h.kept hg fun g' hg' => by
    obtain ⟨g2, h2, h3, _⟩ := h.block
    rw [hg'] at h2
    cases h2
    omega
set_option maxHeartbeats 2000000 in
theorem s_l3Some (g P : Nat) (w : World) (hp : P + 20 ≤ 100000) (h : RdIn w g P) : Calls Try.prog 244 #[.pointer (some ⟨g, 0, none⟩)] w (TxtPost w g (P + 20) (Dg 16)) := by
  go_enter Try.func244, Try.ntmps244
  go_wp2_with fail
  refine (s_pickIn g P 6 _ _ rfl (by omega) (by omega) (by omega) h).mono ?_
  rintro e w1 ⟨c, hc, rfl, h1, hg⟩
  have hcs : c = 0 ∨ c = 1 ∨ c = 2 ∨ c = 3 ∨ 4 ≤ c := by omega
  rcases hcs with h0 | h0 | h0 | h0 | h0
  · have b0 : ((c : Int) == 0) = true := by rw [h0]; rfl
    have b1 : ((c : Int) == 1) = false := by rw [h0]; rfl
    have b2 : ((c : Int) == 2) = false := by rw [h0]; rfl
    have b3 : ((c : Int) == 3) = false := by rw [h0]; rfl
    have HG := Lib.hid hg; have H1 := Lib.hid h1; clear hg h1 h0
    go_wp2_with fail
    refine (s_l2Some g (P + 1) _ (by omega) H1.out).mono ?_
    rintro e w2 ⟨r, hr, rfl, h2, hg2⟩
    have HR := Lib.hid hr; have H2 := Lib.hid h2; have HG2 := Lib.hid (grown_trans HG.out hg2); clear hr h2 hg2
    go_wp2_with fail
    refine (s_l3Angel r _ HR.out).mono ?_
    rintro e w' ⟨rfl, rfl⟩
    go_wp2_with fail
    go_ret
    exact ⟨_, Dg.txt (fun i _ => fDia_lt _ _), rfl, H2.out.mono (by omega), HG2.out⟩
  · have b0 : ((c : Int) == 0) = false := by rw [h0]; rfl
    have b1 : ((c : Int) == 1) = true := by rw [h0]; rfl
    have b2 : ((c : Int) == 2) = false := by rw [h0]; rfl
    have b3 : ((c : Int) == 3) = false := by rw [h0]; rfl
    have HG := Lib.hid hg; have H1 := Lib.hid h1; clear hg h1 h0
    go_wp2_with fail
    refine (s_l2Some g (P + 1) _ (by omega) H1.out).mono ?_
    rintro e w2 ⟨r, hr, rfl, h2, hg2⟩
    have HR := Lib.hid hr; have H2 := Lib.hid h2; have HG2 := Lib.hid (grown_trans HG.out hg2); clear hr h2 hg2
    go_wp2_with fail
    refine (s_l3Angel r _ HR.out).mono ?_
    rintro e w' ⟨rfl, rfl⟩
    go_wp2_with fail
    refine (s_l3Dual _ _ (Dg.txt (fun i _ => fDia_lt _ _))).mono ?_
    rintro e w' ⟨rfl, rfl⟩
    go_wp2_with fail
    go_ret
    exact ⟨_, Dg.txt (fun i _ => andn_lt (by omega)), rfl, H2.out.mono (by omega), HG2.out⟩
  · have b0 : ((c : Int) == 0) = false := by rw [h0]; rfl
    have b1 : ((c : Int) == 1) = false := by rw [h0]; rfl
    have b2 : ((c : Int) == 2) = true := by rw [h0]; rfl
    have b3 : ((c : Int) == 3) = false := by rw [h0]; rfl
    have HG := Lib.hid hg; have H1 := Lib.hid h1; clear hg h1 h0
    go_wp2_with fail
    refine (s_l2Some g (P + 1) _ (by omega) H1.out).mono ?_
    rintro e w2 ⟨r, hr, rfl, h2, hg2⟩
    have HR := Lib.hid hr; have H2 := Lib.hid h2; have HG2 := Lib.hid (grown_trans HG.out hg2); clear hr h2 hg2
    go_wp2_with fail
    refine (s_l3Angel r _ HR.out).mono ?_
    rintro e w' ⟨rfl, rfl⟩
    go_wp2_with fail
    refine (s_l2Some g (P + 1 + 9) _ (by omega) H2.out).mono ?_
    rintro e w3 ⟨q, hq, rfl, h3, hg3⟩
    have HQ := Lib.hid hq; have H3 := Lib.hid h3; have HG3 := Lib.hid (grown_trans HG2.out hg3); clear hq h3 hg3
    go_wp2_with fail
    refine (s_l3Angel q _ HQ.out).mono ?_
    rintro e w' ⟨rfl, rfl⟩
    go_wp2_with fail
    refine (s_l3Dual _ _ (Dg.txt (fun i _ => fDia_lt _ _))).mono ?_
    rintro e w' ⟨rfl, rfl⟩
    go_wp2_with fail
    refine (s_l3Then _ _ _ (Dg.txt (fun i _ => fDia_lt _ _)) (Dg.txt (fun i _ => andn_lt (by omega)))).mono ?_
    rintro e w' ⟨rfl, rfl⟩
    go_wp2_with fail
    go_ret
    exact ⟨_, Dg.txt (fun i _ => dig_lt _ _), rfl, H3.out.mono (by omega), HG3.out⟩
  · have b0 : ((c : Int) == 0) = false := by rw [h0]; rfl
    have b1 : ((c : Int) == 1) = false := by rw [h0]; rfl
    have b2 : ((c : Int) == 2) = false := by rw [h0]; rfl
    have b3 : ((c : Int) == 3) = true := by rw [h0]; rfl
    have HG := Lib.hid hg; have H1 := Lib.hid h1; clear hg h1 h0
    go_wp2_with fail
    refine (s_pickIn g (P + 1) 16 _ _ rfl (by omega) (by omega) (by omega) H1.out).mono ?_
    rintro e w2 ⟨r, hr, rfl, h2, hg2⟩
    have H2 := Lib.hid h2; have HG2 := Lib.hid (grown_trans HG.out hg2); clear h2 hg2
    go_wp2_with fail
    refine (s_l3Assert r _ hr).mono ?_
    rintro e w' ⟨rfl, rfl⟩
    go_wp2_with fail
    refine (s_l2Some g (P + 1 + 1) _ (by omega) H2.out).mono ?_
    rintro e w3 ⟨q, hq, rfl, h3, hg3⟩
    have HQ := Lib.hid hq; have H3 := Lib.hid h3; have HG3 := Lib.hid (grown_trans HG2.out hg3); clear hq h3 hg3
    go_wp2_with fail
    refine (s_l3Angel q _ HQ.out).mono ?_
    rintro e w' ⟨rfl, rfl⟩
    go_wp2_with fail
    refine (s_l3Dual _ _ (Dg.txt (fun i _ => fDia_lt _ _))).mono ?_
    rintro e w' ⟨rfl, rfl⟩
    go_wp2_with fail
    refine (s_l3Then _ _ _ (Dg.txt (fun i _ => and_lt hr)) (Dg.txt (fun i _ => andn_lt (by omega)))).mono ?_
    rintro e w' ⟨rfl, rfl⟩
    go_wp2_with fail
    go_ret
    exact ⟨_, Dg.txt (fun i _ => dig_lt _ _), rfl, H3.out.mono (by omega), HG3.out⟩
  · have b0 : ((c : Int) == 0) = false := by rw [beq_eq_false_iff_ne]; omega
    have b1 : ((c : Int) == 1) = false := by rw [beq_eq_false_iff_ne]; omega
    have b2 : ((c : Int) == 2) = false := by rw [beq_eq_false_iff_ne]; omega
    have b3 : ((c : Int) == 3) = false := by rw [beq_eq_false_iff_ne]; omega
    have hgw := h1.lt
    have hgs := h.lt
    have hsz1 := hg.size
    have hr0 : RowAt (w1.alloc (.cells #[] 3)) w1.heap.size 3 #[] := RowAt.fresh w1 3 #[]
    have hi0 := IntsAt.of_lit (B := w.heap.size) (zs := []) hsz1 hr0 (by unfold maxLen; simp)
    obtain ⟨i0, hi, hz0, hz1, hz2⟩ := info_parts infoInt
    have HI := Lib.hid hi; have HZ0 := Lib.hid hz0; have HZ1 := Lib.hid hz1; have HZ2 := Lib.hid hz2
    have HI0 := Lib.hid hi0
    have HG := Lib.hid (grown_alloc hg (.cells #[] 3)); have H1 := Lib.hid (h1.alloc (.cells #[] 3))
    clear hg h1 hr0 hi0 hi hz0 hz1 hz2 h hgw h0
    go_wp2_with fail
    go_loopw [3, 4] (fun v i wr => ∃ (k : Nat) (zs : List Int), k ≤ 4 ∧ i = .int .i64 k ∧ Hid (zs.length = k ∧ Fams zs) ∧ Hid (IntsAt w.heap.size wr v zs) ∧ Hid (RdIn wr g (P + 1 + 4 * k)) ∧ Hid (w.grownBy wr (some g))) (fun _ i _ => 4 - (intOf i).toNat)
    case atStart => exact ⟨0, [], by omega, rfl, Lib.hid ⟨rfl, fun z hz => by simp at hz⟩, HI0, H1, HG⟩
    case round =>
      obtain ⟨k, zs, hk, rfl, HZ, HV, HRD, HGR⟩ := hrel
      by_cases hlt : k < 4
      · have hd : decide ((k : Int) < 4) = true := by simp; omega
        go_wp2_with fail
        refine (s_pickIn g (P + 1 + 4 * k) 4 _ _ rfl (by omega) (by omega) (by omega) HRD.out).mono ?_
        rintro e w2 ⟨n, hn, rfl, h2, hg2⟩
        have H2 := Lib.hid h2
        have HG2 := Lib.hid (grown_trans HGR.out hg2)
        have HV2 := Lib.hid (HV.out.keptR hg2 hgs)
        clear h2 hg2 HV HRD HGR
        go_wp2_with fail
        clear hd
        go_loopw [5, 6] (fun o i wr => ∃ j m : Nat, j ≤ 3 ∧ i = .int .i64 j ∧ m < 65536 ∧ o = .int .i64 m ∧ Hid (IntsAt w.heap.size wr _ zs) ∧ Hid (RdIn wr g (P + 1 + 4 * k + 1 + (3 - j))) ∧ Hid (w.grownBy wr (some g))) (fun _ i _ => (intOf i).toNat)
        case atStart => exact ⟨n, 0, by omega, rfl, by omega, rfl, HV2, Lib.hid (H2.out.mono (by omega)), HG2⟩
        case round =>
          obtain ⟨j, m, hj, rfl, hm, rfl, HV3, H3, HG3⟩ := hrel
          by_cases hlj : 0 < j
          · have hd2 : decide ((0 : Int) < (j : Int)) = true := by simp; omega
            go_wp2_with fail
            refine (s_pickIn g (P + 1 + 4 * k + 1 + (3 - j)) 16 _ _ rfl (by omega) (by omega) (by omega) H3.out).mono ?_
            rintro e w4 ⟨q, hq, rfl, h4, hg4⟩
            have H4 := Lib.hid h4
            have HG4 := Lib.hid (grown_trans HG3.out hg4)
            have HV4 := Lib.hid (HV3.out.keptR hg4 hgs)
            clear h4 hg4 hd2
            have e2 := wrap_one hq
            have e3 := bits_or_nat m (one q) hm (one_lt16 hq)
            have ho := or16_lt hm (one_lt16 hq)
            go_wp2_with fail
            go_roundw
            case rel => exact ⟨j - 1, _, by omega, by go_num, ho, rfl, HV4, Lib.hid (H4.out.mono (by omega)), HG4⟩
            case measure => simp [intOf]; omega
          · obtain rfl : j = 0 := by omega
            have hown := HV3.out.owns
            rw [HZ.out.1] at hown
            have hsz := HG3.out.size
            go_wp2_with (at_builtin; refine wpList_append_lies _ rfl _ _ _ rfl w.heap.size 3 i0 (.int .i64 0) 1 8 Try.underlying50 HI.out HZ0.out HZ1.out HZ2.out rfl (by decide) _ _ _ rfl (hown.alloc _) ⟨wr.heap.size, 0, none⟩ 1 1 [.int .i64 (m : Int)] rfl rfl (World.news_of_block (heap_alloc_new wr _)) ?c2 (by decide) ?c3 ?c4 ?c5 _ rfl ?_)
            case c2 => simp [Value.oneCell']
            case c3 => unfold maxLen; omega
            case c4 => omega
            case c5 => first | omega | (simp; omega)
            intro g' cap w5 hown1 hgrow hlies hglt
            have hlt' := fun j hj => ((hown.alloc (.cells #[.int .i64 (m : Int)] 3)).lt j hj).1
            have hgr : w.grownBy w5 (some g) := grown_own (grown_alloc HG3.out (.cells #[.int .i64 (m : Int)] 3)) hgrow (fun j hj => hlt' j hj)
            have hrd : RdIn w5 g (P + 1 + 4 * k + 1 + 3) := ((H3.out.alloc (.cells #[.int .i64 (m : Int)] 3)).mono (by omega)).kept hgrow (fun j hj => Nat.lt_of_lt_of_le hgs (hlt' j hj))
            have hown2 := IntsAt.of_owns (zs := zs ++ [(m : Int)]) (n := k + 1) (g := g') (cap := cap) (B := w.heap.size) (w := w5) (by simp [HZ.out.1]) (by rw [List.map_append]; exact hown1)
            have hz' : (zs ++ [(m : Int)]).length = k + 1 ∧ Fams (zs ++ [(m : Int)]) := ⟨by simp [HZ.out.1], fun z hz => by
              rcases List.mem_append.1 hz with hz | hz
              · exact HZ.out.2 z hz
              · simp at hz; exact ⟨m, hm, hz⟩⟩
            have HGR5 := Lib.hid hgr; have HRD5 := Lib.hid hrd; have HO5 := Lib.hid hown2; have HZ5 := Lib.hid hz'
            clear hgr hrd hown2 hz' hown1 hgrow hlies hown
            go_wp2_with fail
            go_roundw
            case rel => exact ⟨k + 1, _, by omega, by go_num, HZ5, HO5, Lib.hid (HRD5.out.mono (by omega)), HGR5⟩
            case measure => simp [intOf]; omega
      · obtain rfl : k = 4 := by omega
        go_wp2_with fail
        refine (s_TransOf w.heap.size _ zs _ HZ.out.1 HZ.out.2 HV.out).mono ?_
        rintro e w' ⟨⟨s, hs, rfl⟩, rfl⟩
        have HS := Lib.hid hs; clear hs
        go_wp2_with fail
        go_ret
        exact ⟨s, HS.out, rfl, HRD.out.mono (by omega), HGR.out⟩
end Go.Proofs.Ytiaeakpgldpaiaa
namespace Go.Proofs.Ytiaeakpgldpaiaa
set_option linter.unusedSimpArgs false
set_option linter.unusedVariables false
set_option maxRecDepth 4000
open Go.RowKit

/-- A text of no great size. -/
def Small (s : ByteArray) : Prop := s.size ≤ 1000
set_option maxHeartbeats 2000000 in
theorem s_l3Bad (g P : Nat) (t : ByteArray) (w : World) (hp : P + 3 ≤ 100000) (ht : Dg 16 t) (h : RdIn w g P) : Calls Try.prog 206 #[.pointer (some ⟨g, 0, none⟩), .string t] w (TxtPost w g (P + 3) Small) := by
  have hsz : t.size = 16 := ht.1
  clear ht
  go_enter Try.func206, Try.ntmps206
  go_wp2_with fail
  refine (s_pickIn g P 40 _ _ rfl (by omega) (by omega) (by omega) h).mono ?_
  rintro e w1 ⟨c, hc, rfl, h1, hg⟩
  have HG := Lib.hid hg; have H1 := Lib.hid h1; clear hg h1
  have hcs : c = 0 ∨ c = 1 ∨ c = 2 ∨ 3 ≤ c := by omega
  rcases hcs with h0 | h0 | h0 | h0
  · have b0 : ((c : Int) == 0) = true := by rw [h0]; rfl
    clear h0
    go_wp2_with fail
    go_ret
    exact ⟨_, by unfold Small; rw [ByteArray.size_append, hsz]; decide, rfl, H1.out.mono (by omega), HG.out⟩
  · have b0 : ((c : Int) == 0) = false := by rw [h0]; rfl
    have b1 : ((c : Int) == 1) = true := by rw [h0]; rfl
    clear h0
    go_wp2_with fail
    go_ret
    exact ⟨_, by unfold Small; rw [ByteArray.size_extract]; omega, rfl, H1.out.mono (by omega), HG.out⟩
  · have b0 : ((c : Int) == 0) = false := by rw [h0]; rfl
    have b1 : ((c : Int) == 1) = false := by rw [h0]; rfl
    have b2 : ((c : Int) == 2) = true := by rw [h0]; rfl
    clear h0
    go_wp2_with fail
    refine (s_pickIn g (P + 1) 16 _ _ rfl (by omega) (by omega) (by omega) H1.out).mono ?_
    rintro e w2 ⟨k, hk, rfl, h2, hg2⟩
    have H2 := Lib.hid h2; have HG2 := Lib.hid (grown_trans HG.out hg2); clear h2 hg2
    go_wp2_with fail
    have hw : IntKind.i64.wrap ((k : Int) + 1) = (k : Int) + 1 := IntWalk.i64_in _ ⟨by omega, by omega⟩
    refine wp_region_held_drew (S := fun w3 => True) (by kernel_rfl) (trivial) (fun hS => ?_)
    simp only [List.size_toArray, List.length_cons, List.length_nil, Nat.zero_add, Nat.reduceAdd, Array.replicate_succ, Array.replicate_zero, List.push_toArray, List.append_toArray, List.nil_append, List.cons_append]
    refine wpAnyH_take (i := 0) (v := .string t) rfl (by kernel_rfl) (by kernel_rfl) (by kernel_rfl) (fun _ _ _ h => h) (Or.inl ⟨by rfl, fun w2 h2 => by (first | rfl | go_simp)⟩) (by assumption) ?_
    simp only [Act.put, List.getElem_toArray, List.getElem_cons_zero, List.getElem_cons_succ, List.setIfInBounds_toArray, List.set_cons_zero, List.set_cons_succ]
    refine wpAnyH_take (i := 1) (v := .int .i64 (k : Int)) rfl (by kernel_rfl) (by kernel_rfl) (by kernel_rfl) (fun _ _ _ h => h) (Or.inl ⟨by rfl, fun w2 h2 => by (first | rfl | go_simp)⟩) (by assumption) ?_
    simp only [Act.put, List.getElem_toArray, List.getElem_cons_zero, List.getElem_cons_succ, List.setIfInBounds_toArray, List.set_cons_zero, List.set_cons_succ]
    refine wpAnyH_take (i := 3) (v := .pointer (some ⟨g, 0, none⟩)) rfl (by kernel_rfl) (by kernel_rfl) (by kernel_rfl) (fun _ _ _ h => h) (Or.inl ⟨by rfl, fun w2 h2 => by (first | rfl | go_simp)⟩) (by assumption) ?_
    simp only [Act.put, List.getElem_toArray, List.getElem_cons_zero, List.getElem_cons_succ, List.setIfInBounds_toArray, List.set_cons_zero, List.set_cons_succ]
    refine wpAnyH_take (i := 7) (v := .string t) rfl (by kernel_rfl) (by kernel_rfl) (by kernel_rfl) (fun _ _ _ h => h) (Or.inl ⟨by rfl, fun w2 h2 => by (first | rfl | go_simp)⟩) (by assumption) ?_
    simp only [Act.put, List.getElem_toArray, List.getElem_cons_zero, List.getElem_cons_succ, List.setIfInBounds_toArray, List.set_cons_zero, List.set_cons_succ]
    refine wpAnyH_take (i := 8) (v := .int .i64 (k : Int)) rfl (by kernel_rfl) (by kernel_rfl) (by kernel_rfl) (fun _ _ _ h => h) (Or.inl ⟨by rfl, fun w2 h2 => by (first | rfl | go_simp)⟩) (by assumption) ?_
    simp only [Act.put, List.getElem_toArray, List.getElem_cons_zero, List.getElem_cons_succ, List.setIfInBounds_toArray, List.set_cons_zero, List.set_cons_succ]
    refine wpAnyH_take (i := 9) (v := .int .i64 ((k : Int) + 1)) rfl (by kernel_rfl) (by kernel_rfl) (by kernel_rfl) (fun _ _ _ h => h) (Or.inl ⟨by rfl, fun w2 h2 => by (first | rfl | go_simp)⟩) (by assumption) ?_
    simp only [Act.put, List.getElem_toArray, List.getElem_cons_zero, List.getElem_cons_succ, List.setIfInBounds_toArray, List.set_cons_zero, List.set_cons_succ]
    refine wpAnyH_take (i := 2) (v := .string (t.extract 0 k)) rfl (by kernel_rfl) (by kernel_rfl) (by kernel_rfl) (fun _ _ _ h => h) (Or.inl ⟨by rfl, fun w2 h2 => by (go_simp; intro hc; omega)⟩) (by assumption) ?_
    simp only [Act.put, List.getElem_toArray, List.getElem_cons_zero, List.getElem_cons_succ, List.setIfInBounds_toArray, List.set_cons_zero, List.set_cons_succ]
    refine wpAnyH_take (i := 10) (v := .string (t.extract (k + 1) 16)) rfl (by kernel_rfl) (by kernel_rfl) (by kernel_rfl) (fun _ _ _ h => h) (Or.inl ⟨by rfl, fun w2 h2 => by (go_simp; intro hc; have := hc (by omega); omega)⟩) (by assumption) ?_
    simp only [Act.put, List.getElem_toArray, List.getElem_cons_zero, List.getElem_cons_succ, List.setIfInBounds_toArray, List.set_cons_zero, List.set_cons_succ]
    refine wpAnyH_ready (rs := [4]) (by kernel_rfl) (by simp) ?_
    refine AllReadyH.cons rfl (fun K hK => ?_) AllReadyH.nil
    rw [if_pos (by rfl)]
    go_simp
    refine hK _ _ trivial (fun _ => ?_)
    simp only [Act.put, List.getElem_toArray, List.getElem_cons_zero, List.getElem_cons_succ, List.setIfInBounds_toArray, List.set_cons_zero, List.set_cons_succ]
    have hr : RowAt (w2.alloc (.cells (([⟨#[48]⟩, ⟨#[102]⟩, ⟨#[103]⟩, ⟨#[53]⟩] : List ByteArray).map Value.string).toArray 9)).drew w2.heap.size 9 (([⟨#[48]⟩, ⟨#[102]⟩, ⟨#[103]⟩, ⟨#[53]⟩] : List ByteArray).map Value.string).toArray := (RowAt.fresh w2 _ _).drew
    have hgl := H2.out.lt
    have H3 := Lib.hid ((H2.out.alloc (.cells (([⟨#[48]⟩, ⟨#[102]⟩, ⟨#[103]⟩, ⟨#[53]⟩] : List ByteArray).map Value.string).toArray 9)).later (Below.refl _ _).drew)
    have HR := Lib.hid hr; clear hr
    refine wpAnyH_ready (rs := [5]) (by kernel_rfl) (by simp) ?_
    refine AllReadyH.cons rfl (fun K hK => ?_) AllReadyH.nil
    rw [if_pos (by rfl)]
    go_simp
    refine (s_of g (P + 1 + 1) w2.heap.size [⟨#[48]⟩, ⟨#[102]⟩, ⟨#[103]⟩, ⟨#[53]⟩] _ (by decide) (by decide) (by omega) H3.out (by omega) HR.out).mono ?_
    rintro e w3 ⟨v, ⟨s, hs, rfl⟩, rfl, h3, hg3⟩
    have hs1 : s.size ≤ 1 := by
      simp only [List.mem_cons, List.not_mem_nil, or_false] at hs
      rcases hs with rfl | rfl | rfl | rfl <;> decide
    have H4 := Lib.hid h3; have HG3 := Lib.hid hg3; clear h3 hg3 hs
    have z1 : (t.extract 0 k).size ≤ 16 := by rw [ByteArray.size_extract]; omega
    have z2 : (t.extract (k + 1) 16).size ≤ 16 := by rw [ByteArray.size_extract]; omega
    have z3 : (t.extract 0 k ++ s).size ≤ 17 := by rw [ByteArray.size_append]; omega
    have z4 : (t.extract 0 k ++ s ++ t.extract (k + 1) 16).size ≤ 33 := by rw [ByteArray.size_append]; omega
    refine hK _ _ trivial (fun _ => ?_)
    simp only [Act.put, List.getElem_toArray, List.getElem_cons_zero, List.getElem_cons_succ, List.setIfInBounds_toArray, List.set_cons_zero, List.set_cons_succ]
    refine wpAnyH_take (i := 6) (v := .string (t.extract 0 k ++ s)) rfl (by kernel_rfl) (by kernel_rfl) (by kernel_rfl) (fun _ _ _ h => h) (Or.inl ⟨by rfl, fun w2 h2 => by (go_simp; omega)⟩) (by assumption) ?_
    simp only [Act.put, List.getElem_toArray, List.getElem_cons_zero, List.getElem_cons_succ, List.setIfInBounds_toArray, List.set_cons_zero, List.set_cons_succ]
    refine wpAnyH_take (i := 11) (v := .string (t.extract 0 k ++ s ++ t.extract (k + 1) 16)) rfl (by kernel_rfl) (by kernel_rfl) (by kernel_rfl) (fun _ _ _ h => h) (Or.inl ⟨by rfl, fun w2 h2 => by (go_simp; omega)⟩) (by assumption) ?_
    simp only [Act.put, List.getElem_toArray, List.getElem_cons_zero, List.getElem_cons_succ, List.setIfInBounds_toArray, List.set_cons_zero, List.set_cons_succ]
    refine wpAnyH_take (i := 12) (v := .string (t.extract 0 k ++ s ++ t.extract (k + 1) 16)) rfl (by kernel_rfl) (by kernel_rfl) (by kernel_rfl) (fun _ _ _ h => h) (Or.inl ⟨by rfl, fun w2 h2 => by (first | rfl | go_simp)⟩) (by assumption) ?_
    simp only [Act.put, List.getElem_toArray, List.getElem_cons_zero, List.getElem_cons_succ, List.setIfInBounds_toArray, List.set_cons_zero, List.set_cons_succ]
    refine wpAnyH_done (by kernel_rfl) ?_ _
    go_wp2_with fail
    go_ret
    exact ⟨_, by unfold Small; omega, rfl, H4.out.mono (by omega), grown_trans (grown_below HG2.out (((Below.refl _ _).alloc (Nat.le_refl _) _).drew)) HG3.out⟩
  · have b0 : ((c : Int) == 0) = false := by rw [beq_eq_false_iff_ne]; omega
    have b1 : ((c : Int) == 1) = false := by rw [beq_eq_false_iff_ne]; omega
    have b2 : ((c : Int) == 2) = false := by rw [beq_eq_false_iff_ne]; omega
    clear h0
    go_wp2_with fail
    go_ret
    exact ⟨_, by unfold Small; omega, rfl, H1.out.mono (by omega), HG.out⟩
set_option maxHeartbeats 2000000 in
theorem s_l4Some (g P : Nat) (w : World) (hp : P + 21 ≤ 100000) (h : RdIn w g P) : Calls Try.prog 207 #[.pointer (some ⟨g, 0, none⟩)] w (TxtPost w g (P + 21) (Dg 16)) := by
  go_enter Try.func207, Try.ntmps207
  go_wp2_with fail
  refine (s_pickIn g P 5 _ _ rfl (by omega) (by omega) (by omega) h).mono ?_
  rintro e w1 ⟨c, hc, rfl, h1, hg⟩
  have HG := Lib.hid hg; have H1 := Lib.hid h1; clear hg h1
  have hcs : c = 0 ∨ c = 1 ∨ c = 2 ∨ 3 ≤ c := by omega
  rcases hcs with h0 | h0 | h0 | h0
  · have b0 : ((c : Int) == 0) = true := by rw [h0]; rfl
    clear h0
    go_wp2_with fail
    refine (s_pickIn g (P + 1) 16 _ _ rfl (by omega) (by omega) (by omega) H1.out).mono ?_
    rintro e w2 ⟨k, hk, rfl, h2, hg2⟩
    have H2 := Lib.hid h2; have HG2 := Lib.hid (grown_trans HG.out hg2); clear h2 hg2
    go_wp2_with fail
    refine (s_l2Some g (P + 1 + 1) _ (by omega) H2.out).mono ?_
    rintro e w3 ⟨q, hq, rfl, h3, hg3⟩
    have HQ := Lib.hid hq; have H3 := Lib.hid h3; have HG3 := Lib.hid (grown_trans HG2.out hg3); clear hq h3 hg3
    go_wp2_with fail
    refine (s_l4Spec k q _ hk HQ.out).mono ?_
    rintro e w' ⟨rfl, rfl⟩
    go_wp2_with fail
    go_ret
    exact ⟨_, Dg.txt (fun i _ => fSpec_lt hk i), rfl, H3.out.mono (by omega), HG3.out⟩
  · have b0 : ((c : Int) == 0) = false := by rw [h0]; rfl
    have b1 : ((c : Int) == 1) = true := by rw [h0]; rfl
    clear h0
    go_wp2_with fail
    refine (s_pickIn g (P + 1) 16 _ _ rfl (by omega) (by omega) (by omega) H1.out).mono ?_
    rintro e w2 ⟨k, hk, rfl, h2, hg2⟩
    have H2 := Lib.hid h2; have HG2 := Lib.hid (grown_trans HG.out hg2); clear h2 hg2
    go_wp2_with fail
    refine (s_l2Some g (P + 1 + 1) _ (by omega) H2.out).mono ?_
    rintro e w3 ⟨q, hq, rfl, h3, hg3⟩
    have HQ := Lib.hid hq; have H3 := Lib.hid h3; have HG3 := Lib.hid (grown_trans HG2.out hg3); clear hq h3 hg3
    go_wp2_with fail
    refine (s_l4Spec k q _ hk HQ.out).mono ?_
    rintro e w' ⟨rfl, rfl⟩
    go_wp2_with fail
    refine (s_l3Dual _ _ (Dg.txt (fun i _ => fSpec_lt hk i))).mono ?_
    rintro e w' ⟨rfl, rfl⟩
    go_wp2_with fail
    go_ret
    exact ⟨_, Dg.txt (fun i _ => andn_lt (by omega)), rfl, H3.out.mono (by omega), HG3.out⟩
  · have b0 : ((c : Int) == 0) = false := by rw [h0]; rfl
    have b1 : ((c : Int) == 1) = false := by rw [h0]; rfl
    have b2 : ((c : Int) == 2) = true := by rw [h0]; rfl
    clear h0
    go_wp2_with fail
    go_loopw [3, 4] (fun o i wr => ∃ (k : Nat) (s : ByteArray), k ≤ 4 ∧ i = .int .i64 k ∧ o = .string s ∧ Hid (Dg k s) ∧ Hid (RdIn wr g (P + 1 + k)) ∧ Hid (w.grownBy wr (some g))) (fun _ i _ => 4 - (intOf i).toNat)
    case atStart => exact ⟨0, ⟨#[]⟩, by omega, rfl, rfl, Lib.hid Dg_nil, H1, HG⟩
    case round =>
      obtain ⟨k, s, hk, rfl, rfl, HD, HRD, HGR⟩ := hrel
      by_cases hlt : k < 4
      · have hsz : s.size ≤ 4 := by have := Dg_size HD.out; omega
        go_wp2_with fail
        refine (s_pickIn g (P + 1 + k) 4 _ _ rfl (by omega) (by omega) (by omega) HRD.out).mono ?_
        rintro e w2 ⟨n, hn, rfl, h2, hg2⟩
        have H2 := Lib.hid h2
        have HG2 := Lib.hid (grown_trans HGR.out hg2)
        clear h2 hg2
        have hw := wrap_one (t := n) (by omega)
        have ho := one_lt hn
        have HD' := Lib.hid (hexChr_dig s (one n) k HD.out ho)
        go_wp2_with fail
        refine (s_l2Digit _ _ ho).mono ?_
        rintro e w' ⟨rfl, rfl⟩
        go_wp2_with fail
        go_roundw
        case rel => exact ⟨k + 1, _, by omega, by go_num, rfl, HD', Lib.hid (H2.out.mono (by omega)), HG2⟩
        case measure => simp [intOf]; omega
      · obtain rfl : k = 4 := by omega
        go_wp2_with fail
        refine (s_l3Angel s _ HD.out).mono ?_
        rintro e w' ⟨rfl, rfl⟩
        go_wp2_with fail
        go_ret
        exact ⟨_, Dg.txt (fun i _ => fDia_lt _ _), rfl, HRD.out.mono (by omega), HGR.out⟩
  · have b0 : ((c : Int) == 0) = false := by rw [beq_eq_false_iff_ne]; omega
    have b1 : ((c : Int) == 1) = false := by rw [beq_eq_false_iff_ne]; omega
    have b2 : ((c : Int) == 2) = false := by rw [beq_eq_false_iff_ne]; omega
    clear h0
    go_wp2_with fail
    refine (s_l3Some g (P + 1) _ (by omega) H1.out).mono ?_
    rintro e w2 ⟨s, hs, rfl, h2, hg2⟩
    have HS := Lib.hid hs; have H2 := Lib.hid h2; have HG2 := Lib.hid (grown_trans HG.out hg2); clear hs h2 hg2
    go_wp2_with fail
    go_ret
    exact ⟨s, HS.out, rfl, H2.out.mono (by omega), HG2.out⟩
theorem s_l4Open (g P : Nat) (w : World) (hp : P + 24 ≤ 100000) (h : RdIn w g P) : Calls Try.prog 128 #[.pointer (some ⟨g, 0, none⟩)] w (TxtPost w g (P + 24) Small) := by
  go_enter Try.func128, Try.ntmps128
  go_wp2_with fail
  refine (s_l4Some g P _ (by omega) h).mono ?_
  rintro e w1 ⟨s, hs, rfl, h1, hg⟩
  have HS := Lib.hid hs; have HG := Lib.hid hg; have H1 := Lib.hid h1; clear hs hg h1
  go_wp2_with fail
  refine (s_l3Bad g (P + 21) s _ (by omega) HS.out H1.out).mono ?_
  rintro e w2 ⟨t, ht, rfl, h2, hg2⟩
  have HT := Lib.hid ht; have H2 := Lib.hid h2; have HG2 := Lib.hid (grown_trans HG.out hg2); clear ht h2 hg2
  go_wp2_with fail
  go_ret
  exact ⟨t, HT.out, rfl, H2.out.mono (by omega), HG2.out⟩
end Go.Proofs.Ytiaeakpgldpaiaa
namespace Go.Proofs.Ytiaeakpgldpaiaa
set_option linter.unusedSimpArgs false
set_option linter.unusedVariables false
set_option maxRecDepth 4000
open Go.RowKit

theorem results_tmp4 {fn : Func} {t u v x : Tmp} (h : fn.results = #[.tmp t, .tmp u, .tmp v, .tmp x]) (tmps : Array Value) (P : Program) (w : World) :
    (results fn tmps).run P w = .ok (.tuple #[tmps.getD t undef, tmps.getD u undef, tmps.getD v undef, tmps.getD x undef]) w := by
  simp [results, h]
theorem results_tmp5 {fn : Func} {t u v x y : Tmp} (h : fn.results = #[.tmp t, .tmp u, .tmp v, .tmp x, .tmp y]) (tmps : Array Value) (P : Program) (w : World) :
    (results fn tmps).run P w = .ok (.tuple #[tmps.getD t undef, tmps.getD u undef, tmps.getD v undef, tmps.getD x undef, tmps.getD y undef]) w := by
  simp [results, h]
/-- Bytes that came in. -/
def ByteIn (w : World) (a : Option Addr) (len cap : Nat) : Prop :=
  len ≤ cap ∧ cap ≤ maxLen ∧ (len = 0 ∨ ∃ b off, a = some ⟨b, off, none⟩ ∧ b < w.heap.size ∧ ∀ i, i < len → ∃ z : Nat, z < 256 ∧ w.cell? ⟨b, off + i, none⟩ = some (.int .u8 (z : Int)))
theorem wf_u8_out {n : Int} (h : (Lit.int .u8 n).wf = true) : 0 ≤ n ∧ n ≤ 255 := by
  simp [Lit.wf, IntKind.min, IntKind.max, IntKind.signed, IntKind.bits] at h
  omega
theorem ByteIn.of_row {w : World} {a : Option Addr} {len cap : Nat} {zs : List Int} (h : IsRow .u8 w a len cap zs) : ByteIn w a len cap := by
  obtain ⟨h1, h2, h3, h4⟩ := h.row
  refine ⟨h2, h3, ?_⟩
  rcases h4 with h4 | ⟨b, off, h5, h6, h7⟩
  · exact .inl h4
  · refine .inr ⟨b, off, h5, h6, fun i hi => ?_⟩
    have hc := h7 i hi
    rcases h with ⟨_, hl, _, _⟩ | ⟨x, _, h8, h9, h10, _, hwf⟩
    · omega
    · have hi' : i < zs.length := by omega
      have hg : (zs.take len).getD i 0 = zs[i] := by simp [List.getD, List.getElem?_take, hi, hi']
      obtain ⟨k1, k2⟩ := wf_u8_out (hwf zs[i] (List.getElem_mem hi'))
      refine ⟨zs[i].toNat, by omega, ?_⟩
      rw [hc, hg, Int.toNat_of_nonneg k1]
theorem s_l14Open (a : Option Addr) (len cap : Nat) (w : World) (hin : ByteIn w a len cap) : Calls Try.prog 94 #[.slice a len cap] w (fun e w' => e = .returned (.pointer (some ⟨w.heap.size, 0, none⟩)) ∧ RdIn w' w.heap.size 0 ∧ Below w.heap.size w w') := by
  obtain ⟨h1, h2, h3⟩ := hin
  have hml : cap ≤ 9223372036854775807 := by unfold maxLen at h2; omega
  have hrd : ∀ l c, l ≤ len → l ≤ 2000 → l ≤ c → c ≤ maxLen → RdIn (w.alloc (.cells #[.slice a l c, .int .i64 0] 111)) w.heap.size 0 := fun l c hl hl2 hlc hc => by
    refine ⟨0, Nat.le_refl _, a, l, c, RowAt.fresh w _ _, hl2, hlc, hc, ?_⟩
    rcases h3 with h3 | ⟨b, off, h5, h6, h7⟩
    · exact .inl (by omega)
    · refine .inr ⟨b, off, h5, h6, fun i hi => ?_⟩
      obtain ⟨z, hz, hc⟩ := h7 i (by omega)
      exact ⟨z, hz, (((Below.refl w.heap.size w).alloc (Nat.le_refl _) _).cell h6).trans hc⟩
  have hb : ∀ l c, Below w.heap.size w (w.alloc (.cells #[.slice a l c, .int .i64 0] 111)) := fun l c => (Below.refl _ _).alloc (Nat.le_refl _) _
  have HRD := Lib.hid hrd; have HB := Lib.hid hb; clear hrd hb h3
  by_cases hlt : 2000 < len
  · have hd : decide ((2000 : Int) < (len : Int)) = true := by simp; omega
    go_enter Try.func94, Try.ntmps94
    go_wp2_with fail
    go_ret
    exact ⟨rfl, HRD.out _ _ (by omega) (by omega) (by omega) (by omega), HB.out _ _⟩
  · have hd : decide ((2000 : Int) < (len : Int)) = false := by simp; omega
    go_enter Try.func94, Try.ntmps94
    go_wp2_with fail
    go_ret
    exact ⟨rfl, HRD.out _ _ (by omega) (by omega) (by omega) (by omega), HB.out _ _⟩
theorem drawn_below {w w0 w1 : World} {g : Nat} (hb : Below w.heap.size w w0) (hg : w0.grownBy w1 (some g)) (hgw : w.heap.size ≤ g) : Below w.heap.size w w1 :=
  hb.grown hg hb.size fun k hk => by cases hk; exact hgw
/-- A number and a text. -/
def CasePost (w : World) (g P : Nat) (e : Ending) (w' : World) : Prop := ∃ z s, Small s ∧ e = .returned (.tuple #[.int .i64 z, .string s]) ∧ RdIn w' g P ∧ w.grownBy w' (some g)
theorem small_dg {s : ByteArray} (h : Dg 4 s) : True := trivial
set_option maxHeartbeats 2000000 in
theorem s_l8Case (g P : Nat) (w : World) (hp : P + 27 ≤ 100000) (h : RdIn w g P) : Calls Try.prog 142 #[.pointer (some ⟨g, 0, none⟩)] w (CasePost w g (P + 27)) := by
  go_enter Try.func142, Try.ntmps142
  go_wp2_with fail
  refine (s_l1Some g P _ (by omega) h).mono ?_
  rintro e w1 ⟨z, rfl, h1, hg⟩
  have HG1 := Lib.hid hg; have H1 := Lib.hid h1; clear hg h1 h
  go_wp2_with fail
  refine (s_pickIn g (P + 2) 5 _ _ rfl (by omega) (by omega) (by omega) H1.out).mono ?_
  rintro e w2 ⟨c, hc, rfl, h2, hg2⟩
  have H2 := Lib.hid h2; have HG2 := Lib.hid (grown_trans HG1.out hg2)
  have hcs : c = 0 ∨ c = 1 ∨ 2 ≤ c := by omega
  have hlt := h2.lt
  clear h2 hg2
  rcases hcs with h0 | h0 | h0
  · have b0 : ((c : Int) == 0) = true := by rw [h0]; rfl
    have b1 : ((c : Int) == 1) = false := by rw [h0]; rfl
    have hr := RowAt.fresh w2 9 (([⟨#[50, 52, 56, 49]⟩, ⟨#[50, 52, 56, 56]⟩, ⟨#[49, 49, 50, 52]⟩, ⟨#[51, 54, 56, 56]⟩, ⟨#[102, 48, 48, 48]⟩] : List ByteArray).map Value.string).toArray
    have H3 := Lib.hid (H2.out.alloc (.cells (([⟨#[50, 52, 56, 49]⟩, ⟨#[50, 52, 56, 56]⟩, ⟨#[49, 49, 50, 52]⟩, ⟨#[51, 54, 56, 56]⟩, ⟨#[102, 48, 48, 48]⟩] : List ByteArray).map Value.string).toArray 9)); have HR := Lib.hid hr
    clear h0 hr
    go_wp2_with fail
    refine (s_of g (P + 2 + 1) w2.heap.size [⟨#[50, 52, 56, 49]⟩, ⟨#[50, 52, 56, 56]⟩, ⟨#[49, 49, 50, 52]⟩, ⟨#[51, 54, 56, 56]⟩, ⟨#[102, 48, 48, 48]⟩] _ (by decide) (by decide) (by omega) H3.out (by omega) HR.out).mono ?_
    rintro e w3 ⟨v, ⟨s, hs, rfl⟩, rfl, h3, hg3⟩
    have hs1 : Dg 4 s := by
      simp only [List.mem_cons, List.not_mem_nil, or_false] at hs
      rcases hs with rfl | rfl | rfl | rfl | rfl <;> exact ⟨rfl, by decide⟩
    have H4 := Lib.hid h3; have HG4 := Lib.hid (grown_trans (grown_alloc HG2.out _) hg3); have HS1 := Lib.hid hs1; clear h3 hg3 hs hs1
    go_wp2_with fail
    refine (s_l3Angel s _ HS1.out).mono ?_
    rintro e w' ⟨rfl, rfl⟩
    go_wp2_with fail
    refine (s_l3Bad g (P + 2 + 1 + 1) _ _ (by omega) (Dg.txt (fun i _ => fDia_lt _ _)) H4.out).mono ?_
    rintro e w5 ⟨s5, hs5, rfl, h5, hg5⟩
    have HS5 := Lib.hid hs5; have H5 := Lib.hid h5; have HG5 := Lib.hid (grown_trans HG4.out hg5); clear hs5 h5 hg5
    go_wp2_with fail
    go_ret2
    exact ⟨z, s5, HS5.out, rfl, H5.out.mono (by omega), HG5.out⟩
  · have b0 : ((c : Int) == 0) = false := by rw [h0]; rfl
    have b1 : ((c : Int) == 1) = true := by rw [h0]; rfl
    have hr := RowAt.fresh w2 9 (([⟨#[50, 52, 56, 56]⟩, ⟨#[54, 99, 56, 56]⟩, ⟨#[49, 49, 50, 52]⟩, ⟨#[56, 56, 56, 56]⟩] : List ByteArray).map Value.string).toArray
    have H3 := Lib.hid (H2.out.alloc (.cells (([⟨#[50, 52, 56, 56]⟩, ⟨#[54, 99, 56, 56]⟩, ⟨#[49, 49, 50, 52]⟩, ⟨#[56, 56, 56, 56]⟩] : List ByteArray).map Value.string).toArray 9)); have HR := Lib.hid hr
    clear h0 hr
    go_wp2_with fail
    refine (s_of g (P + 2 + 1) w2.heap.size [⟨#[50, 52, 56, 56]⟩, ⟨#[54, 99, 56, 56]⟩, ⟨#[49, 49, 50, 52]⟩, ⟨#[56, 56, 56, 56]⟩] _ (by decide) (by decide) (by omega) H3.out (by omega) HR.out).mono ?_
    rintro e w3 ⟨v, ⟨s, hs, rfl⟩, rfl, h3, hg3⟩
    have hs1 : Dg 4 s := by
      simp only [List.mem_cons, List.not_mem_nil, or_false] at hs
      rcases hs with rfl | rfl | rfl | rfl <;> exact ⟨rfl, by decide⟩
    have H4 := Lib.hid h3; have HG4 := Lib.hid (grown_trans (grown_alloc HG2.out _) hg3); have HS1 := Lib.hid hs1; clear h3 hg3 hs hs1
    go_wp2_with fail
    refine (s_l3Angel s _ HS1.out).mono ?_
    rintro e w' ⟨rfl, rfl⟩
    go_wp2_with fail
    refine (s_l3Dual _ _ (Dg.txt (fun i _ => fDia_lt _ _))).mono ?_
    rintro e w' ⟨rfl, rfl⟩
    go_wp2_with fail
    refine (s_l3Bad g (P + 2 + 1 + 1) _ _ (by omega) (Dg.txt (fun i _ => andn_lt (by omega))) H4.out).mono ?_
    rintro e w5 ⟨s5, hs5, rfl, h5, hg5⟩
    have HS5 := Lib.hid hs5; have H5 := Lib.hid h5; have HG5 := Lib.hid (grown_trans HG4.out hg5); clear hs5 h5 hg5
    go_wp2_with fail
    go_ret2
    exact ⟨z, s5, HS5.out, rfl, H5.out.mono (by omega), HG5.out⟩
  · have b0 : ((c : Int) == 0) = false := by rw [beq_eq_false_iff_ne]; omega
    have b1 : ((c : Int) == 1) = false := by rw [beq_eq_false_iff_ne]; omega
    clear h0
    go_wp2_with fail
    refine (s_l4Open g (P + 2 + 1) _ (by omega) H2.out).mono ?_
    rintro e w5 ⟨s5, hs5, rfl, h5, hg5⟩
    have HS5 := Lib.hid hs5; have H5 := Lib.hid h5; have HG5 := Lib.hid (grown_trans HG2.out hg5); clear hs5 h5 hg5
    go_wp2_with fail
    go_ret2
    exact ⟨z, s5, HS5.out, rfl, H5.out.mono (by omega), HG5.out⟩
theorem s_DrawAngelStar (a : Option Addr) (len cap : Nat) (w : World) (hin : ByteIn w a len cap) : Calls Try.prog 33 #[.slice a len cap] w (fun e w' => (∃ s, Small s ∧ e = .returned (.string s)) ∧ Below w.heap.size w w') := by
  go_enter Try.func33, Try.ntmps33
  go_wp2_with fail
  refine (s_l14Open a len cap _ hin).mono ?_
  rintro e w0 ⟨rfl, h0, hb0⟩
  have H0 := Lib.hid h0; have HB0 := Lib.hid hb0; have HG0 := Lib.hid (World.grownBy.refl w0 (some w.heap.size)); clear h0 hb0 hin
  go_wp2_with fail
  refine (s_l4Open w.heap.size 0 _ (by omega) H0.out).mono ?_
  rintro e w1 ⟨s1, hs1, rfl, h1, hg1⟩
  have HS1 := Lib.hid hs1; have H1 := Lib.hid h1; have HG1 := Lib.hid (grown_trans HG0.out hg1); clear hs1 h1 hg1
  go_wp2_with fail
  go_ret
  exact ⟨⟨s1, HS1.out, rfl⟩, drawn_below HB0.out HG1.out (Nat.le_refl _)⟩
theorem s_DrawDemonOmega (a : Option Addr) (len cap : Nat) (w : World) (hin : ByteIn w a len cap) : Calls Try.prog 43 #[.slice a len cap] w (fun e w' => (∃ s, Small s ∧ e = .returned (.string s)) ∧ Below w.heap.size w w') := by
  go_enter Try.func43, Try.ntmps43
  go_wp2_with fail
  refine (s_l14Open a len cap _ hin).mono ?_
  rintro e w0 ⟨rfl, h0, hb0⟩
  have H0 := Lib.hid h0; have HB0 := Lib.hid hb0; have HG0 := Lib.hid (World.grownBy.refl w0 (some w.heap.size)); clear h0 hb0 hin
  go_wp2_with fail
  refine (s_l4Open w.heap.size 0 _ (by omega) H0.out).mono ?_
  rintro e w1 ⟨s1, hs1, rfl, h1, hg1⟩
  have HS1 := Lib.hid hs1; have H1 := Lib.hid h1; have HG1 := Lib.hid (grown_trans HG0.out hg1); clear hs1 h1 hg1
  go_wp2_with fail
  go_ret
  exact ⟨⟨s1, HS1.out, rfl⟩, drawn_below HB0.out HG1.out (Nat.le_refl _)⟩
theorem s_DrawWhileTrans (a : Option Addr) (len cap : Nat) (w : World) (hin : ByteIn w a len cap) : Calls Try.prog 71 #[.slice a len cap] w (fun e w' => (∃ z s, Small s ∧ e = .returned (.tuple #[.int .i64 z, .string s])) ∧ Below w.heap.size w w') := by
  go_enter Try.func71, Try.ntmps71
  go_wp2_with fail
  refine (s_l14Open a len cap _ hin).mono ?_
  rintro e w0 ⟨rfl, h0, hb0⟩
  have H0 := Lib.hid h0; have HB0 := Lib.hid hb0; have HG0 := Lib.hid (World.grownBy.refl w0 (some w.heap.size)); clear h0 hb0 hin
  go_wp2_with fail
  refine (s_l8Case w.heap.size 0 _ (by omega) H0.out).mono ?_
  rintro e w1 ⟨z1, s1, hs1, rfl, h1, hg1⟩
  have HS1 := Lib.hid hs1; have H1 := Lib.hid h1; have HG1 := Lib.hid (grown_trans HG0.out hg1); clear hs1 h1 hg1
  go_wp2_with fail
  go_ret2
  exact ⟨⟨z1, s1, HS1.out, rfl⟩, drawn_below HB0.out HG1.out (Nat.le_refl _)⟩
theorem s_DrawWeakestInvariant (a : Option Addr) (len cap : Nat) (w : World) (hin : ByteIn w a len cap) : Calls Try.prog 154 #[.slice a len cap] w (fun e w' => (∃ z s q, Small s ∧ e = .returned (.tuple #[.int .i64 z, .string s, .int .i64 q])) ∧ Below w.heap.size w w') := by
  go_enter Try.func154, Try.ntmps154
  go_wp2_with fail
  refine (s_l14Open a len cap _ hin).mono ?_
  rintro e w0 ⟨rfl, h0, hb0⟩
  have H0 := Lib.hid h0; have HB0 := Lib.hid hb0; have HG0 := Lib.hid (World.grownBy.refl w0 (some w.heap.size)); clear h0 hb0 hin
  go_wp2_with fail
  refine (s_l8Case w.heap.size 0 _ (by omega) H0.out).mono ?_
  rintro e w1 ⟨z1, s1, hs1, rfl, h1, hg1⟩
  have HS1 := Lib.hid hs1; have H1 := Lib.hid h1; have HG1 := Lib.hid (grown_trans HG0.out hg1); clear hs1 h1 hg1
  go_wp2_with fail
  refine (s_l1Some w.heap.size (0 + 27) _ (by omega) H1.out).mono ?_
  rintro e w2 ⟨z2, rfl, h2, hg2⟩
  have H2 := Lib.hid h2; have HG2 := Lib.hid (grown_trans HG1.out hg2); clear h2 hg2
  go_wp2_with fail
  go_ret3
  exact ⟨⟨z1, s1, z2, HS1.out, rfl⟩, drawn_below HB0.out HG2.out (Nat.le_refl _)⟩
theorem s_DrawFindProof (a : Option Addr) (len cap : Nat) (w : World) (hin : ByteIn w a len cap) : Calls Try.prog 66 #[.slice a len cap] w (fun e w' => (∃ z s q, Small s ∧ e = .returned (.tuple #[.int .i64 z, .string s, .int .i64 q])) ∧ Below w.heap.size w w') := by
  go_enter Try.func66, Try.ntmps66
  go_wp2_with fail
  refine (s_DrawWeakestInvariant a len cap _ hin).mono ?_
  rintro e w0 ⟨⟨z, s, q, hs, rfl⟩, hb⟩
  go_wp2_with fail
  go_ret3
  exact ⟨⟨z, s, q, hs, rfl⟩, hb⟩
end Go.Proofs.Ytiaeakpgldpaiaa
