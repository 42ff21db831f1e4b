/- Joined texts: Ints, ToInts, DrawA, DrawB, DrawC, DrawD, DrawE, DrawF. -/
import Derived.Test.YtiaeakpgldpaiaaGreatProg
import Derived.Test.YtiaeakpgldpaiaaGreatQJ1
import Derived.Deep.AppendLies
import Derived.OwnWalk
import Derived.Laws.OwnMore
import Derived.Test.YtiaeakpgldpaiaaGreatQJ2
namespace Go.Proofs.YtiaeakpgldpaiaaGreat
set_option linter.unusedSimpArgs false
set_option linter.unusedVariables false
set_option maxRecDepth 4000
open Go.RowKit

theorem infoInt : (Tryz.prog.info? 3).map (fun i => (i.zero, i.size, i.bytes)) = some (some (.int .i64 0), 1, 8) := by kernel_rfl
/-- The slice v holds the numbers zs, in a block from B on. -/
def IntsAt (B : Nat) (w : World) (v : Value) (zs : List Int) : Prop :=
  ∃ g cap cur, v = .slice (some ⟨g, 0, none⟩) zs.length cap ∧ B ≤ g ∧ RowAt w g 3 cur ∧ cur.size = cap ∧ zs.length ≤ cap ∧ cap ≤ maxLen ∧ ∀ (i : Nat) (z : Int), zs[i]? = some z → cur[i]? = some (Value.int .i64 z)
theorem IntsAt.later {B : Nat} {w w' : World} {v : Value} {zs : List Int} (h : IntsAt B w v zs) (hb : Below w.heap.size w w') : IntsAt B w' v zs := by
  obtain ⟨g, cap, cur, h1, h2, h3, h4⟩ := h
  exact ⟨g, cap, cur, h1, h2, h3.later hb, h4⟩
theorem IntsAt.of_lit {B g : Nat} {w : World} {zs : List Int} (hB : B ≤ g) (h : RowAt w g 3 (zs.map (Value.int .i64)).toArray) (hm : zs.length ≤ maxLen) : IntsAt B w (.slice (some ⟨g, 0, none⟩) zs.length zs.length) zs :=
  ⟨g, zs.length, _, rfl, hB, h, by simp, Nat.le_refl _, hm, fun i z hz => by simp [hz]⟩
theorem IntsAt.owns {B : Nat} {w : World} {v : Value} {zs : List Int} (h : IntsAt B w v zs) : w.ownsRow B 3 1 v zs.length (zs.map (Value.int .i64)) := by
  obtain ⟨g, cap, cur, rfl, h2, h3, h4, h5, h6, h7⟩ := h
  refine ⟨by simp, .inr ⟨g, cap, cur, rfl, h2, h3, h5, h6, by omega, ?_⟩⟩
  apply List.ext_getElem?
  intro i
  rw [List.getElem?_take, List.getElem?_map]
  by_cases hi : i < zs.length
  · rw [if_pos (by omega)]
    have hz : zs[i]? = some zs[i] := List.getElem?_eq_getElem hi
    have := h7 i _ hz
    rw [hz]
    simpa using this
  · rw [if_neg (by omega), List.getElem?_eq_none (by omega)]
    rfl
theorem IntsAt.of_owns {B g n cap : Nat} {w : World} {zs : List Int} (hn : n = zs.length) (h : w.ownsRow B 3 1 (.slice (some ⟨g, 0, none⟩) n cap) n (zs.map (Value.int .i64))) : IntsAt B w (.slice (some ⟨g, 0, none⟩) n cap) zs := by
  subst hn
  rcases h.2 with ⟨h', _⟩ | ⟨g', cap', cur, h', hb, hg, h5, h6, h4, htake⟩
  · simp at h'
  · simp only [Value.slice.injEq, Option.some.injEq, Addr.mk.injEq, and_true, true_and] at h'
    obtain ⟨rfl, rfl⟩ := h'
    refine ⟨g, cap, cur, rfl, hb, hg, by omega, h5, h6, fun i z hz => ?_⟩
    have hlt : i < zs.length := (List.getElem?_eq_some_iff.1 hz).1
    have : (cur.toList.take (zs.length * 1))[i]? = (zs.map (Value.int .i64))[i]? := by rw [htake]
    rw [List.getElem?_take, if_pos (by omega), List.getElem?_map, hz] at this
    simpa using this
theorem IntsAt.kept {B g1 : Nat} {w w' : World} {v : Value} {zs : List Int} (h : IntsAt B w v zs) (hg : w.grownBy w' (some g1)) (hne : ∀ g, v.ownBlock = some g → g ≠ g1) : IntsAt B w' v zs := by
  obtain ⟨g, cap, cur, rfl, h2, h3, h4⟩ := h
  exact ⟨g, cap, cur, rfl, h2, (hg.block g h3.lt (fun e => hne g rfl (by injection e))).trans h3, h4⟩
theorem IntsAt.block {B : Nat} {w : World} {v : Value} {zs : List Int} (h : IntsAt B w v zs) : ∃ g, v.ownBlock = some g ∧ B ≤ g ∧ g < w.heap.size := by
  obtain ⟨g, cap, cur, rfl, h2, h3, _⟩ := h
  exact ⟨g, rfl, h2, h3.lt⟩
theorem IntsAt.apart {B B' g1 : Nat} {w wx : World} {v v1 : Value} {zs zs1 : List Int} (h : IntsAt B w v zs) (h1 : IntsAt B' wx v1 zs1) (hg1 : v1.ownBlock = some g1) (hsz : w.heap.size ≤ B') : (∀ g, v.ownBlock = some g → g ≠ g1) := by
  intro g hg
  obtain ⟨ga, ha, _, ha3⟩ := h.block
  obtain ⟨gb, hb, hb2, _⟩ := h1.block
  rw [hg] at ha; rw [hg1] at hb
  cases ha; cases hb
  omega
/-- The marks. -/
def marks (n : Nat) : List Int := zrow n (fun i => (i : Int) + 1)
theorem marks_len (n : Nat) : (marks n).length = n := zrow_len _ _
theorem marks_get (n i : Nat) (h : i < n) : (marks n)[i]? = some ((i : Int) + 1) := zrow_get _ _ i h
theorem grown_set {w wr : World} {g i : Nat} {u : Value} (hg : w.grownBy wr (some g)) : w.grownBy (wr.setCell ⟨g, i, none⟩ u) (some g) :=
  ⟨hg.os, hg.tape, hg.output, by have := hg.size; simpa using this, fun k hk hne => (heap_setCell_other wr ⟨g, i, none⟩ k u (fun e => hne (by rw [e]))).trans (hg.block k hk hne)⟩
end Go.Proofs.YtiaeakpgldpaiaaGreat
namespace Go.Proofs.YtiaeakpgldpaiaaGreat
set_option linter.unusedSimpArgs false
set_option linter.unusedVariables false
set_option maxRecDepth 4000
open Go.RowKit

/-- A slice that came in: nil, or len of the cap numbers zs from an address on. -/
def IsRow (k : IntKind) (W : World) (a : Option Addr) (len cap : Nat) (zs : List Int) : Prop :=
  (a = none ∧ len = 0 ∧ cap = 0 ∧ zs = []) ∨
  ∃ x, a = some x ∧ len ≤ cap ∧ cap ≤ maxLen ∧ zs.length = cap ∧ (∀ i, i < zs.length → W.cell? (x.add i) = some (.int k (zs.getD i 0))) ∧ ∀ n ∈ zs, (Lit.int k n).wf = true
theorem cell_lt {w : World} {a : Addr} {v : Value} (h : w.cell? a = some v) : a.block < w.heap.size := World.block_lt_of_cell? w a h
theorem IsRow.later {k : IntKind} {W W' : World} {a : Option Addr} {len cap : Nat} {zs : List Int} (h : IsRow k W a len cap zs) (hb : Below W.heap.size W W') : IsRow k W' a len cap zs := by
  rcases h with h | ⟨x, h1, h2, h3, h4, h5, h6⟩
  · exact .inl h
  · exact .inr ⟨x, h1, h2, h3, h4, fun i hi => (hb.cell (cell_lt (h5 i hi))).trans (h5 i hi), h6⟩
/-- A slice that came in, told by its elements alone. -/
def InRow (k : IntKind) (W : World) (a : Option Addr) (len cap : Nat) (zs : List Int) : Prop :=
  zs.length = len ∧ len ≤ cap ∧ cap ≤ maxLen ∧ (len = 0 ∨ ∃ b off, a = some ⟨b, off, none⟩ ∧ b < W.heap.size ∧ ∀ i, i < len → W.cell? ⟨b, off + i, none⟩ = some (.int k (zs.getD i 0)))
theorem IsRow.row {k : IntKind} {W : World} {a : Option Addr} {len cap : Nat} {zs : List Int} (h : IsRow k W a len cap zs) : InRow k W a len cap (zs.take len) := by
  rcases h with ⟨rfl, rfl, rfl, rfl⟩ | ⟨x, rfl, h2, h3, h4, h5, _⟩
  · exact ⟨rfl, Nat.le_refl _, Nat.zero_le _, .inl rfl⟩
  · refine ⟨by rw [List.length_take]; omega, h2, h3, ?_⟩
    by_cases h0 : len = 0
    · exact .inl h0
    · right
      have c0 := h5 0 (by omega)
      have hs : x.spot = none := by
        have := World.cell?_spot c0
        rwa [show x.add 0 = x from rfl] at this
      obtain ⟨b, off, spot⟩ := x
      have hs' : spot = none := hs
      subst hs'
      refine ⟨b, off, rfl, ?_, fun i hi => ?_⟩
      · have := cell_lt c0; rwa [show (⟨b, off, none⟩ : Addr).add 0 = ⟨b, off, none⟩ from rfl] at this
      · have := h5 i (by omega)
        rw [show (⟨b, off, none⟩ : Addr).add i = ⟨b, off + i, none⟩ from by cases i <;> rfl] at this
        rw [this]
        congr 2
        rw [List.getD_eq_getElem?_getD, List.getD_eq_getElem?_getD, List.getElem?_take, if_pos hi]
theorem InRow.later {k : IntKind} {W W' : World} {a : Option Addr} {len cap : Nat} {zs : List Int} (h : InRow k W a len cap zs) (hb : Below W.heap.size W W') : InRow k W' a len cap zs := by
  obtain ⟨h1, h2, h3, h4⟩ := h
  refine ⟨h1, h2, h3, ?_⟩
  rcases h4 with h4 | ⟨b, off, h5, h6, h7⟩
  · exact .inl h4
  · exact .inr ⟨b, off, h5, by have := hb.size; omega, fun i hi => (hb.cell (p := ⟨b, off + i, none⟩) h6).trans (h7 i hi)⟩
end Go.Proofs.YtiaeakpgldpaiaaGreat
namespace Go.Proofs.YtiaeakpgldpaiaaGreat
set_option linter.unusedSimpArgs false
set_option linter.unusedVariables false
set_option maxRecDepth 4000
open Go.RowKit

theorem bits_xor_nat (a b : Nat) (ha : a < 2 ^ 40) (hb : b < 2 ^ 40) : bits .xor .i64 (a : Int) (b : Int) = ((a ^^^ b : Nat) : Int) := by
  have hp : (2 : Nat) ^ 40 ≤ 2 ^ IntKind.i64.bits := Nat.pow_le_pow_right (by decide) (by decide)
  have ha' : a % 2 ^ IntKind.i64.bits = a := Nat.mod_eq_of_lt (Nat.lt_of_lt_of_le ha hp)
  have hb' : b % 2 ^ IntKind.i64.bits = b := Nat.mod_eq_of_lt (Nat.lt_of_lt_of_le hb hp)
  have hx : a ^^^ b < 2 ^ 40 := Nat.xor_lt_two_pow ha hb
  simp only [bits, BitVec.ofInt_natCast, BitVec.toNat_xor, BitVec.toNat_ofNat, ha', hb']
  exact IntWalk.i64_in _ ⟨by omega, by omega⟩
theorem grown_trans {a b c : World} {r : Option Nat} (h : a.grownBy b r) (k : b.grownBy c r) : a.grownBy c r :=
  ⟨k.os.trans h.os, k.tape.trans h.tape, k.output.trans h.output, Nat.le_trans h.size k.size, fun i hi hne => (k.block i (Nat.lt_of_lt_of_le hi h.size) hne).trans (h.block i hi hne)⟩
theorem grown_drewN {a b : World} {r : Option Nat} (h : a.grownBy b r) (n : Nat) : a.grownBy (b.drewN n) r := ⟨h.os, h.tape, h.output, h.size, h.block⟩
theorem grown_alloc {a b : World} {r : Option Nat} (h : a.grownBy b r) (o : Obj) : a.grownBy (b.alloc o) r := grown_trans h (World.grownBy_alloc b o r)
theorem grown_below {a b c : World} {r : Option Nat} (h : a.grownBy b r) (k : Below b.heap.size b c) : a.grownBy c r :=
  grown_trans h ⟨k.os, k.tape, k.output, k.size, fun i hi _ => k.block i hi⟩
theorem RowAt.grownR {w w' : World} {b : Nat} {t : TypeId} {cs : Array Value} {row : Option Nat} (h : RowAt w b t cs) (hg : w.grownBy w' row) (hne : row ≠ some b) : RowAt w' b t cs :=
  (hg.block b h.lt fun e => hne e.symm).trans h
/-- The drawer at the block g: the bytes that came in, none of them in g, and how many draws there were. -/
def RdAt (w : World) (g p : Nat) : Prop := ∃ a len cap, RowAt w g 72 #[.slice a len cap, .int .i64 (p : Int)] ∧ len ≤ 2000 ∧ len ≤ cap ∧ cap ≤ maxLen ∧ (len = 0 ∨ ∃ b off, a = some ⟨b, off, none⟩ ∧ b < g ∧ ∀ i, i < len → ∃ z : Nat, z < 256 ∧ w.cell? ⟨b, off + i, none⟩ = some (.int .u8 (z : Int)))
theorem RdAt.lt {w : World} {g p : Nat} (h : RdAt w g p) : g < w.heap.size := by obtain ⟨_, _, _, h, _⟩ := h; exact h.lt
theorem RdAt.later {w w' : World} {g p : Nat} (h : RdAt w g p) (hb : Below w.heap.size w w') : RdAt w' g p := by
  obtain ⟨a, len, cap, hr, h1, h2, h3, h4⟩ := h
  refine ⟨a, len, cap, hr.later hb, h1, h2, h3, ?_⟩
  rcases h4 with h4 | ⟨b, off, h5, h6, h7⟩
  · exact .inl h4
  · refine .inr ⟨b, off, h5, h6, fun i hi => ?_⟩
    obtain ⟨z, hz, hc⟩ := h7 i hi
    exact ⟨z, hz, (hb.cell (p := ⟨b, off + i, none⟩) (Nat.lt_trans h6 hr.lt)).trans hc⟩
/-- What a draw leaves. -/
def DrewAt (w : World) (g p n : Nat) (w' : World) : Prop := (∃ q, q ≤ p + n ∧ RdAt w' g q) ∧ w.grownBy w' (some g)
/-- A draw of a number below n. -/
def PickPost (w : World) (g p n : Nat) (e : Ending) (w' : World) : Prop := ∃ k : Nat, k < n ∧ e = .returned (.int .i64 (k : Int)) ∧ RdAt w' g (p + 1) ∧ w.grownBy w' (some g)
set_option maxHeartbeats 2000000 in
theorem s_pick (g p n : Nat) (z : Int) (w : World) (hz : z = (n : Int)) (hn : 1 ≤ n) (hn2 : n ≤ 100000) (hp : p ≤ 100000) (h : RdAt w g p) : Calls Tryz.prog 24 #[.pointer (some ⟨g, 0, none⟩), .int .i64 z] w (PickPost w g p n) := by
  subst hz
  obtain ⟨a, len, cap, hr, h1, h2, h3, h4⟩ := h
  have c0 : w.cell? ⟨g, 0, none⟩ = some (.slice a len cap) := hr.get 0
  have c1 : w.cell? ⟨g, 1, none⟩ = some (.int .i64 (p : Int)) := hr.get 1
  have f1 := hr.free 1
  have hr' : RowAt (w.setCell ⟨g, 1, none⟩ (.int .i64 ((p : Int) + 1))) g 72 #[.slice a len cap, .int .i64 ((p + 1 : Nat) : Int)] := heap_setCell_same w g 1 _ _ _ hr
  have hg' : w.grownBy (w.setCell ⟨g, 1, none⟩ (.int .i64 ((p : Int) + 1))) (some g) := grown_set (World.grownBy.refl w _)
  have hpost : ∀ (k : Nat) (m : Nat), k < n → PickPost w g p n (.returned (.int .i64 (k : Int))) ((w.setCell ⟨g, 1, none⟩ (.int .i64 ((p : Int) + 1))).drewN m) := fun k m hk => by
    refine ⟨k, hk, rfl, ⟨a, len, cap, hr'.drewN m, h1, h2, h3, ?_⟩, grown_drewN hg' m⟩
    rcases h4 with h4 | ⟨b, off, h5, h6, h7⟩
    · exact .inl h4
    · refine .inr ⟨b, off, h5, h6, fun i hi => ?_⟩
      obtain ⟨z, hz, hc⟩ := h7 i hi
      refine ⟨z, hz, ?_⟩
      show (w.setCell ⟨g, 1, none⟩ _).cell? ⟨b, off + i, none⟩ = _
      rw [World.cell?_of_block (w := w) (heap_setCell_other w ⟨g, 1, none⟩ b _ (by show b ≠ g; omega))]
      exact hc
  have HP := Lib.hid hpost; clear hpost hr' hg'
  by_cases h0 : len = 0
  · have b0 : ((len : Int) == 0) = true := by simp [h0]
    clear h4 h0
    go_enter Tryz.func24, Tryz.ntmps24
    go_wp2_with fail
    go_ret
    exact HP.out 0 0 (by omega)
  have b0 : ((len : Int) == 0) = false := by rw [beq_eq_false_iff_ne]; omega
  obtain ⟨b, off, ha, hbg, hcell⟩ := h4.resolve_left h0
  subst ha
  have hne : ∀ i v, (w.setCell ⟨g, 1, none⟩ v).cell? ⟨b, i, none⟩ = w.cell? ⟨b, i, none⟩ := fun i v => World.cell?_of_block (w := w) (heap_setCell_other w ⟨g, 1, none⟩ b v (by show b ≠ g; omega))
  by_cases hlt : p < len
  · obtain ⟨z, hz, hc⟩ := hcell p hlt
    have cz : (w.setCell ⟨g, 1, none⟩ (.int .i64 ((p : Int) + 1))).cell? ⟨b, off + p, none⟩ = some (.int .u8 (z : Int)) := (hne _ _).trans hc
    have hm : (z : Int) % (n : Int) = ((z % n : Nat) : Int) := by simp
    have HM := Lib.hid hm
    clear hcell hc hne h4 hm
    go_enter Tryz.func24, Tryz.ntmps24
    go_wp2_with fail
    go_ret
    show PickPost w g p n (.returned (.int .i64 ((z : Int) % (n : Int)))) _
    rw [HM.out]
    exact HP.out (z % n) 0 (Nat.mod_lt _ (by omega))
  · obtain ⟨z1, hz1, hc1⟩ := hcell (p % len) (Nat.mod_lt _ (by omega))
    obtain ⟨z2, hz2, hc2⟩ := hcell ((p * 7 + 3) % len) (Nat.mod_lt _ (by omega))
    have cz1 : (w.setCell ⟨g, 1, none⟩ (.int .i64 ((p : Int) + 1))).cell? ⟨b, off + p % len, none⟩ = some (.int .u8 (z1 : Int)) := (hne _ _).trans hc1
    have cz2 : (w.setCell ⟨g, 1, none⟩ (.int .i64 ((p : Int) + 1))).cell? ⟨b, off + (p * 7 + 3) % len, none⟩ = some (.int .u8 (z2 : Int)) := (hne _ _).trans hc2
    have g0 : (w.setCell ⟨g, 1, none⟩ (.int .i64 ((p : Int) + 1))).cell? ⟨g, 0, none⟩ = some (.slice (some ⟨b, off, none⟩) len cap) := (show RowAt _ g 72 _ from heap_setCell_same w g 1 _ _ (.int .i64 ((p : Int) + 1)) hr).get 0
    have i1 : (0 : Int) ≤ ((p % len : Nat) : Int) ∧ ((p % len : Nat) : Int) < (len : Int) := lt_cast (Nat.mod_lt _ (by omega))
    have i2 : (0 : Int) ≤ (((p * 7 + 3) % len : Nat) : Int) ∧ (((p * 7 + 3) % len : Nat) : Int) < (len : Int) := lt_cast (Nat.mod_lt _ (by omega))
    have i3 : (0 : Int) ≤ ((p : Int) * 7 + 3) % (len : Int) ∧ ((p : Int) * 7 + 3) % (len : Int) < (len : Int) := ⟨Int.emod_nonneg _ (by omega), Int.emod_lt_of_pos _ (by omega)⟩
    have i4 : (0 : Int) ≤ (p : Int) % (len : Int) ∧ (p : Int) % (len : Int) < (len : Int) := ⟨Int.emod_nonneg _ (by omega), Int.emod_lt_of_pos _ (by omega)⟩
    have t3 : (((p : Int) * 7 + 3) % (len : Int)).toNat = (p * 7 + 3) % len := by rw [show ((p : Int) * 7 + 3) % (len : Int) = (((p * 7 + 3) % len : Nat) : Int) from by simp]; rfl
    have m1 : ((p : Int)).tmod (len : Int) = ((p % len : Nat) : Int) := rfl
    have m2 : ((p : Int) * 7 + 3).tmod (len : Int) = (((p * 7 + 3) % len : Nat) : Int) := rfl
    obtain ⟨d, hdd⟩ : ∃ d, d = p / len := ⟨_, rfl⟩
    have m3 : ((p : Int)).tdiv (len : Int) = (d : Int) := by rw [hdd]; rfl
    have hd : d ≤ 100000 := by rw [hdd]; exact Nat.le_trans (Nat.div_le_self _ _) hp
    clear hdd
    have bl : ((len : Int) == 0) = false := b0
    have k1 : IntKind.i64.wrap ((z1 : Int) * 131) = (z1 : Int) * 131 := IntWalk.i64_in _ ⟨by omega, by omega⟩
    have k2 : IntKind.i64.wrap ((p : Int) * 7) = (p : Int) * 7 := IntWalk.i64_in _ ⟨by omega, by omega⟩
    have k3 : IntKind.i64.wrap ((p : Int) * 7 + 3) = (p : Int) * 7 + 3 := IntWalk.i64_in _ ⟨by omega, by omega⟩
    have k4 : IntKind.i64.wrap ((z2 : Int) * 1117) = (z2 : Int) * 1117 := IntWalk.i64_in _ ⟨by omega, by omega⟩
    have k5 : IntKind.i64.wrap ((z1 : Int) * 131 + (z2 : Int) * 1117) = (z1 : Int) * 131 + (z2 : Int) * 1117 := IntWalk.i64_in _ ⟨by omega, by omega⟩
    have k6 : IntKind.i64.wrap ((p : Int) * 29) = (p : Int) * 29 := IntWalk.i64_in _ ⟨by omega, by omega⟩
    have k7 : IntKind.i64.wrap ((z1 : Int) * 131 + (z2 : Int) * 1117 + (p : Int) * 29) = (z1 : Int) * 131 + (z2 : Int) * 1117 + (p : Int) * 29 := IntWalk.i64_in _ ⟨by omega, by omega⟩
    have k8 : IntKind.i64.wrap ((d : Int) * 53) = (d : Int) * 53 := IntWalk.i64_in _ ⟨by omega, by omega⟩
    have k9 : IntKind.i64.wrap ((z1 : Int) * 131 + (z2 : Int) * 1117 + (p : Int) * 29 + (d : Int) * 53) = (z1 : Int) * 131 + (z2 : Int) * 1117 + (p : Int) * 29 + (d : Int) * 53 := IntWalk.i64_in _ ⟨by omega, by omega⟩
    clear hcell hc1 hc2 hne h4 c0 hr
    go_enter Tryz.func24, Tryz.ntmps24
    go_wp2_with fail
    refine wp_region_quiet_lit (by kernel_rfl) (by kernel_rfl) ?_
    repeat (any_goals (first | go_big_quiet_step (fail) | quiet_step (fail)))
    all_goals (refine wpQuiet_nil ?_; intro _ hw'; obtain ⟨nq, hw''⟩ := hw'; subst hw'')
    obtain ⟨X, hX⟩ : ∃ X : Nat, (z1 : Int) * 131 + (z2 : Int) * 1117 + (p : Int) * 29 + (d : Int) * 53 = (X : Int) := ⟨z1 * 131 + z2 * 1117 + p * 29 + d * 53, by simp⟩
    have hXl : X < 2 ^ 40 := by omega
    have ex : bits .xor .i64 ((X : Nat) : Int) ((X : Int) / 64) = ((X ^^^ X / 64 : Nat) : Int) := by
      rw [show ((X : Int) / 64) = ((X / 64 : Nat) : Int) from by simp]
      exact bits_xor_nat X (X / 64) hXl (Nat.lt_of_le_of_lt (Nat.div_le_self _ _) hXl)
    clear k1 k2 k3 k4 k5 k6 k7 k8 k9 m1 m2 m3 i1 i2 i3 i4 t3 cz1 cz2
    go_wp2_with fail
    go_ret
    have hk := HP.out ((X ^^^ X / 64) % n) nq (Nat.mod_lt _ (by omega))
    rw [show (((X ^^^ X / 64) % n : Nat) : Int) = ((X ^^^ X / 64 : Nat) : Int) % (n : Int) from by simp] at hk
    exact hk
end Go.Proofs.YtiaeakpgldpaiaaGreat
namespace Go.Proofs.YtiaeakpgldpaiaaGreat
set_option linter.unusedSimpArgs false
set_option linter.unusedVariables false
set_option maxRecDepth 4000
open Go.RowKit

/-- The drawer after at most P draws. -/
def RdIn (w : World) (g P : Nat) : Prop := ∃ p, p ≤ P ∧ RdAt w g p
theorem RdIn.mono {w : World} {g P Q : Nat} (h : RdIn w g P) (hq : P ≤ Q) : RdIn w g Q := by obtain ⟨p, h1, h2⟩ := h; exact ⟨p, by omega, h2⟩
theorem RdIn.later {w w' : World} {g P : Nat} (h : RdIn w g P) (hb : Below w.heap.size w w') : RdIn w' g P := by obtain ⟨p, h1, h2⟩ := h; exact ⟨p, h1, h2.later hb⟩
theorem RdIn.lt {w : World} {g P : Nat} (h : RdIn w g P) : g < w.heap.size := by obtain ⟨p, h1, h2⟩ := h; exact h2.lt
theorem RdIn.alloc {w : World} {g P : Nat} (h : RdIn w g P) (o : Obj) : RdIn (w.alloc o) g P := h.later ((Below.refl _ _).alloc (Nat.le_refl _) _)
/-- A number below n. -/
def NumPost (w : World) (g P n : Nat) (e : Ending) (w' : World) : Prop := ∃ k : Nat, k < n ∧ e = .returned (.int .i64 (k : Int)) ∧ RdIn w' g (P + 1) ∧ w.grownBy w' (some g)
theorem s_pickIn (g P n : Nat) (z : Int) (w : World) (hz : z = (n : Int)) (hn : 1 ≤ n) (hn2 : n ≤ 100000) (hp : P ≤ 100000) (h : RdIn w g P) : Calls Tryz.prog 24 #[.pointer (some ⟨g, 0, none⟩), .int .i64 z] w (NumPost w g P n) := by
  obtain ⟨p, h1, h2⟩ := h
  exact (s_pick g p n z w hz hn hn2 (by omega) h2).mono fun e w' ⟨k, hk, he, hr, hg⟩ => ⟨k, hk, he, ⟨p + 1, by omega, hr⟩, hg⟩
/-- A number of a list. -/
def OfPost (w : World) (g P : Nat) (A : Value → Prop) (e : Ending) (w' : World) : Prop := ∃ v, A v ∧ e = .returned v ∧ RdIn w' g (P + 1) ∧ w.grownBy w' (some g)
theorem s_num (g P b : Nat) (zs : List Int) (w : World) (hn : 1 ≤ zs.length) (hn2 : zs.length ≤ 1000) (hp : P ≤ 100000) (h : RdIn w g P) (hb : b ≠ g) (hr : RowAt w b 3 (zs.map (Value.int .i64)).toArray) : Calls Tryz.prog 99 #[.pointer (some ⟨g, 0, none⟩), .slice (some ⟨b, 0, none⟩) zs.length zs.length] w (OfPost w g P (fun v => ∃ z, z ∈ zs ∧ v = .int .i64 z)) := by
  go_enter Tryz.func99, Tryz.ntmps99
  go_wp2_with fail
  refine (s_pickIn g P zs.length _ _ rfl hn (by omega) hp h).mono ?_
  rintro e w1 ⟨k, hk, rfl, h1, hg⟩
  have hz : zs[k]? = some zs[k] := List.getElem?_eq_getElem hk
  have c1 : w1.cell? ⟨b, k, none⟩ = some (.int .i64 zs[k]) := ((hr.grownR hg (fun e => hb (by injection e with e; exact e.symm))).get k).trans (by simp [hz])
  have i1 := lt_cast hk
  have H1 := Lib.hid h1; have HG := Lib.hid hg; clear h1 hg hz
  go_wp2_with fail
  go_ret
  exact ⟨_, ⟨zs[k], List.getElem_mem hk, rfl⟩, rfl, H1.out, HG.out⟩
theorem s_of (g P b : Nat) (ts : List ByteArray) (w : World) (hn : 1 ≤ ts.length) (hn2 : ts.length ≤ 1000) (hp : P ≤ 100000) (h : RdIn w g P) (hb : b ≠ g) (hr : RowAt w b 9 (ts.map Value.string).toArray) : Calls Tryz.prog 101 #[.pointer (some ⟨g, 0, none⟩), .slice (some ⟨b, 0, none⟩) ts.length ts.length] w (OfPost w g P (fun v => ∃ t, t ∈ ts ∧ v = .string t)) := by
  go_enter Tryz.func101, Tryz.ntmps101
  go_wp2_with fail
  refine (s_pickIn g P ts.length _ _ rfl hn (by omega) hp h).mono ?_
  rintro e w1 ⟨k, hk, rfl, h1, hg⟩
  have hz : ts[k]? = some ts[k] := List.getElem?_eq_getElem hk
  have c1 : w1.cell? ⟨b, k, none⟩ = some (.string ts[k]) := ((hr.grownR hg (fun e => hb (by injection e with e; exact e.symm))).get k).trans (by simp [hz])
  have i1 := lt_cast hk
  have H1 := Lib.hid h1; have HG := Lib.hid hg; clear h1 hg hz
  go_wp2_with fail
  go_ret
  exact ⟨_, ⟨ts[k], List.getElem_mem hk, rfl⟩, rfl, H1.out, HG.out⟩
/-- Some number; some text of a kind. -/
def IntPost (w : World) (g P : Nat) (e : Ending) (w' : World) : Prop := ∃ z : Int, e = .returned (.int .i64 z) ∧ RdIn w' g P ∧ w.grownBy w' (some g)
def TxtPost (w : World) (g P : Nat) (A : ByteArray → Prop) (e : Ending) (w' : World) : Prop := ∃ s, A s ∧ e = .returned (.string s) ∧ RdIn w' g P ∧ w.grownBy w' (some g)
theorem s_l1Some (g P : Nat) (w : World) (hp : P + 2 ≤ 100000) (h : RdIn w g P) : Calls Tryz.prog 51 #[.pointer (some ⟨g, 0, none⟩)] w (IntPost w g (P + 2)) := by
  go_enter Tryz.func51, Tryz.ntmps51
  go_wp2_with fail
  refine (s_pickIn g P 24 _ _ rfl (by omega) (by omega) (by omega) h).mono ?_
  rintro e w1 ⟨k, hk, rfl, h1, hg⟩
  have HG := Lib.hid hg; clear hg
  by_cases h0 : k = 0
  · have b0 : ((k : Int) == 0) = true := by simp [h0]
    have hr := RowAt.fresh w1 3 (([-1, 16, 9223372036854775807] : List Int).map (Value.int .i64)).toArray
    have hlt := h1.lt
    have H1 := Lib.hid (h1.alloc (.cells (([-1, 16, 9223372036854775807] : List Int).map (Value.int .i64)).toArray 3)); have HR := Lib.hid hr
    clear h0 hr h1
    go_wp2_with fail
    refine (s_num g (P + 1) w1.heap.size [-1, 16, 9223372036854775807] _ (by decide) (by decide) (by omega) H1.out (by omega) HR.out).mono ?_
    rintro e w2 ⟨v, ⟨z, _, rfl⟩, rfl, h2, hg2⟩
    have H2 := Lib.hid h2; have HG2 := Lib.hid hg2; clear h2 hg2
    go_wp2_with fail
    go_ret
    exact ⟨_, rfl, H2.out, grown_trans (grown_alloc HG.out _) HG2.out⟩
  · have b0 : ((k : Int) == 0) = false := by rw [beq_eq_false_iff_ne]; omega
    have H1 := Lib.hid h1; clear h0 h1
    go_wp2_with fail
    refine (s_pickIn g (P + 1) 16 _ _ rfl (by omega) (by omega) (by omega) H1.out).mono ?_
    rintro e w2 ⟨j, hj, rfl, h2, hg2⟩
    have H2 := Lib.hid h2; have HG2 := Lib.hid hg2; clear h2 hg2
    go_wp2_with fail
    go_ret
    exact ⟨_, rfl, H2.out, grown_trans HG.out HG2.out⟩
theorem hexChr_dig (s : ByteArray) (n : Nat) (k : Nat) (h : Dg k s) (hn : n < 16) : Dg (k + 1) (s ++ (⟨#[hexChr n]⟩ : ByteArray)) := by
  have e : s ++ (⟨#[hexChr n]⟩ : ByteArray) = txt (k + 1) (fun i => if i < k then dig s i else n) := by
    rw [← txt_snoc k (fun i => if i < k then dig s i else n)]
    congr 1
    · rw [txt_congr (n := k) (F := fun i => if i < k then dig s i else n) (G := dig s) fun i hi => by rw [if_pos hi], txt_of s k h.1 h.2]
    · rw [if_neg (Nat.lt_irrefl k)]
  rw [e]
  exact Dg.txt fun i _ => by split; exact dig_lt _ _; exact hn
theorem Dg_nil : Dg 0 ⟨#[]⟩ := ⟨rfl, rfl⟩
theorem Dg_size {k : Nat} {s : ByteArray} (h : Dg k s) : s.size = k := h.1
set_option maxHeartbeats 2000000 in
theorem s_l2Some (g P : Nat) (w : World) (hp : P + 9 ≤ 100000) (h : RdIn w g P) : Calls Tryz.prog 43 #[.pointer (some ⟨g, 0, none⟩)] w (TxtPost w g (P + 9) (Dg 4)) := by
  go_enter Tryz.func43, Tryz.ntmps43
  go_wp2_with fail
  refine (s_pickIn g P 4 _ _ rfl (by omega) (by omega) (by omega) h).mono ?_
  rintro e w1 ⟨c, hc, rfl, h1, hg⟩
  have HG := Lib.hid hg; have H1 := Lib.hid h1; clear hg h1
  have hcs : c = 0 ∨ c = 1 ∨ (c ≠ 0 ∧ c ≠ 1) := by omega
  rcases hcs with h0 | h0 | h0
  · have b0 : ((c : Int) == 0) = true := by simp [h0]
    have b1 : ((c : Int) == 1) = false := by simp [h0]
    clear h0
    go_wp2_with fail
    go_loopw [3, 5] (fun o i wr => ∃ (k : Nat) (s : ByteArray), k ≤ 4 ∧ i = .int .i64 k ∧ o = .string s ∧ Hid (Dg k s) ∧ Hid (RdIn wr g (P + 1 + 2 * k)) ∧ Hid (w.grownBy wr (some g))) (fun _ i _ => 4 - (intOf i).toNat)
    case atStart => exact ⟨0, ⟨#[]⟩, by omega, rfl, rfl, Lib.hid Dg_nil, H1, HG⟩
    case round =>
      obtain ⟨k, s, hk, rfl, rfl, HD, HRD, HGR⟩ := hrel
      by_cases hlt : k < 4
      · have hsz : s.size ≤ 4 := by have := Dg_size HD.out; omega
        go_wp2_with fail
        refine (s_pickIn g (P + 1 + 2 * k) 16 _ _ rfl (by omega) (by omega) (by omega) HRD.out).mono ?_
        rintro e w2 ⟨n, hn, rfl, h2, hg2⟩
        have H2 := Lib.hid h2
        have HG2 := Lib.hid (grown_trans HGR.out hg2)
        clear h2 hg2
        go_wp2_with fail
        refine (s_pickIn g (P + 1 + 2 * k + 1) 4 _ _ rfl (by omega) (by omega) (by omega) H2.out).mono ?_
        rintro e w3 ⟨m, hm, rfl, h3, hg3⟩
        have H3 := Lib.hid h3
        have HG3 := Lib.hid (grown_trans HG2.out hg3)
        clear h3 hg3
        have hw := wrap_one (t := m) (by omega)
        have ho := one_lt hm
        have HD' := Lib.hid (hexChr_dig s (one m) k HD.out ho)
        go_wp2_with fail
        refine (s_l2Digit _ _ ho).mono ?_
        rintro e w' ⟨rfl, rfl⟩
        go_wp2_with fail
        go_roundw
        case rel => exact ⟨k + 1, _, by omega, by go_num, rfl, HD', Lib.hid (H3.out.mono (by omega)), HG3⟩
        case measure => simp [intOf]; omega
      · obtain rfl : k = 4 := by omega
        go_wp2_with fail
        go_ret
        exact ⟨s, HD.out, rfl, HRD.out.mono (by omega), HGR.out⟩
  · have b0 : ((c : Int) == 0) = false := by simp [h0]
    have b1 : ((c : Int) == 1) = true := by simp [h0]
    clear h0
    go_wp2_with fail
    go_loopw [3, 5] (fun o i wr => ∃ (k : Nat) (s : ByteArray), k ≤ 4 ∧ i = .int .i64 k ∧ o = .string s ∧ Hid (Dg k s) ∧ Hid (RdIn wr g (P + 1 + 2 * k)) ∧ Hid (w.grownBy wr (some g))) (fun _ i _ => 4 - (intOf i).toNat)
    case atStart => exact ⟨0, ⟨#[]⟩, by omega, rfl, rfl, Lib.hid Dg_nil, H1, HG⟩
    case round =>
      obtain ⟨k, s, hk, rfl, rfl, HD, HRD, HGR⟩ := hrel
      by_cases hlt : k < 4
      · have hsz : s.size ≤ 4 := by have := Dg_size HD.out; omega
        go_wp2_with fail
        refine (s_pickIn g (P + 1 + 2 * k) 16 _ _ rfl (by omega) (by omega) (by omega) HRD.out).mono ?_
        rintro e w2 ⟨n, hn, rfl, h2, hg2⟩
        have H2 := Lib.hid h2
        have HG2 := Lib.hid (grown_trans HGR.out hg2)
        clear h2 hg2
        go_wp2_with fail
        refine (s_pickIn g (P + 1 + 2 * k + 1) 16 _ _ rfl (by omega) (by omega) (by omega) H2.out).mono ?_
        rintro e w3 ⟨m, hm, rfl, h3, hg3⟩
        have H3 := Lib.hid h3
        have HG3 := Lib.hid (grown_trans HG2.out hg3)
        clear h3 hg3
        have e1 := bits_and_nat n m (by omega) (by omega)
        have ho : n &&& m < 16 := and_lt hn
        have HD' := Lib.hid (hexChr_dig s (n &&& m) k HD.out ho)
        go_wp2_with fail
        refine (s_l2Digit _ _ ho).mono ?_
        rintro e w' ⟨rfl, rfl⟩
        go_wp2_with fail
        go_roundw
        case rel => exact ⟨k + 1, _, by omega, by go_num, rfl, HD', Lib.hid (H3.out.mono (by omega)), HG3⟩
        case measure => simp [intOf]; omega
      · obtain rfl : k = 4 := by omega
        go_wp2_with fail
        go_ret
        exact ⟨s, HD.out, rfl, HRD.out.mono (by omega), HGR.out⟩
  · have b0 : ((c : Int) == 0) = false := by rw [beq_eq_false_iff_ne]; omega
    have b1 : ((c : Int) == 1) = false := by rw [beq_eq_false_iff_ne]; omega
    clear h0
    go_wp2_with fail
    go_loopw [3, 5] (fun o i wr => ∃ (k : Nat) (s : ByteArray), k ≤ 4 ∧ i = .int .i64 k ∧ o = .string s ∧ Hid (Dg k s) ∧ Hid (RdIn wr g (P + 1 + 2 * k)) ∧ Hid (w.grownBy wr (some g))) (fun _ i _ => 4 - (intOf i).toNat)
    case atStart => exact ⟨0, ⟨#[]⟩, by omega, rfl, rfl, Lib.hid Dg_nil, H1, HG⟩
    case round =>
      obtain ⟨k, s, hk, rfl, rfl, HD, HRD, HGR⟩ := hrel
      by_cases hlt : k < 4
      · have hsz : s.size ≤ 4 := by have := Dg_size HD.out; omega
        go_wp2_with fail
        refine (s_pickIn g (P + 1 + 2 * k) 16 _ _ rfl (by omega) (by omega) (by omega) HRD.out).mono ?_
        rintro e w2 ⟨n, hn, rfl, h2, hg2⟩
        have H2 := Lib.hid h2
        have HG2 := Lib.hid (grown_trans HGR.out hg2)
        clear h2 hg2
        have H3 := H2
        have HG3 := HG2
        have HD' := Lib.hid (hexChr_dig s n k HD.out hn)
        go_wp2_with fail
        refine (s_l2Digit _ _ hn).mono ?_
        rintro e w' ⟨rfl, rfl⟩
        go_wp2_with fail
        go_roundw
        case rel => exact ⟨k + 1, _, by omega, by go_num, rfl, HD', Lib.hid (H3.out.mono (by omega)), HG3⟩
        case measure => simp [intOf]; omega
      · obtain rfl : k = 4 := by omega
        go_wp2_with fail
        go_ret
        exact ⟨s, HD.out, rfl, HRD.out.mono (by omega), HGR.out⟩
end Go.Proofs.YtiaeakpgldpaiaaGreat
namespace Go.Proofs.YtiaeakpgldpaiaaGreat
set_option linter.unusedSimpArgs false
set_option linter.unusedVariables false
set_option maxRecDepth 4000
open Go.RowKit

theorem or16_lt {a b : Nat} (h : a < 65536) (h' : b < 65536) : a ||| b < 65536 := Nat.or_lt_two_pow (n := 16) h h'
end Go.Proofs.YtiaeakpgldpaiaaGreat
namespace Go.Proofs.YtiaeakpgldpaiaaGreat
set_option linter.unusedSimpArgs false
set_option linter.unusedVariables false
set_option maxRecDepth 4000
open Go.RowKit

theorem grown_own {a b c : World} {r row : Option Nat} (h : a.grownBy b r) (k : b.grownBy c row) (hr : ∀ j, row = some j → a.heap.size ≤ j) : a.grownBy c r :=
  ⟨k.os.trans h.os, k.tape.trans h.tape, k.output.trans h.output, Nat.le_trans h.size k.size, fun i hi hne => (k.block i (Nat.lt_of_lt_of_le hi h.size) (fun e => by have := hr i e.symm; omega)).trans (h.block i hi hne)⟩
theorem RdAt.kept {w w' : World} {g p : Nat} {row : Option Nat} (h : RdAt w g p) (hg : w.grownBy w' row) (hne : ∀ j, row = some j → g < j) : RdAt w' g p := by
  obtain ⟨a, len, cap, hr, h1, h2, h3, h4⟩ := h
  refine ⟨a, len, cap, hr.grownR hg (fun e => by have := hne _ e; omega), h1, h2, h3, ?_⟩
  rcases h4 with h4 | ⟨b, off, h5, h6, h7⟩
  · exact .inl h4
  · refine .inr ⟨b, off, h5, h6, fun i hi => ?_⟩
    obtain ⟨z, hz, hc⟩ := h7 i hi
    exact ⟨z, hz, hg.cell hc (fun e => by have h9 : g < b := hne _ e.symm; omega)⟩
theorem RdIn.kept {w w' : World} {g P : Nat} {row : Option Nat} (h : RdIn w g P) (hg : w.grownBy w' row) (hne : ∀ j, row = some j → g < j) : RdIn w' g P := by
  obtain ⟨p, h1, h2⟩ := h
  exact ⟨p, h1, h2.kept hg hne⟩
end Go.Proofs.YtiaeakpgldpaiaaGreat
namespace Go.Proofs.YtiaeakpgldpaiaaGreat
set_option linter.unusedSimpArgs false
set_option linter.unusedVariables false
set_option maxRecDepth 4000
open Go.RowKit

/-- A text of no great size. -/
def Small (s : ByteArray) : Prop := s.size ≤ 1000
end Go.Proofs.YtiaeakpgldpaiaaGreat
namespace Go.Proofs.YtiaeakpgldpaiaaGreat
set_option linter.unusedSimpArgs false
set_option linter.unusedVariables false
set_option maxRecDepth 4000
open Go.RowKit

theorem results_tmp4 {fn : Func} {t u v x : Tmp} (h : fn.results = #[.tmp t, .tmp u, .tmp v, .tmp x]) (tmps : Array Value) (P : Program) (w : World) :
    (results fn tmps).run P w = .ok (.tuple #[tmps.getD t undef, tmps.getD u undef, tmps.getD v undef, tmps.getD x undef]) w := by
  simp [results, h]
theorem results_tmp5 {fn : Func} {t u v x y : Tmp} (h : fn.results = #[.tmp t, .tmp u, .tmp v, .tmp x, .tmp y]) (tmps : Array Value) (P : Program) (w : World) :
    (results fn tmps).run P w = .ok (.tuple #[tmps.getD t undef, tmps.getD u undef, tmps.getD v undef, tmps.getD x undef, tmps.getD y undef]) w := by
  simp [results, h]
/-- Bytes that came in. -/
def ByteIn (w : World) (a : Option Addr) (len cap : Nat) : Prop :=
  len ≤ cap ∧ cap ≤ maxLen ∧ (len = 0 ∨ ∃ b off, a = some ⟨b, off, none⟩ ∧ b < w.heap.size ∧ ∀ i, i < len → ∃ z : Nat, z < 256 ∧ w.cell? ⟨b, off + i, none⟩ = some (.int .u8 (z : Int)))
theorem wf_u8_out {n : Int} (h : (Lit.int .u8 n).wf = true) : 0 ≤ n ∧ n ≤ 255 := by
  simp [Lit.wf, IntKind.min, IntKind.max, IntKind.signed, IntKind.bits] at h
  omega
theorem ByteIn.of_row {w : World} {a : Option Addr} {len cap : Nat} {zs : List Int} (h : IsRow .u8 w a len cap zs) : ByteIn w a len cap := by
  obtain ⟨h1, h2, h3, h4⟩ := h.row
  refine ⟨h2, h3, ?_⟩
  rcases h4 with h4 | ⟨b, off, h5, h6, h7⟩
  · exact .inl h4
  · refine .inr ⟨b, off, h5, h6, fun i hi => ?_⟩
    have hc := h7 i hi
    rcases h with ⟨_, hl, _, _⟩ | ⟨x, _, h8, h9, h10, _, hwf⟩
    · omega
    · have hi' : i < zs.length := by omega
      have hg : (zs.take len).getD i 0 = zs[i] := by simp [List.getD, List.getElem?_take, hi, hi']
      obtain ⟨k1, k2⟩ := wf_u8_out (hwf zs[i] (List.getElem_mem hi'))
      refine ⟨zs[i].toNat, by omega, ?_⟩
      rw [hc, hg, Int.toNat_of_nonneg k1]
theorem s_l14Open (a : Option Addr) (len cap : Nat) (w : World) (hin : ByteIn w a len cap) : Calls Tryz.prog 20 #[.slice a len cap] w (fun e w' => e = .returned (.pointer (some ⟨w.heap.size, 0, none⟩)) ∧ RdIn w' w.heap.size 0 ∧ Below w.heap.size w w') := by
  obtain ⟨h1, h2, h3⟩ := hin
  have hml : cap ≤ 9223372036854775807 := by unfold maxLen at h2; omega
  have hrd : ∀ l c, l ≤ len → l ≤ 2000 → l ≤ c → c ≤ maxLen → RdIn (w.alloc (.cells #[.slice a l c, .int .i64 0] 72)) w.heap.size 0 := fun l c hl hl2 hlc hc => by
    refine ⟨0, Nat.le_refl _, a, l, c, RowAt.fresh w _ _, hl2, hlc, hc, ?_⟩
    rcases h3 with h3 | ⟨b, off, h5, h6, h7⟩
    · exact .inl (by omega)
    · refine .inr ⟨b, off, h5, h6, fun i hi => ?_⟩
      obtain ⟨z, hz, hc⟩ := h7 i (by omega)
      exact ⟨z, hz, (((Below.refl w.heap.size w).alloc (Nat.le_refl _) _).cell h6).trans hc⟩
  have hb : ∀ l c, Below w.heap.size w (w.alloc (.cells #[.slice a l c, .int .i64 0] 72)) := fun l c => (Below.refl _ _).alloc (Nat.le_refl _) _
  have HRD := Lib.hid hrd; have HB := Lib.hid hb; clear hrd hb h3
  by_cases hlt : 2000 < len
  · have hd : decide ((2000 : Int) < (len : Int)) = true := by simp; omega
    go_enter Tryz.func20, Tryz.ntmps20
    go_wp2_with fail
    go_ret
    exact ⟨rfl, HRD.out _ _ (by omega) (by omega) (by omega) (by omega), HB.out _ _⟩
  · have hd : decide ((2000 : Int) < (len : Int)) = false := by simp; omega
    go_enter Tryz.func20, Tryz.ntmps20
    go_wp2_with fail
    go_ret
    exact ⟨rfl, HRD.out _ _ (by omega) (by omega) (by omega) (by omega), HB.out _ _⟩
theorem drawn_below {w w0 w1 : World} {g : Nat} (hb : Below w.heap.size w w0) (hg : w0.grownBy w1 (some g)) (hgw : w.heap.size ≤ g) : Below w.heap.size w w1 :=
  hb.grown hg hb.size fun k hk => by cases hk; exact hgw
end Go.Proofs.YtiaeakpgldpaiaaGreat
