/- Small laws on worlds, rows of integers in memory and strings of digits, over any program. -/
import Derived.WalkKit
import Derived.BigQuiet
import Derived.WalkLawsBesides
import Derived.WalkSpells
import Derived.Lib.Hide
import Derived.Deep.QuietTactic
import Derived.StillTailTactics
namespace Go.Proofs.Ytiaeakpgldpaiaa
set_option linter.unusedSimpArgs false
set_option linter.unusedVariables false
set_option maxRecDepth 4000
open Go.RowKit

theorem ret_int {k : IntKind} {a b : Int} (h : a = b) : Ending.returned (.int k a) = .returned (.int k b) := by rw [h]
theorem ret_bool {a b : Bool} (h : a = b) : Ending.returned (.bool a) = .returned (.bool b) := by rw [h]
theorem ret_string {a b : ByteArray} (h : a = b) : Ending.returned (.string a) = .returned (.string b) := by rw [h]
theorem ret_sb {a a' : ByteArray} {b b' : Bool} (h : a = a') (h' : b = b') : Ending.returned (.tuple #[.string a, .bool b]) = .returned (.tuple #[.string a', .bool b']) := by rw [h, h']
theorem ret_isb {n n' : Int} {a a' : ByteArray} {b b' : Bool} (h0 : n = n') (h : a = a') (h' : b = b') : Ending.returned (.tuple #[.int .i64 n, .string a, .bool b]) = .returned (.tuple #[.int .i64 n', .string a', .bool b']) := by rw [h0, h, h']
/-- A row of n integers. -/
def row (n : Nat) (F : Nat → Nat) : Array Value := ((List.range n).map fun i => Value.int .i64 (F i : Int)).toArray

theorem row_size (n : Nat) (F : Nat → Nat) : (row n F).size = n := by simp [row]
theorem row_get (n : Nat) (F : Nat → Nat) (i : Nat) (h : i < n) : (row n F)[i]? = some (.int .i64 (F i : Int)) := by simp [row, h]
theorem row_congr {n : Nat} {F G : Nat → Nat} (h : ∀ i, i < n → F i = G i) : row n F = row n G := by
  unfold row
  congr 1
  apply List.map_congr_left
  intro i hi
  rw [h i (by simpa using hi)]
theorem row_one (n : Nat) (F : Nat → Nat) : (row n F).all (·.oneCell') = true := by
  simp [row, Array.all_eq_true, Value.oneCell']
def upd (F : Nat → Nat) (i v : Nat) : Nat → Nat := fun j => if j = i then v else F j
theorem row_set (n : Nat) (F : Nat → Nat) (i v : Nat) : (row n F).setIfInBounds i (.int .i64 (v : Int)) = row n (upd F i v) := by
  apply Array.ext_getElem?
  intro j
  simp only [Array.getElem?_setIfInBounds, row_size]
  by_cases hj : j < n
  · by_cases e : i = j
    · subst e; simp [hj, row_get, upd]
    · simp [e, row_get _ _ _ hj, upd, Ne.symm e]
  · simp only [row]
    split
    · split
      · omega
      · exact (Array.getElem?_eq_none (by simp; omega)).symm
    · simp [hj]

/-- Block b holds the cells cs, and may be written. -/
def RowAt (w : World) (b : Nat) (t : TypeId) (cs : Array Value) : Prop := w.heap[b]? = some (.cells cs t (0, 0))
theorem RowAt.lt {w : World} {b : Nat} {t : TypeId} {cs : Array Value} (h : RowAt w b t cs) : b < w.heap.size := lt_of_block h
theorem RowAt.get {w : World} {b : Nat} {t : TypeId} {cs : Array Value} (h : RowAt w b t cs) (i : Nat) : w.cell? ⟨b, i, none⟩ = cs[i]? := cell_of_row w b i cs t (0, 0) h
theorem RowAt.cell {w : World} {b n : Nat} {t : TypeId} {F : Nat → Nat} (h : RowAt w b t (row n F)) (i : Nat) (hi : i < n) : w.cell? ⟨b, i, none⟩ = some (.int .i64 (F i : Int)) :=
  (h.get i).trans (row_get n F i hi)
theorem RowAt.free {w : World} {b : Nat} {t : TypeId} {cs : Array Value} (h : RowAt w b t cs) (i : Nat) : w.frozen? ⟨b, i, none⟩ = false := frozen_of_row w b i cs t h
theorem RowAt.set {w : World} {b n : Nat} {t : TypeId} {F : Nat → Nat} (h : RowAt w b t (row n F)) (i v : Nat) : RowAt (w.setCell ⟨b, i, none⟩ (.int .i64 (v : Int))) b t (row n (upd F i v)) := by
  have := heap_setCell_same w b i _ t (.int .i64 (v : Int)) h
  rw [row_set] at this
  exact this
theorem RowAt.other {w : World} {b : Nat} {t : TypeId} {cs : Array Value} (h : RowAt w b t cs) (a : Addr) (v : Value) (hn : b ≠ a.block) : RowAt (w.setCell a v) b t cs :=
  (heap_setCell_other w a b v hn).trans h
theorem RowAt.below {w w' : World} {B b : Nat} {t : TypeId} {cs : Array Value} (h : RowAt w b t cs) (hb : Below B w w') (hB : b < B) : RowAt w' b t cs := (hb.block b hB).trans h
theorem RowAt.later {w w' : World} {b : Nat} {t : TypeId} {cs : Array Value} (h : RowAt w b t cs) (hb : Below w.heap.size w w') : RowAt w' b t cs := h.below hb h.lt
theorem RowAt.alloc {w : World} {b : Nat} {t : TypeId} {cs : Array Value} (h : RowAt w b t cs) (o : Obj) : RowAt (w.alloc o) b t cs := (show (w.alloc o).heap[b]? = w.heap[b]? by
  show (w.heap.push o)[b]? = w.heap[b]?
  rw [Array.getElem?_push, if_neg (Nat.ne_of_lt h.lt)]).trans h
theorem RowAt.drew {w : World} {b : Nat} {t : TypeId} {cs : Array Value} (h : RowAt w b t cs) : RowAt w.drew b t cs := h
theorem RowAt.put {w : World} {b : Nat} {t : TypeId} {cs : Array Value} (h : RowAt w b t cs) (ds : Array Value) : RowAt (w.setRow b ds) b t ds := setRow_heap w b cs ds t (0, 0) h
theorem RowAt.putOther {w : World} {b c : Nat} {t : TypeId} {cs : Array Value} (h : RowAt w b t cs) (ds : Array Value) (hn : b ≠ c) : RowAt (w.setRow c ds) b t cs := (setRow_other w c b ds hn).trans h
theorem RowAt.of {w : World} {b : Nat} {t : TypeId} {cs ds : Array Value} (h : RowAt w b t cs) (e : cs = ds) : RowAt w b t ds := e ▸ h
theorem RowAt.fresh (w : World) (t : TypeId) (cs : Array Value) : RowAt (w.alloc (.cells cs t)) w.heap.size t cs := heap_alloc_new w _
theorem RowAt.fresh1 (w : World) (o : Obj) (t : TypeId) (cs : Array Value) : RowAt ((w.alloc o).alloc (.cells cs t)) (w.heap.size + 1) t cs := heap_alloc2_new w _ _
theorem RowAt.fresh2 (w : World) (o o' : Obj) (t : TypeId) (cs : Array Value) : RowAt (((w.alloc o).alloc o').alloc (.cells cs t)) (w.heap.size + 2) t cs := by
  have h := RowAt.fresh ((w.alloc o).alloc o') t cs
  simpa using h

theorem bel_setRow {B g : Nat} {w0 w : World} (hb : Below B w0 w) (hg : B ≤ g) (cs : Array Value) : Below B w0 (w.setRow g cs) :=
  hb.trans ⟨rfl, rfl, rfl, by simp [World.setRow], fun k hk => setRow_other w g k cs (by omega)⟩
/-- On from a later world. -/
theorem bel_on {B : Nat} {a b c : World} (h : Below B a b) (k : Below b.heap.size b c) (hB : B ≤ b.heap.size) : Below B a c := h.trans (k.mono hB)
theorem bel_on' {a b c : World} (h : Below a.heap.size a b) (k : Below b.heap.size b c) : Below a.heap.size a c := h.trans (k.mono h.size)
theorem bel_cells {B : Nat} {w w' : World} (hb : Below B w w') : ∀ b o, b < B → w'.cell? ⟨b, o, none⟩ = w.cell? ⟨b, o, none⟩ := fun b o h => hb.cell (p := ⟨b, o, none⟩) h
theorem bel_frees {B : Nat} {w w' : World} (hb : Below B w w') : ∀ b o, b < B → w'.frozen? ⟨b, o, none⟩ = w.frozen? ⟨b, o, none⟩ := fun b o h => hb.frozen (p := ⟨b, o, none⟩) h

/-- A function value that hands back F of each number below n, whatever has been made since the world w, and turns nothing. -/
def FnIs (P : Program) (fv : Value) (w : World) (F : Nat → Nat) (n : Nat) : Prop :=
  ∃ g lb, fv = .func (.func g) #[] lb ∧ (∀ args w, (callFunc g args).run P w = .ok (.enter g args) w) ∧
    ∀ (W : World) (p : Nat), Below w.heap.size w W → p < n → Calls P g (#[.int .i64 (p : Int)] ++ lb) W fun e W' => e = .returned (.int .i64 (F p : Int)) ∧ Below W.heap.size W W'
theorem FnIs.later {P : Program} {fv : Value} {w w' : World} {F : Nat → Nat} {n : Nat} (h : FnIs P fv w F n) (hb : Below w.heap.size w w') : FnIs P fv w' F n := by
  obtain ⟨g, lb, h1, h2, h3⟩ := h
  exact ⟨g, lb, h1, h2, fun W p hW hp => h3 W p (bel_on' hb hW) hp⟩
/-- An element of an array held in a slot. -/
theorem run_index_row {P : Program} {T e n : Nat} {F : Nat → Nat} {k : Nat} (hu : P.underlying T = some (.array n e)) (he : P.underlying e = some (.int .i64)) (hs : (P.info? e).map (·.size) = some 1) (hk : k < n) (w : World) :
    (Instr.index T (.agg (row n F)) (.int .i64 (k : Int))).run P w = .ok (.int .i64 (F k : Int)) w := by
  have hq : ∃ i, P.info? e = some i ∧ i.size = 1 := by
    cases h : P.info? e with
    | none => simp [h] at hs
    | some i => exact ⟨i, rfl, by simpa [h] using hs⟩
  obtain ⟨i, hi, h1⟩ := hq
  have hr : (0 : Int) ≤ (k : Int) ∧ (k : Int) < (n : Int) := ⟨by omega, by omega⟩
  simp [Instr.index, asIntOf, run_underlying hu, sizeOf, typeInfo, hi, h1, part, isAgg, run_underlying he, row_get n F k hk, Sem.run_bind, Result.andThen]
  intro h; omega
theorem lt_cast {k n : Nat} (h : k < n) : (0 : Int) ≤ (k : Int) ∧ (k : Int) < (n : Int) := ⟨by omega, by omega⟩
/-- Two results: an array in a variable, and one in a slot. -/
theorem results_row_b {P : Program} {fn : Func} {p u : Tmp} {ty : TypeId} (h : fn.results = #[.cell p ty, .tmp u]) (tmps : Array Value) (w : World) (g : Nat) (t : TypeId) (cs : Array Value) (b : Value) (d : TypeDesc)
    (hp : tmps.getD p undef = .pointer (some ⟨g, 0, none⟩)) (hq : tmps.getD u undef = b) (hg : w.heap[g]? = some (.cells cs t (0, 0)))
    (hu : P.underlying ty = some d) (hd : (match d with | .struct _ | .array _ _ => true | _ => false) = true) (hi : (P.info? ty).map (·.size) = some cs.size) :
    (results fn tmps).run P w = .ok (.tuple #[.agg cs, b]) w := by
  rw [results_cell_tmp h, hp, hq]
  simp [asAddr, run_loadVar_row w g t ty cs (0, 0) d hg hu hd hi, Result.andThen]
/-- Two arrays, and one in a slot. -/
theorem results_row2_b {P : Program} {fn : Func} {p p' u : Tmp} {ty ty' : TypeId} (h : fn.results = #[.cell p ty, .cell p' ty', .tmp u]) (tmps : Array Value) (w : World) (g g' : Nat) (t t' : TypeId) (cs cs' : Array Value) (b : Value) (d d' : TypeDesc)
    (hp : tmps.getD p undef = .pointer (some ⟨g, 0, none⟩)) (hp' : tmps.getD p' undef = .pointer (some ⟨g', 0, none⟩)) (hq : tmps.getD u undef = b) (hg : w.heap[g]? = some (.cells cs t (0, 0))) (hg' : w.heap[g']? = some (.cells cs' t' (0, 0)))
    (hu : P.underlying ty = some d) (hu' : P.underlying ty' = some d') (hd : (match d with | .struct _ | .array _ _ => true | _ => false) = true) (hd' : (match d' with | .struct _ | .array _ _ => true | _ => false) = true)
    (hi : (P.info? ty).map (·.size) = some cs.size) (hi' : (P.info? ty').map (·.size) = some cs'.size) :
    (results fn tmps).run P w = .ok (.tuple #[.agg cs, .agg cs', b]) w := by
  simp only [results, h]
  have e1 : tmps[p]?.getD undef = .pointer (some ⟨g, 0, none⟩) := by simpa using hp
  have e2 : tmps[p']?.getD undef = .pointer (some ⟨g', 0, none⟩) := by simpa using hp'
  have e3 : tmps[u]?.getD undef = b := by simpa using hq
  simp [Sem.run_bind, asAddr, run_loadVar_row w g t ty cs (0, 0) d hg hu hd hi, run_loadVar_row w g' t' ty' cs' (0, 0) d' hg' hu' hd' hi', Result.andThen, e1, e2, e3]
theorem bel_drewN {B : Nat} {a w : World} (h : Below B a w) (n : Nat) : Below B a (w.drewN n) := h.trans ⟨rfl, rfl, rfl, Nat.le_refl _, fun _ _ => rfl⟩
theorem RowAt.drewN {w : World} {b : Nat} {t : TypeId} {cs : Array Value} (h : RowAt w b t cs) (n : Nat) : RowAt (w.drewN n) b t cs := h
end Go.Proofs.Ytiaeakpgldpaiaa
