/- More laws on whole arrays in memory, over any program. -/
import Derived.Test.YtiaeakpgldpaiaaBase
import Derived.Deep.RegionHeld3
namespace Go.Proofs.Ytiaeakpgldpaiaa
set_option linter.unusedSimpArgs false
set_option linter.unusedVariables false
set_option maxRecDepth 4000
open Go.RowKit

/-- A whole array read in a region that draws its order. -/
theorem wpStill_load_row {P : Program} {ops : Array Oper} {w : World} {Q : Act → Prop} {rest : List Oper} {o : Oper} {a : Act} (hgd : o.guard = none) (ty : TypeId) (x : Operand) (ho : o.op = .load ty x)
    (g : Nat) (hx : a.eval x = .pointer (some ⟨g, 0, none⟩)) (t : TypeId) (cs : Array Value) (fr : Nat × Nat) (d : TypeDesc) (hg : w.heap[g]? = some (.cells cs t fr))
    (hu : P.underlying ty = some d) (hd : (match d with | .struct _ | .array _ _ => true | _ => false) = true) (hi : (P.info? ty).map (·.size) = some cs.size)
    (h : wpStill P ops w Q rest (a.put o.dst (.agg cs))) : wpStill P ops w Q (o :: rest) a :=
  wpStill_step fun K hK => by
    rw [if_pos (by simp [Region.wanted, hgd])]
    unfold Oper.still execOp
    simp only [ho, hx, Instr.loadAt, Instr.sureAddr, Sem.run_bind, Sem.run_pure, Result.andThen_ok, run_loadVar_row w g t ty cs fr d hg hu hd hi]
    rw [Oper.stillUpon_value]
    exact hK _ h
theorem setRow_alloc (w : World) (cs ds : Array Value) (t : TypeId) : (w.alloc (.cells cs t)).setRow w.heap.size ds = w.alloc (.cells ds t) := by
  unfold World.setRow World.alloc
  congr 1
  apply Array.ext_getElem?
  intro k
  rw [Array.getElem?_modify]
  by_cases hk : w.heap.size = k
  · subst hk
    simp
  · have hk' : k ≠ w.heap.size := fun e => hk e.symm
    simp [hk, hk', Array.getElem?_push]
theorem setRow_alloc2 (w : World) (cs ds : Array Value) (t : TypeId) (o : Obj) : ((w.alloc (.cells cs t)).alloc o).setRow w.heap.size ds = (w.alloc (.cells ds t)).alloc o := by
  unfold World.setRow World.alloc
  congr 1
  apply Array.ext_getElem?
  intro k
  rw [Array.getElem?_modify]
  by_cases hk : w.heap.size = k
  · subst hk
    simp [Array.getElem?_push]
  · have hk' : k ≠ w.heap.size := fun e => hk e.symm
    by_cases hk2 : k = w.heap.size + 1
    · subst hk2; simp [Array.getElem_push]
    · simp [hk, hk', hk2, Array.getElem?_push]
/-- A whole array stored into the block that was made last, or last but one. -/
theorem wpList_store_new {P : Program} {ops : Array Oper} {rest : List Oper} {o : Oper} {a : Act} {w : World} {Q : Exit → Act → World → Prop} {old : Array Value} {t : TypeId} (hgd : o.guard = none) (ty : TypeId) (x y : Operand) (ho : o.op = .store ty x y)
    (cells : Array Value) (hx : a.eval x = .pointer (some ⟨w.heap.size, 0, none⟩)) (hy : a.eval y = .agg cells) (hi : (P.info? ty).map (·.size) = some cells.size)
    (hold : old.size = cells.size) (h1 : cells.all (·.oneCell') = true)
    (h : wpList P ops Q rest (a.put o.dst undef) (w.alloc (.cells cells t))) : wpList P ops Q (o :: rest) a (w.alloc (.cells old t)) :=
  wpList_store_row hgd ty x y ho w.heap.size cells hx hy t old (heap_alloc_new w _) hi hold h1 (by rw [setRow_alloc]; exact h)
theorem wpList_store_new2 {P : Program} {ops : Array Oper} {rest : List Oper} {o : Oper} {a : Act} {w : World} {Q : Exit → Act → World → Prop} {old : Array Value} {t : TypeId} {ob : Obj} (hgd : o.guard = none) (ty : TypeId) (x y : Operand) (ho : o.op = .store ty x y)
    (cells : Array Value) (hx : a.eval x = .pointer (some ⟨w.heap.size, 0, none⟩)) (hy : a.eval y = .agg cells) (hi : (P.info? ty).map (·.size) = some cells.size)
    (hold : old.size = cells.size) (h1 : cells.all (·.oneCell') = true)
    (h : wpList P ops Q rest (a.put o.dst undef) ((w.alloc (.cells cells t)).alloc ob)) : wpList P ops Q (o :: rest) a ((w.alloc (.cells old t)).alloc ob) :=
  wpList_store_row hgd ty x y ho w.heap.size cells hx hy t old ((RowAt.fresh w t old).alloc ob) hi hold h1 (by rw [setRow_alloc2]; exact h)
/-- A row, as a list of cells. -/
def rowl (n : Nat) (F : Nat → Nat) : List Value := (List.range n).map fun i => Value.int .i64 (F i : Int)
theorem rowl_row (n : Nat) (F : Nat → Nat) : (rowl n F).toArray = row n F := rfl
theorem rowl_len (n : Nat) (F : Nat → Nat) : (rowl n F).length = n := by simp [rowl]
theorem rowl_one (n : Nat) (F : Nat → Nat) : ∀ v ∈ rowl n F, v.oneCell' = true := by simp [rowl, Value.oneCell']
theorem RowAt.range {w : World} {b n : Nat} {t : TypeId} {F : Nat → Nat} (h : RowAt w b t (row n F)) : w.rangeAt b 0 (rowl n F) := fun j v hv => by
  rw [Nat.zero_add, h.get, ← rowl_row]
  simpa using hv
theorem RowAt.there {w : World} {b n : Nat} {t : TypeId} {F : Nat → Nat} (h : RowAt w b t (row n F)) : w.there b 0 n := fun j hj => by
  rw [Nat.zero_add, h.cell j hj]
  exact ⟨rfl, h.free j⟩
theorem RowAt.cells {w : World} {b n : Nat} {t : TypeId} {F : Nat → Nat} (h : RowAt w b t (row n F)) (G : Nat → Nat) : w.setCells b 0 (rowl n G) = w.setRow b (row n G) := by
  have key : ∀ (k i : Nat) (F : Nat → Nat) (w : World), i + k = n → RowAt w b t (row n F) → w.setCells b i ((List.range' i k).map fun i => Value.int .i64 (G i : Int)) = w.setRow b (row n (fun j => if i ≤ j then G j else F j)) := by
    intro k
    induction k with
    | zero =>
      intro i F w hi hw
      simp only [List.range'_zero, List.map_nil, World.setCells]
      rw [row_congr (G := F) (fun j hj => by rw [if_neg (by omega)])]
      exact (setRow_self w b (row n F) t (0, 0) hw).symm
    | succ k ih =>
      intro i F w hi hw
      simp only [List.range'_succ, List.map_cons, World.setCells]
      rw [ih (i + 1) (upd F i (G i)) _ (by omega) (hw.set i (G i)), setCell_eq_setRow w b i _ t (0, 0) _ hw, row_set, setRow_setRow]
      congr 1
      apply row_congr
      intro j hj
      unfold upd
      by_cases h1 : i + 1 ≤ j
      · rw [if_pos h1, if_pos (by omega)]
      · rw [if_neg h1]
        by_cases h2 : j = i
        · subst h2; simp
        · rw [if_neg h2, if_neg (by omega)]
  have := key n 0 F w (by omega) h
  rw [List.range_eq_range'.symm] at this
  unfold rowl
  rw [this]
  congr 1
theorem yieldsIf_load_row {P : Program} {ops : Array Oper} {S : World → Prop} {op : Oper} {a : Act} (hw : Region.wanted op (yielded ops a.tmps) = true) (ty : TypeId) (x : Operand) (ho : op.op = .load ty x)
    (g : Nat) (hx : a.eval x = .pointer (some ⟨g, 0, none⟩)) (t : TypeId) (cs : Array Value) (d : TypeDesc) (hS : ∀ w, S w → RowAt w g t cs)
    (hu : P.underlying ty = some d) (hd : (match d with | .struct _ | .array _ _ => true | _ => false) = true) (hi : (P.info? ty).map (·.size) = some cs.size) : YieldsIf P ops S op (.agg cs) a :=
  .inl ⟨hw, fun w hw' => by
    unfold execOp
    simp only [ho, hx, Instr.loadAt, Instr.sureAddr, Sem.run_bind, Sem.run_pure, Result.andThen_ok, run_loadVar_row w g t ty cs (0, 0) d (hS w hw') hu hd hi]⟩
theorem enters_of {P : Program} {f : FuncId} {fn : Func} {c : Code} (hf : P.funcs[f]? = some fn) (hname : (fn.name == "runtime.NumGoroutine") = false) (hb : fn.body = some c) : ∀ args w, (callFunc f args).run P w = .ok (.enter f args) w := by
  intro args w
  have h1 : fn.name ≠ "runtime.NumGoroutine" := by simpa using hname
  simp [callFunc, hf, h1, hb, mark]
theorem setRow_alloc1 (w : World) (ob : Obj) (cs ds : Array Value) (t : TypeId) : ((w.alloc ob).alloc (.cells cs t)).setRow (w.heap.size + 1) ds = (w.alloc ob).alloc (.cells ds t) := by
  have h := setRow_alloc (w.alloc ob) cs ds t
  rwa [World.size_alloc] at h
theorem wpList_store_new1 {P : Program} {ops : Array Oper} {rest : List Oper} {o : Oper} {a : Act} {w : World} {Q : Exit → Act → World → Prop} {old : Array Value} {t : TypeId} {ob : Obj} (hgd : o.guard = none) (ty : TypeId) (x y : Operand) (ho : o.op = .store ty x y)
    (cells : Array Value) (hx : a.eval x = .pointer (some ⟨w.heap.size + 1, 0, none⟩)) (hy : a.eval y = .agg cells) (hi : (P.info? ty).map (·.size) = some cells.size)
    (hold : old.size = cells.size) (h1 : cells.all (·.oneCell') = true)
    (h : wpList P ops Q rest (a.put o.dst undef) ((w.alloc ob).alloc (.cells cells t))) : wpList P ops Q (o :: rest) a ((w.alloc ob).alloc (.cells old t)) :=
  wpList_store_row hgd ty x y ho (w.heap.size + 1) cells hx hy t old (RowAt.fresh1 w ob t old) hi hold h1 (by rw [setRow_alloc1]; exact h)
end Go.Proofs.Ytiaeakpgldpaiaa
