/- More mathematics: texts compared as lists. -/
import Derived.Test.YtiaeakpgldpaiaaPlain
import Derived.Test.YtiaeakpgldpaiaaEq
namespace Go.Proofs.Ytiaeakpgldpaiaa
set_option linter.unusedSimpArgs false
set_option linter.unusedVariables false
set_option maxRecDepth 4000

theorem toListLoop_eq (bs : ByteArray) : ∀ (n i : Nat) (r : List UInt8), bs.size - i = n → ByteArray.toList.loop bs i r = r.reverse ++ bs.data.toList.drop i
  | 0, i, r, h => by
    rw [ByteArray.toList.loop, if_neg (by omega), List.drop_eq_nil_of_le (by show bs.data.toList.length ≤ i; rw [Array.length_toList]; show bs.size ≤ i; omega), List.append_nil]
  | n + 1, i, r, h => by
    have hi : i < bs.size := by omega
    have hl : i < bs.data.toList.length := by rw [Array.length_toList]; exact hi
    rw [ByteArray.toList.loop, if_pos hi, toListLoop_eq bs n (i + 1) _ (by omega), List.drop_eq_getElem_cons hl, List.reverse_cons, List.append_assoc]
    have : bs.get! i = bs.data.toList[i] := by
      show bs.data[i]! = _
      rw [getElem!_pos bs.data i hi, Array.getElem_toList]
    rw [this]; rfl
theorem toList_data (bs : ByteArray) : bs.toList = bs.data.toList := by
  show ByteArray.toList.loop bs 0 [] = _
  rw [toListLoop_eq bs _ 0 [] rfl]; rfl
theorem toList_beq (a b : ByteArray) : (a.toList == b.toList) = decide (a = b) := by
  rw [toList_data, toList_data]
  by_cases h : a = b
  · subst h; simp
  · have : a.data ≠ b.data := fun e => h (by cases a; cases b; exact congrArg ByteArray.mk e)
    simp [h, this]
theorem txt_eq_text {u : ByteArray} {F : Nat → Nat} (hF : ∀ i, i < 16 → F i < 16) (hu : trOk u = true) : ((txt 16 F).toList == u.toList) = eqFrom F (dig u) 0 16 := by
  rw [toList_beq]
  cases h : eqFrom F (dig u) 0 16 with
  | true =>
    rw [eqFrom_iff] at h
    rw [decide_eq_true_iff, ← txt_tr hu]
    exact txt_congr fun i hi => h i (Nat.zero_le _) (by omega)
  | false =>
    rw [decide_eq_false_iff_not]
    intro e
    have : eqFrom F (dig u) 0 16 = true := by
      rw [eqFrom_iff]
      intro j _ hj
      exact txt_inj hF (fun i _ => dig_lt u i) (e.trans (txt_tr hu).symm) j (by omega)
    rw [h] at this
    cases this
theorem and_text {t u : ByteArray} {F : Nat → Nat} (hF : ∀ i, i < 16 → F i < 16) : ((trOk t && trOk u) && ((txt 16 F).toList == u.toList)) = ((trOk t && trOk u) && eqFrom F (dig u) 0 16) := by
  cases hu : trOk u with
  | true => rw [txt_eq_text hF hu]
  | false => simp
end Go.Proofs.Ytiaeakpgldpaiaa
