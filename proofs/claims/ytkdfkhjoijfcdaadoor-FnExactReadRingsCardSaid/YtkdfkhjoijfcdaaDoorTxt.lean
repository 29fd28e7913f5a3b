/- Texts; the text of a number: the program's word and the reference's. -/
import Derived.Test.YtkdfkhjoijfcdaaDoorBase
import Derived.Test.YtkdfkhjoijfcdaaDoorShelfA
import Derived.Lib.Hide
import Derived.Laws.IdiomStrings
namespace Go.Proofs.YtkdfkhjoijfcdaaDoor
open Go.RowKit
set_option linter.unusedVariables false
set_option linter.unusedSimpArgs false
set_option maxRecDepth 100000
/-- A text by its bytes. -/
def tx (l : List UInt8) : ByteArray := ⟨l.toArray⟩
theorem tx_size (l : List UInt8) : (tx l).size = l.length := by unfold tx; first | rfl | simp [ByteArray.size]
theorem tx_app (a b : List UInt8) : tx a ++ tx b = tx (a ++ b) := by unfold tx; rw [ByteArray.mk_append_mk]
theorem tx_list (l : List UInt8) : (tx l).toList = l := ByteArray.toList_mk l
theorem tx_inj {a b : List UInt8} (h : tx a = tx b) : a = b := by have := congrArg ByteArray.toList h; rwa [tx_list, tx_list] at this
/-- A byte as a text. -/
def by8 (n : Int) : UInt8 := UInt8.ofNat n.toNat
def convBX (src dst : TypeId) (v : Value) : Sem Value := convert src dst v
def conv1 (o : Option Value) (w : World) (r : Result Value) : Result Value := match o with | some (.int .u8 n) => if 0 ≤ n ∧ n < 256 then .ok (.string (tx [by8 n])) w else r | _ => r
theorem run_conv1 {P : Program} (w : World) (src dst e : TypeId) (hs : P.underlying src = some (.slice e)) (he : P.underlying e = some (.int .u8)) (hd : P.underlying dst = some .string) (g cap : Nat) :
    (convert src dst (.slice (some ⟨g, 0, none⟩) 1 cap)).run P w = conv1 ((rowOf w g)[0]?) w ((convBX src dst (.slice (some ⟨g, 0, none⟩) 1 cap)).run P w) := by
  unfold conv1
  split
  · rename_i n hn
    split
    · rename_i h
      have := run_convert_bytes_back (P := P) w src dst e ⟨g, 0, none⟩ cap [by8 n] hs he hd (fun j hj => by
        have hj0 : j = 0 := by simp at hj; omega
        subst hj0
        show w.cell? ⟨g, 0, none⟩ = _
        rw [cell_row, hn]
        unfold by8
        simp only [List.getElem_cons_zero]
        congr 2
        have : (UInt8.ofNat n.toNat).toNat = n.toNat := by rw [UInt8.toNat_ofNat']; omega
        omega)
      exact this
    · rfl
  · rfl
theorem conv1_is {n : Int} (h : 0 ≤ n ∧ n < 256) (w : World) (r : Result Value) : conv1 (some (.int .u8 n)) w r = .ok (.string (tx [by8 n])) w := if_pos h
/-- A text added to another one. -/
theorem run_addS {P : Program} (w : World) (x y : ByteArray) (h : x.size + y.size ≤ 9223372036854775807) : (Op.stringOp .add x y).run P w = .ok (.string (x ++ y)) w := by
  unfold Op.stringOp
  have : ¬ (((x.size + y.size : Nat) : Int) > IntKind.i64.max) := by
    rw [show IntKind.i64.max = 9223372036854775807 from rfl]; omega
  rw [if_neg this]; rfl
theorem decimal_any (i : Nat) (hi : i < 100) (w : World) : Calls Tryd.prog 41 #[.int .i64 i] w fun e w' => e = .returned (.string (tx (Lib.decDigits i))) ∧ w = w' := by
  have HF := Lib.hid (Tryd.strconv_FormatInt_10_small i hi)
  go_enter Tryd.func41, Tryd.ntmps41
  go_wp2_with (go_at_call 51; refine (HF.out _).mono ?_; rintro e w1 ⟨rfl, rfl⟩)
  go_ret
  exact ⟨rfl, rfl⟩
theorem dec_one {i : Nat} (hi : i < 10) : Lib.decDigits i = [by8 (48 + (i : Int))] := by
  rw [Lib.decDigits, dif_pos hi]
  unfold by8
  rw [show (48 + (i : Int)).toNat = 48 + i from by omega]
/-- Texts added, by their bytes: the sum of the lengths is a test of the walk's. -/
def addX (x y : ByteArray) : Sem Value := Op.stringOp .add x y
@[go_sem] theorem addS_A (a b : List UInt8) (w : World) : (Op.stringOp .add (tx a) (tx b)).run Tryd.prog w = selLe (a.length + b.length) 9223372036854775807 (.ok (.string (tx (a ++ b))) w) ((addX (tx a) (tx b)).run Tryd.prog w) := by
  unfold selLe
  split
  · rename_i h
    rw [run_addS w _ _ (by rw [tx_size, tx_size]; exact h), tx_app]
  · rfl
@[go_sem] theorem tc_nil : (ByteArray.mk #[]) = tx [] := rfl
@[go_sem] theorem tc_32 : (ByteArray.mk #[32]) = tx [32] := rfl
@[go_sem] theorem tc_44 : (ByteArray.mk #[44]) = tx [44] := rfl
@[go_sem] theorem tc_47 : (ByteArray.mk #[47]) = tx [47] := rfl
@[go_sem] theorem tc_118 : (ByteArray.mk #[118]) = tx [118] := rfl
@[go_sem] theorem tc_104 : (ByteArray.mk #[104]) = tx [104] := rfl
@[go_sem] theorem tc_10 : (ByteArray.mk #[10]) = tx [10] := rfl
@[go_sem] theorem tc_45 : (ByteArray.mk #[45]) = tx [45] := rfl
attribute [go_sem] List.length_append List.length_cons List.length_nil tx_size tx_app
end Go.Proofs.YtkdfkhjoijfcdaaDoor
