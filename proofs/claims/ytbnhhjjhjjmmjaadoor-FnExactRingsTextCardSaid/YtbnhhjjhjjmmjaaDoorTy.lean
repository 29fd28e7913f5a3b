/- The types of many cells of this program: their sizes, and the walk's rules for reading, writing and making them. -/
import Derived.Test.YtbnhhjjhjjmmjaaDoorProg
import Derived.Test.YtbnhhjjhjjmmjaaDoorMem
namespace Go.Proofs.YtbnhhjjhjjmmjaaDoor

theorem size_i16A8 : (Tryd.prog.info? 47).map (·.size) = some 8 := by kernel_rfl
@[go_sem ↓] theorem toLoad_i16A8 (a : Addr) : loadVar 47 a = loadR 47 a := rfl
@[go_sem ↓] theorem toStore_i16A8 (a : Addr) (v : Value) : storeVar 47 a v = storeR 47 a v := rfl
@[go_sem] theorem load_i16A8 (w : World) (b o : Nat) : (loadR 47 ⟨b, o, none⟩).run Tryd.prog w = loaded Tryd.prog 47 8 w b o := run_load_rowA (P := Tryd.prog) 47 8 _ (by omega) Tryd.underlying47 rfl size_i16A8 w b o
@[go_sem] theorem store_i16A8 (w : World) (b o : Nat) (vs : Array Value) : (storeR 47 ⟨b, o, none⟩ (.agg vs)).run Tryd.prog w = storedRow Tryd.prog 47 8 w b o vs := run_store_rowA (P := Tryd.prog) 47 8 (by omega) size_i16A8 w b o vs
@[go_sem ↓] theorem zero_i16A8 (w : World) : (zeroValue 47).run Tryd.prog w = .ok (.agg (kc (fun _ => .i16) 8 fun _ => 0)) w := by kernel_rfl
theorem size_i16A8A8 : (Tryd.prog.info? 48).map (·.size) = some 64 := by kernel_rfl
@[go_sem ↓] theorem toLoad_i16A8A8 (a : Addr) : loadVar 48 a = loadR 48 a := rfl
@[go_sem ↓] theorem toStore_i16A8A8 (a : Addr) (v : Value) : storeVar 48 a v = storeR 48 a v := rfl
@[go_sem] theorem load_i16A8A8 (w : World) (b o : Nat) : (loadR 48 ⟨b, o, none⟩).run Tryd.prog w = loaded Tryd.prog 48 64 w b o := run_load_rowA (P := Tryd.prog) 48 64 _ (by omega) Tryd.underlying48 rfl size_i16A8A8 w b o
@[go_sem] theorem store_i16A8A8 (w : World) (b o : Nat) (vs : Array Value) : (storeR 48 ⟨b, o, none⟩ (.agg vs)).run Tryd.prog w = storedRow Tryd.prog 48 64 w b o vs := run_store_rowA (P := Tryd.prog) 48 64 (by omega) size_i16A8A8 w b o vs
@[go_sem ↓] theorem zero_i16A8A8 (w : World) : (zeroValue 48).run Tryd.prog w = .ok (.agg (kc (fun _ => .i16) 64 fun _ => 0)) w := by kernel_rfl
theorem size_i16A3A8 : (Tryd.prog.info? 50).map (·.size) = some 24 := by kernel_rfl
@[go_sem ↓] theorem toLoad_i16A3A8 (a : Addr) : loadVar 50 a = loadR 50 a := rfl
@[go_sem ↓] theorem toStore_i16A3A8 (a : Addr) (v : Value) : storeVar 50 a v = storeR 50 a v := rfl
@[go_sem] theorem load_i16A3A8 (w : World) (b o : Nat) : (loadR 50 ⟨b, o, none⟩).run Tryd.prog w = loaded Tryd.prog 50 24 w b o := run_load_rowA (P := Tryd.prog) 50 24 _ (by omega) Tryd.underlying50 rfl size_i16A3A8 w b o
@[go_sem] theorem store_i16A3A8 (w : World) (b o : Nat) (vs : Array Value) : (storeR 50 ⟨b, o, none⟩ (.agg vs)).run Tryd.prog w = storedRow Tryd.prog 50 24 w b o vs := run_store_rowA (P := Tryd.prog) 50 24 (by omega) size_i16A3A8 w b o vs
@[go_sem ↓] theorem zero_i16A3A8 (w : World) : (zeroValue 50).run Tryd.prog w = .ok (.agg (kc (fun _ => .i16) 24 fun _ => 0)) w := by kernel_rfl
theorem size_i16A3A8A8 : (Tryd.prog.info? 51).map (·.size) = some 192 := by kernel_rfl
@[go_sem ↓] theorem toLoad_i16A3A8A8 (a : Addr) : loadVar 51 a = loadR 51 a := rfl
@[go_sem ↓] theorem toStore_i16A3A8A8 (a : Addr) (v : Value) : storeVar 51 a v = storeR 51 a v := rfl
@[go_sem] theorem load_i16A3A8A8 (w : World) (b o : Nat) : (loadR 51 ⟨b, o, none⟩).run Tryd.prog w = loaded Tryd.prog 51 192 w b o := run_load_rowA (P := Tryd.prog) 51 192 _ (by omega) Tryd.underlying51 rfl size_i16A3A8A8 w b o
@[go_sem] theorem store_i16A3A8A8 (w : World) (b o : Nat) (vs : Array Value) : (storeR 51 ⟨b, o, none⟩ (.agg vs)).run Tryd.prog w = storedRow Tryd.prog 51 192 w b o vs := run_store_rowA (P := Tryd.prog) 51 192 (by omega) size_i16A3A8A8 w b o vs
@[go_sem ↓] theorem zero_i16A3A8A8 (w : World) : (zeroValue 51).run Tryd.prog w = .ok (.agg (kc (fun _ => .i16) 192 fun _ => 0)) w := by kernel_rfl
theorem size_u8A8 : (Tryd.prog.info? 52).map (·.size) = some 8 := by kernel_rfl
@[go_sem ↓] theorem toLoad_u8A8 (a : Addr) : loadVar 52 a = loadR 52 a := rfl
@[go_sem ↓] theorem toStore_u8A8 (a : Addr) (v : Value) : storeVar 52 a v = storeR 52 a v := rfl
@[go_sem] theorem load_u8A8 (w : World) (b o : Nat) : (loadR 52 ⟨b, o, none⟩).run Tryd.prog w = loaded Tryd.prog 52 8 w b o := run_load_rowA (P := Tryd.prog) 52 8 _ (by omega) Tryd.underlying52 rfl size_u8A8 w b o
@[go_sem] theorem store_u8A8 (w : World) (b o : Nat) (vs : Array Value) : (storeR 52 ⟨b, o, none⟩ (.agg vs)).run Tryd.prog w = storedRow Tryd.prog 52 8 w b o vs := run_store_rowA (P := Tryd.prog) 52 8 (by omega) size_u8A8 w b o vs
@[go_sem ↓] theorem zero_u8A8 (w : World) : (zeroValue 52).run Tryd.prog w = .ok (.agg (kc (fun _ => .u8) 8 fun _ => 0)) w := by kernel_rfl
theorem size_lSheet : (Tryd.prog.info? 54).map (·.size) = some 266 := by kernel_rfl
@[go_sem ↓] theorem toLoad_lSheet (a : Addr) : loadVar 54 a = loadR 54 a := rfl
@[go_sem ↓] theorem toStore_lSheet (a : Addr) (v : Value) : storeVar 54 a v = storeR 54 a v := rfl
@[go_sem] theorem load_lSheet (w : World) (b o : Nat) : (loadR 54 ⟨b, o, none⟩).run Tryd.prog w = loaded Tryd.prog 54 266 w b o := run_load_rowA (P := Tryd.prog) 54 266 _ (by omega) Tryd.underlying54 rfl size_lSheet w b o
@[go_sem] theorem store_lSheet (w : World) (b o : Nat) (vs : Array Value) : (storeR 54 ⟨b, o, none⟩ (.agg vs)).run Tryd.prog w = storedRow Tryd.prog 54 266 w b o vs := run_store_rowA (P := Tryd.prog) 54 266 (by omega) size_lSheet w b o vs
@[go_sem ↓] theorem zero_lSheet (w : World) : (zeroValue 54).run Tryd.prog w = .ok (.agg (kc sk 266 fun _ => 0)) w := by kernel_rfl
theorem size_iSheet : (Tryd.prog.info? 56).map (·.size) = some 266 := by kernel_rfl
@[go_sem ↓] theorem toLoad_iSheet (a : Addr) : loadVar 56 a = loadR 56 a := rfl
@[go_sem ↓] theorem toStore_iSheet (a : Addr) (v : Value) : storeVar 56 a v = storeR 56 a v := rfl
@[go_sem] theorem load_iSheet (w : World) (b o : Nat) : (loadR 56 ⟨b, o, none⟩).run Tryd.prog w = loaded Tryd.prog 56 266 w b o := run_load_rowA (P := Tryd.prog) 56 266 _ (by omega) Tryd.underlying56 rfl size_iSheet w b o
@[go_sem] theorem store_iSheet (w : World) (b o : Nat) (vs : Array Value) : (storeR 56 ⟨b, o, none⟩ (.agg vs)).run Tryd.prog w = storedRow Tryd.prog 56 266 w b o vs := run_store_rowA (P := Tryd.prog) 56 266 (by omega) size_iSheet w b o vs
@[go_sem ↓] theorem zero_iSheet (w : World) : (zeroValue 56).run Tryd.prog w = .ok (.agg (kc sk 266 fun _ => 0)) w := by kernel_rfl
theorem size_iRings : (Tryd.prog.info? 58).map (·.size) = some 64 := by kernel_rfl
@[go_sem ↓] theorem toLoad_iRings (a : Addr) : loadVar 58 a = loadR 58 a := rfl
@[go_sem ↓] theorem toStore_iRings (a : Addr) (v : Value) : storeVar 58 a v = storeR 58 a v := rfl
@[go_sem] theorem load_iRings (w : World) (b o : Nat) : (loadR 58 ⟨b, o, none⟩).run Tryd.prog w = loaded Tryd.prog 58 64 w b o := run_load_rowA (P := Tryd.prog) 58 64 _ (by omega) Tryd.underlying58 rfl size_iRings w b o
@[go_sem] theorem store_iRings (w : World) (b o : Nat) (vs : Array Value) : (storeR 58 ⟨b, o, none⟩ (.agg vs)).run Tryd.prog w = storedRow Tryd.prog 58 64 w b o vs := run_store_rowA (P := Tryd.prog) 58 64 (by omega) size_iRings w b o vs
@[go_sem ↓] theorem zero_iRings (w : World) : (zeroValue 58).run Tryd.prog w = .ok (.agg (kc (fun _ => .i16) 64 fun _ => 0)) w := by kernel_rfl
@[go_sem] theorem index_0 (cs : Array Value) (k : IntKind) (i : Int) (w : World) : (Instr.index 49 (.agg cs) (.int k i)).run Tryd.prog w = indexed Tryd.prog 49 1 3 false cs k i w := run_index_row (P := Tryd.prog) 49 46 1 3 false _ Tryd.underlying49 Tryd.underlying46 rfl (by kernel_rfl) cs k i w
@[go_sem] theorem index_1 (cs : Array Value) (k : IntKind) (i : Int) (w : World) : (Instr.index 47 (.agg cs) (.int k i)).run Tryd.prog w = indexed Tryd.prog 47 1 8 false cs k i w := run_index_row (P := Tryd.prog) 47 46 1 8 false _ Tryd.underlying47 Tryd.underlying46 rfl (by kernel_rfl) cs k i w
@[go_sem] theorem index_2 (cs : Array Value) (k : IntKind) (i : Int) (w : World) : (Instr.index 48 (.agg cs) (.int k i)).run Tryd.prog w = indexed Tryd.prog 48 8 8 true cs k i w := run_index_row (P := Tryd.prog) 48 47 8 8 true _ Tryd.underlying48 Tryd.underlying47 rfl (by kernel_rfl) cs k i w
@[go_sem] theorem index_3 (cs : Array Value) (k : IntKind) (i : Int) (w : World) : (Instr.index 50 (.agg cs) (.int k i)).run Tryd.prog w = indexed Tryd.prog 50 3 8 true cs k i w := run_index_row (P := Tryd.prog) 50 49 3 8 true _ Tryd.underlying50 Tryd.underlying49 rfl (by kernel_rfl) cs k i w
@[go_sem] theorem index_4 (cs : Array Value) (k : IntKind) (i : Int) (w : World) : (Instr.index 51 (.agg cs) (.int k i)).run Tryd.prog w = indexed Tryd.prog 51 24 8 true cs k i w := run_index_row (P := Tryd.prog) 51 50 24 8 true _ Tryd.underlying51 Tryd.underlying50 rfl (by kernel_rfl) cs k i w
@[go_sem] theorem index_5 (cs : Array Value) (k : IntKind) (i : Int) (w : World) : (Instr.index 52 (.agg cs) (.int k i)).run Tryd.prog w = indexed Tryd.prog 52 1 8 false cs k i w := run_index_row (P := Tryd.prog) 52 5 1 8 false _ Tryd.underlying52 Tryd.underlying5 rfl (by kernel_rfl) cs k i w
@[go_sem] theorem index_10 (cs : Array Value) (k : IntKind) (i : Int) (w : World) : (Instr.index 58 (.agg cs) (.int k i)).run Tryd.prog w = indexed Tryd.prog 58 8 8 true cs k i w := run_index_row (P := Tryd.prog) 58 47 8 8 true _ Tryd.underlying58 Tryd.underlying47 rfl (by kernel_rfl) cs k i w
/-- A composite literal, behind a name that the walk's own rules do not open. -/
def buildR (t : TypeId) (ps : Array (Nat × Value)) : Sem Value := Instr.build t ps
@[go_sem ↓] theorem toBuild_iSheet (ps : Array (Nat × Value)) : Instr.build 56 ps = buildR 56 ps := rfl
theorem built0_iSheet : Tryd.prog.built 56 [] = some (kc sk 266 fun _ => 0) := by kernel_rfl
theorem built2_iSheet (a b : Int) : Tryd.prog.built 56 [(0, .int .i8 a), (1, .int .i8 b)] = some (kc sk 266 fun j => if j = 0 then a else if j = 1 then b else 0) := by kernel_rfl
@[go_sem] theorem build0_iSheet (w : World) : (buildR 56 #[]).run Tryd.prog w = .ok (.agg (kc sk 266 fun _ => 0)) w := run_build w 56 #[] _ built0_iSheet
@[go_sem] theorem build2_iSheet (a b : Int) (w : World) : (buildR 56 #[(0, .int .i8 a), (1, .int .i8 b)]).run Tryd.prog w = .ok (.agg (kc sk 266 fun j => if j = 0 then a else if j = 1 then b else 0)) w := run_build w 56 _ _ (built2_iSheet a b)
end Go.Proofs.YtbnhhjjhjjmmjaaDoor
