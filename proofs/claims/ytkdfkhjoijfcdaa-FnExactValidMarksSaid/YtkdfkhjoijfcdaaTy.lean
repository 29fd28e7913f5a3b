/- The types of many cells of this program: their sizes, and the walk's rules for reading, writing and making them. -/
import Derived.Test.YtkdfkhjoijfcdaaProg
import Derived.Test.YtkdfkhjoijfcdaaMem
namespace Go.Proofs.Ytkdfkhjoijfcdaa

theorem size_i16A8 : (Try.prog.info? 25).map (·.size) = some 8 := by kernel_rfl
@[go_sem ↓] theorem toLoad_i16A8 (a : Addr) : loadVar 25 a = loadR 25 a := rfl
@[go_sem ↓] theorem toStore_i16A8 (a : Addr) (v : Value) : storeVar 25 a v = storeR 25 a v := rfl
@[go_sem] theorem load_i16A8 (w : World) (b o : Nat) : (loadR 25 ⟨b, o, none⟩).run Try.prog w = loaded Try.prog 25 8 w b o := run_load_rowA (P := Try.prog) 25 8 _ (by omega) Try.underlying25 rfl size_i16A8 w b o
@[go_sem] theorem store_i16A8 (w : World) (b o : Nat) (vs : Array Value) : (storeR 25 ⟨b, o, none⟩ (.agg vs)).run Try.prog w = storedRow Try.prog 25 8 w b o vs := run_store_rowA (P := Try.prog) 25 8 (by omega) size_i16A8 w b o vs
@[go_sem ↓] theorem zero_i16A8 (w : World) : (zeroValue 25).run Try.prog w = .ok (.agg (kc (fun _ => .i16) 8 fun _ => 0)) w := by kernel_rfl
theorem size_i16A8A8 : (Try.prog.info? 26).map (·.size) = some 64 := by kernel_rfl
@[go_sem ↓] theorem toLoad_i16A8A8 (a : Addr) : loadVar 26 a = loadR 26 a := rfl
@[go_sem ↓] theorem toStore_i16A8A8 (a : Addr) (v : Value) : storeVar 26 a v = storeR 26 a v := rfl
@[go_sem] theorem load_i16A8A8 (w : World) (b o : Nat) : (loadR 26 ⟨b, o, none⟩).run Try.prog w = loaded Try.prog 26 64 w b o := run_load_rowA (P := Try.prog) 26 64 _ (by omega) Try.underlying26 rfl size_i16A8A8 w b o
@[go_sem] theorem store_i16A8A8 (w : World) (b o : Nat) (vs : Array Value) : (storeR 26 ⟨b, o, none⟩ (.agg vs)).run Try.prog w = storedRow Try.prog 26 64 w b o vs := run_store_rowA (P := Try.prog) 26 64 (by omega) size_i16A8A8 w b o vs
@[go_sem ↓] theorem zero_i16A8A8 (w : World) : (zeroValue 26).run Try.prog w = .ok (.agg (kc (fun _ => .i16) 64 fun _ => 0)) w := by kernel_rfl
theorem size_i16A3A8 : (Try.prog.info? 28).map (·.size) = some 24 := by kernel_rfl
@[go_sem ↓] theorem toLoad_i16A3A8 (a : Addr) : loadVar 28 a = loadR 28 a := rfl
@[go_sem ↓] theorem toStore_i16A3A8 (a : Addr) (v : Value) : storeVar 28 a v = storeR 28 a v := rfl
@[go_sem] theorem load_i16A3A8 (w : World) (b o : Nat) : (loadR 28 ⟨b, o, none⟩).run Try.prog w = loaded Try.prog 28 24 w b o := run_load_rowA (P := Try.prog) 28 24 _ (by omega) Try.underlying28 rfl size_i16A3A8 w b o
@[go_sem] theorem store_i16A3A8 (w : World) (b o : Nat) (vs : Array Value) : (storeR 28 ⟨b, o, none⟩ (.agg vs)).run Try.prog w = storedRow Try.prog 28 24 w b o vs := run_store_rowA (P := Try.prog) 28 24 (by omega) size_i16A3A8 w b o vs
@[go_sem ↓] theorem zero_i16A3A8 (w : World) : (zeroValue 28).run Try.prog w = .ok (.agg (kc (fun _ => .i16) 24 fun _ => 0)) w := by kernel_rfl
theorem size_i16A3A8A8 : (Try.prog.info? 29).map (·.size) = some 192 := by kernel_rfl
@[go_sem ↓] theorem toLoad_i16A3A8A8 (a : Addr) : loadVar 29 a = loadR 29 a := rfl
@[go_sem ↓] theorem toStore_i16A3A8A8 (a : Addr) (v : Value) : storeVar 29 a v = storeR 29 a v := rfl
@[go_sem] theorem load_i16A3A8A8 (w : World) (b o : Nat) : (loadR 29 ⟨b, o, none⟩).run Try.prog w = loaded Try.prog 29 192 w b o := run_load_rowA (P := Try.prog) 29 192 _ (by omega) Try.underlying29 rfl size_i16A3A8A8 w b o
@[go_sem] theorem store_i16A3A8A8 (w : World) (b o : Nat) (vs : Array Value) : (storeR 29 ⟨b, o, none⟩ (.agg vs)).run Try.prog w = storedRow Try.prog 29 192 w b o vs := run_store_rowA (P := Try.prog) 29 192 (by omega) size_i16A3A8A8 w b o vs
@[go_sem ↓] theorem zero_i16A3A8A8 (w : World) : (zeroValue 29).run Try.prog w = .ok (.agg (kc (fun _ => .i16) 192 fun _ => 0)) w := by kernel_rfl
theorem size_u8A8 : (Try.prog.info? 30).map (·.size) = some 8 := by kernel_rfl
@[go_sem ↓] theorem toLoad_u8A8 (a : Addr) : loadVar 30 a = loadR 30 a := rfl
@[go_sem ↓] theorem toStore_u8A8 (a : Addr) (v : Value) : storeVar 30 a v = storeR 30 a v := rfl
@[go_sem] theorem load_u8A8 (w : World) (b o : Nat) : (loadR 30 ⟨b, o, none⟩).run Try.prog w = loaded Try.prog 30 8 w b o := run_load_rowA (P := Try.prog) 30 8 _ (by omega) Try.underlying30 rfl size_u8A8 w b o
@[go_sem] theorem store_u8A8 (w : World) (b o : Nat) (vs : Array Value) : (storeR 30 ⟨b, o, none⟩ (.agg vs)).run Try.prog w = storedRow Try.prog 30 8 w b o vs := run_store_rowA (P := Try.prog) 30 8 (by omega) size_u8A8 w b o vs
@[go_sem ↓] theorem zero_u8A8 (w : World) : (zeroValue 30).run Try.prog w = .ok (.agg (kc (fun _ => .u8) 8 fun _ => 0)) w := by kernel_rfl
theorem size_lSheet : (Try.prog.info? 32).map (·.size) = some 266 := by kernel_rfl
@[go_sem ↓] theorem toLoad_lSheet (a : Addr) : loadVar 32 a = loadR 32 a := rfl
@[go_sem ↓] theorem toStore_lSheet (a : Addr) (v : Value) : storeVar 32 a v = storeR 32 a v := rfl
@[go_sem] theorem load_lSheet (w : World) (b o : Nat) : (loadR 32 ⟨b, o, none⟩).run Try.prog w = loaded Try.prog 32 266 w b o := run_load_rowA (P := Try.prog) 32 266 _ (by omega) Try.underlying32 rfl size_lSheet w b o
@[go_sem] theorem store_lSheet (w : World) (b o : Nat) (vs : Array Value) : (storeR 32 ⟨b, o, none⟩ (.agg vs)).run Try.prog w = storedRow Try.prog 32 266 w b o vs := run_store_rowA (P := Try.prog) 32 266 (by omega) size_lSheet w b o vs
@[go_sem ↓] theorem zero_lSheet (w : World) : (zeroValue 32).run Try.prog w = .ok (.agg (kc sk 266 fun _ => 0)) w := by kernel_rfl
theorem size_iSheet : (Try.prog.info? 39).map (·.size) = some 266 := by kernel_rfl
@[go_sem ↓] theorem toLoad_iSheet (a : Addr) : loadVar 39 a = loadR 39 a := rfl
@[go_sem ↓] theorem toStore_iSheet (a : Addr) (v : Value) : storeVar 39 a v = storeR 39 a v := rfl
@[go_sem] theorem load_iSheet (w : World) (b o : Nat) : (loadR 39 ⟨b, o, none⟩).run Try.prog w = loaded Try.prog 39 266 w b o := run_load_rowA (P := Try.prog) 39 266 _ (by omega) Try.underlying39 rfl size_iSheet w b o
@[go_sem] theorem store_iSheet (w : World) (b o : Nat) (vs : Array Value) : (storeR 39 ⟨b, o, none⟩ (.agg vs)).run Try.prog w = storedRow Try.prog 39 266 w b o vs := run_store_rowA (P := Try.prog) 39 266 (by omega) size_iSheet w b o vs
@[go_sem ↓] theorem zero_iSheet (w : World) : (zeroValue 39).run Try.prog w = .ok (.agg (kc sk 266 fun _ => 0)) w := by kernel_rfl
theorem size_iRings : (Try.prog.info? 158).map (·.size) = some 64 := by kernel_rfl
@[go_sem ↓] theorem toLoad_iRings (a : Addr) : loadVar 158 a = loadR 158 a := rfl
@[go_sem ↓] theorem toStore_iRings (a : Addr) (v : Value) : storeVar 158 a v = storeR 158 a v := rfl
@[go_sem] theorem load_iRings (w : World) (b o : Nat) : (loadR 158 ⟨b, o, none⟩).run Try.prog w = loaded Try.prog 158 64 w b o := run_load_rowA (P := Try.prog) 158 64 _ (by omega) Try.underlying158 rfl size_iRings w b o
@[go_sem] theorem store_iRings (w : World) (b o : Nat) (vs : Array Value) : (storeR 158 ⟨b, o, none⟩ (.agg vs)).run Try.prog w = storedRow Try.prog 158 64 w b o vs := run_store_rowA (P := Try.prog) 158 64 (by omega) size_iRings w b o vs
@[go_sem ↓] theorem zero_iRings (w : World) : (zeroValue 158).run Try.prog w = .ok (.agg (kc (fun _ => .i16) 64 fun _ => 0)) w := by kernel_rfl
@[go_sem] theorem index_0 (cs : Array Value) (k : IntKind) (i : Int) (w : World) : (Instr.index 27 (.agg cs) (.int k i)).run Try.prog w = indexed Try.prog 27 1 3 false cs k i w := run_index_row (P := Try.prog) 27 24 1 3 false _ Try.underlying27 Try.underlying24 rfl (by kernel_rfl) cs k i w
@[go_sem] theorem index_1 (cs : Array Value) (k : IntKind) (i : Int) (w : World) : (Instr.index 25 (.agg cs) (.int k i)).run Try.prog w = indexed Try.prog 25 1 8 false cs k i w := run_index_row (P := Try.prog) 25 24 1 8 false _ Try.underlying25 Try.underlying24 rfl (by kernel_rfl) cs k i w
@[go_sem] theorem index_2 (cs : Array Value) (k : IntKind) (i : Int) (w : World) : (Instr.index 26 (.agg cs) (.int k i)).run Try.prog w = indexed Try.prog 26 8 8 true cs k i w := run_index_row (P := Try.prog) 26 25 8 8 true _ Try.underlying26 Try.underlying25 rfl (by kernel_rfl) cs k i w
@[go_sem] theorem index_3 (cs : Array Value) (k : IntKind) (i : Int) (w : World) : (Instr.index 28 (.agg cs) (.int k i)).run Try.prog w = indexed Try.prog 28 3 8 true cs k i w := run_index_row (P := Try.prog) 28 27 3 8 true _ Try.underlying28 Try.underlying27 rfl (by kernel_rfl) cs k i w
@[go_sem] theorem index_4 (cs : Array Value) (k : IntKind) (i : Int) (w : World) : (Instr.index 29 (.agg cs) (.int k i)).run Try.prog w = indexed Try.prog 29 24 8 true cs k i w := run_index_row (P := Try.prog) 29 28 24 8 true _ Try.underlying29 Try.underlying28 rfl (by kernel_rfl) cs k i w
@[go_sem] theorem index_5 (cs : Array Value) (k : IntKind) (i : Int) (w : World) : (Instr.index 30 (.agg cs) (.int k i)).run Try.prog w = indexed Try.prog 30 1 8 false cs k i w := run_index_row (P := Try.prog) 30 5 1 8 false _ Try.underlying30 Try.underlying5 rfl (by kernel_rfl) cs k i w
@[go_sem] theorem index_10 (cs : Array Value) (k : IntKind) (i : Int) (w : World) : (Instr.index 158 (.agg cs) (.int k i)).run Try.prog w = indexed Try.prog 158 8 8 true cs k i w := run_index_row (P := Try.prog) 158 25 8 8 true _ Try.underlying158 Try.underlying25 rfl (by kernel_rfl) cs k i w
/-- A composite literal, behind a name that the walk's own rules do not open. -/
def buildR (t : TypeId) (ps : Array (Nat × Value)) : Sem Value := Instr.build t ps
@[go_sem ↓] theorem toBuild_iSheet (ps : Array (Nat × Value)) : Instr.build 39 ps = buildR 39 ps := rfl
theorem built0_iSheet : Try.prog.built 39 [] = some (kc sk 266 fun _ => 0) := by kernel_rfl
theorem built2_iSheet (a b : Int) : Try.prog.built 39 [(0, .int .i8 a), (1, .int .i8 b)] = some (kc sk 266 fun j => if j = 0 then a else if j = 1 then b else 0) := by kernel_rfl
@[go_sem] theorem build0_iSheet (w : World) : (buildR 39 #[]).run Try.prog w = .ok (.agg (kc sk 266 fun _ => 0)) w := run_build w 39 #[] _ built0_iSheet
@[go_sem] theorem build2_iSheet (a b : Int) (w : World) : (buildR 39 #[(0, .int .i8 a), (1, .int .i8 b)]).run Try.prog w = .ok (.agg (kc sk 266 fun j => if j = 0 then a else if j = 1 then b else 0)) w := run_build w 39 _ _ (built2_iSheet a b)
end Go.Proofs.Ytkdfkhjoijfcdaa
