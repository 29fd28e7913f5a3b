/- The types of many cells of this program: their sizes, and the walk's rules for reading, writing and making them. -/
import Derived.Test.YtfcffihenmjafaaProg
import Derived.Test.YtfcffihenmjafaaMem
namespace Go.Proofs.Ytfcffihenmjafaa

theorem size_i16A8 : (Try.prog.info? 24).map (·.size) = some 8 := by kernel_rfl
@[go_sem ↓] theorem toLoad_i16A8 (a : Addr) : loadVar 24 a = loadR 24 a := rfl
@[go_sem ↓] theorem toStore_i16A8 (a : Addr) (v : Value) : storeVar 24 a v = storeR 24 a v := rfl
@[go_sem] theorem load_i16A8 (w : World) (b o : Nat) : (loadR 24 ⟨b, o, none⟩).run Try.prog w = loaded Try.prog 24 8 w b o := run_load_rowA (P := Try.prog) 24 8 _ (by omega) Try.underlying24 rfl size_i16A8 w b o
@[go_sem] theorem store_i16A8 (w : World) (b o : Nat) (vs : Array Value) : (storeR 24 ⟨b, o, none⟩ (.agg vs)).run Try.prog w = storedRow Try.prog 24 8 w b o vs := run_store_rowA (P := Try.prog) 24 8 (by omega) size_i16A8 w b o vs
@[go_sem ↓] theorem zero_i16A8 (w : World) : (zeroValue 24).run Try.prog w = .ok (.agg (kc (fun _ => .i16) 8 fun _ => 0)) w := by kernel_rfl
theorem size_i16A8A8 : (Try.prog.info? 25).map (·.size) = some 64 := by kernel_rfl
@[go_sem ↓] theorem toLoad_i16A8A8 (a : Addr) : loadVar 25 a = loadR 25 a := rfl
@[go_sem ↓] theorem toStore_i16A8A8 (a : Addr) (v : Value) : storeVar 25 a v = storeR 25 a v := rfl
@[go_sem] theorem load_i16A8A8 (w : World) (b o : Nat) : (loadR 25 ⟨b, o, none⟩).run Try.prog w = loaded Try.prog 25 64 w b o := run_load_rowA (P := Try.prog) 25 64 _ (by omega) Try.underlying25 rfl size_i16A8A8 w b o
@[go_sem] theorem store_i16A8A8 (w : World) (b o : Nat) (vs : Array Value) : (storeR 25 ⟨b, o, none⟩ (.agg vs)).run Try.prog w = storedRow Try.prog 25 64 w b o vs := run_store_rowA (P := Try.prog) 25 64 (by omega) size_i16A8A8 w b o vs
@[go_sem ↓] theorem zero_i16A8A8 (w : World) : (zeroValue 25).run Try.prog w = .ok (.agg (kc (fun _ => .i16) 64 fun _ => 0)) w := by kernel_rfl
theorem size_i16A3A8 : (Try.prog.info? 27).map (·.size) = some 24 := by kernel_rfl
@[go_sem ↓] theorem toLoad_i16A3A8 (a : Addr) : loadVar 27 a = loadR 27 a := rfl
@[go_sem ↓] theorem toStore_i16A3A8 (a : Addr) (v : Value) : storeVar 27 a v = storeR 27 a v := rfl
@[go_sem] theorem load_i16A3A8 (w : World) (b o : Nat) : (loadR 27 ⟨b, o, none⟩).run Try.prog w = loaded Try.prog 27 24 w b o := run_load_rowA (P := Try.prog) 27 24 _ (by omega) Try.underlying27 rfl size_i16A3A8 w b o
@[go_sem] theorem store_i16A3A8 (w : World) (b o : Nat) (vs : Array Value) : (storeR 27 ⟨b, o, none⟩ (.agg vs)).run Try.prog w = storedRow Try.prog 27 24 w b o vs := run_store_rowA (P := Try.prog) 27 24 (by omega) size_i16A3A8 w b o vs
@[go_sem ↓] theorem zero_i16A3A8 (w : World) : (zeroValue 27).run Try.prog w = .ok (.agg (kc (fun _ => .i16) 24 fun _ => 0)) w := by kernel_rfl
theorem size_i16A3A8A8 : (Try.prog.info? 28).map (·.size) = some 192 := by kernel_rfl
@[go_sem ↓] theorem toLoad_i16A3A8A8 (a : Addr) : loadVar 28 a = loadR 28 a := rfl
@[go_sem ↓] theorem toStore_i16A3A8A8 (a : Addr) (v : Value) : storeVar 28 a v = storeR 28 a v := rfl
@[go_sem] theorem load_i16A3A8A8 (w : World) (b o : Nat) : (loadR 28 ⟨b, o, none⟩).run Try.prog w = loaded Try.prog 28 192 w b o := run_load_rowA (P := Try.prog) 28 192 _ (by omega) Try.underlying28 rfl size_i16A3A8A8 w b o
@[go_sem] theorem store_i16A3A8A8 (w : World) (b o : Nat) (vs : Array Value) : (storeR 28 ⟨b, o, none⟩ (.agg vs)).run Try.prog w = storedRow Try.prog 28 192 w b o vs := run_store_rowA (P := Try.prog) 28 192 (by omega) size_i16A3A8A8 w b o vs
@[go_sem ↓] theorem zero_i16A3A8A8 (w : World) : (zeroValue 28).run Try.prog w = .ok (.agg (kc (fun _ => .i16) 192 fun _ => 0)) w := by kernel_rfl
theorem size_u8A8 : (Try.prog.info? 29).map (·.size) = some 8 := by kernel_rfl
@[go_sem ↓] theorem toLoad_u8A8 (a : Addr) : loadVar 29 a = loadR 29 a := rfl
@[go_sem ↓] theorem toStore_u8A8 (a : Addr) (v : Value) : storeVar 29 a v = storeR 29 a v := rfl
@[go_sem] theorem load_u8A8 (w : World) (b o : Nat) : (loadR 29 ⟨b, o, none⟩).run Try.prog w = loaded Try.prog 29 8 w b o := run_load_rowA (P := Try.prog) 29 8 _ (by omega) Try.underlying29 rfl size_u8A8 w b o
@[go_sem] theorem store_u8A8 (w : World) (b o : Nat) (vs : Array Value) : (storeR 29 ⟨b, o, none⟩ (.agg vs)).run Try.prog w = storedRow Try.prog 29 8 w b o vs := run_store_rowA (P := Try.prog) 29 8 (by omega) size_u8A8 w b o vs
@[go_sem ↓] theorem zero_u8A8 (w : World) : (zeroValue 29).run Try.prog w = .ok (.agg (kc (fun _ => .u8) 8 fun _ => 0)) w := by kernel_rfl
theorem size_lSheet : (Try.prog.info? 31).map (·.size) = some 266 := by kernel_rfl
@[go_sem ↓] theorem toLoad_lSheet (a : Addr) : loadVar 31 a = loadR 31 a := rfl
@[go_sem ↓] theorem toStore_lSheet (a : Addr) (v : Value) : storeVar 31 a v = storeR 31 a v := rfl
@[go_sem] theorem load_lSheet (w : World) (b o : Nat) : (loadR 31 ⟨b, o, none⟩).run Try.prog w = loaded Try.prog 31 266 w b o := run_load_rowA (P := Try.prog) 31 266 _ (by omega) Try.underlying31 rfl size_lSheet w b o
@[go_sem] theorem store_lSheet (w : World) (b o : Nat) (vs : Array Value) : (storeR 31 ⟨b, o, none⟩ (.agg vs)).run Try.prog w = storedRow Try.prog 31 266 w b o vs := run_store_rowA (P := Try.prog) 31 266 (by omega) size_lSheet w b o vs
@[go_sem ↓] theorem zero_lSheet (w : World) : (zeroValue 31).run Try.prog w = .ok (.agg (kc sk 266 fun _ => 0)) w := by kernel_rfl
theorem size_iSheet : (Try.prog.info? 35).map (·.size) = some 266 := by kernel_rfl
@[go_sem ↓] theorem toLoad_iSheet (a : Addr) : loadVar 35 a = loadR 35 a := rfl
@[go_sem ↓] theorem toStore_iSheet (a : Addr) (v : Value) : storeVar 35 a v = storeR 35 a v := rfl
@[go_sem] theorem load_iSheet (w : World) (b o : Nat) : (loadR 35 ⟨b, o, none⟩).run Try.prog w = loaded Try.prog 35 266 w b o := run_load_rowA (P := Try.prog) 35 266 _ (by omega) Try.underlying35 rfl size_iSheet w b o
@[go_sem] theorem store_iSheet (w : World) (b o : Nat) (vs : Array Value) : (storeR 35 ⟨b, o, none⟩ (.agg vs)).run Try.prog w = storedRow Try.prog 35 266 w b o vs := run_store_rowA (P := Try.prog) 35 266 (by omega) size_iSheet w b o vs
@[go_sem ↓] theorem zero_iSheet (w : World) : (zeroValue 35).run Try.prog w = .ok (.agg (kc sk 266 fun _ => 0)) w := by kernel_rfl
theorem size_iRings : (Try.prog.info? 216).map (·.size) = some 64 := by kernel_rfl
@[go_sem ↓] theorem toLoad_iRings (a : Addr) : loadVar 216 a = loadR 216 a := rfl
@[go_sem ↓] theorem toStore_iRings (a : Addr) (v : Value) : storeVar 216 a v = storeR 216 a v := rfl
@[go_sem] theorem load_iRings (w : World) (b o : Nat) : (loadR 216 ⟨b, o, none⟩).run Try.prog w = loaded Try.prog 216 64 w b o := run_load_rowA (P := Try.prog) 216 64 _ (by omega) Try.underlying216 rfl size_iRings w b o
@[go_sem] theorem store_iRings (w : World) (b o : Nat) (vs : Array Value) : (storeR 216 ⟨b, o, none⟩ (.agg vs)).run Try.prog w = storedRow Try.prog 216 64 w b o vs := run_store_rowA (P := Try.prog) 216 64 (by omega) size_iRings w b o vs
@[go_sem ↓] theorem zero_iRings (w : World) : (zeroValue 216).run Try.prog w = .ok (.agg (kc (fun _ => .i16) 64 fun _ => 0)) w := by kernel_rfl
@[go_sem] theorem index_0 (cs : Array Value) (k : IntKind) (i : Int) (w : World) : (Instr.index 26 (.agg cs) (.int k i)).run Try.prog w = indexed Try.prog 26 1 3 false cs k i w := run_index_row (P := Try.prog) 26 23 1 3 false _ Try.underlying26 Try.underlying23 rfl (by kernel_rfl) cs k i w
@[go_sem] theorem index_1 (cs : Array Value) (k : IntKind) (i : Int) (w : World) : (Instr.index 24 (.agg cs) (.int k i)).run Try.prog w = indexed Try.prog 24 1 8 false cs k i w := run_index_row (P := Try.prog) 24 23 1 8 false _ Try.underlying24 Try.underlying23 rfl (by kernel_rfl) cs k i w
@[go_sem] theorem index_2 (cs : Array Value) (k : IntKind) (i : Int) (w : World) : (Instr.index 25 (.agg cs) (.int k i)).run Try.prog w = indexed Try.prog 25 8 8 true cs k i w := run_index_row (P := Try.prog) 25 24 8 8 true _ Try.underlying25 Try.underlying24 rfl (by kernel_rfl) cs k i w
@[go_sem] theorem index_3 (cs : Array Value) (k : IntKind) (i : Int) (w : World) : (Instr.index 27 (.agg cs) (.int k i)).run Try.prog w = indexed Try.prog 27 3 8 true cs k i w := run_index_row (P := Try.prog) 27 26 3 8 true _ Try.underlying27 Try.underlying26 rfl (by kernel_rfl) cs k i w
@[go_sem] theorem index_4 (cs : Array Value) (k : IntKind) (i : Int) (w : World) : (Instr.index 28 (.agg cs) (.int k i)).run Try.prog w = indexed Try.prog 28 24 8 true cs k i w := run_index_row (P := Try.prog) 28 27 24 8 true _ Try.underlying28 Try.underlying27 rfl (by kernel_rfl) cs k i w
@[go_sem] theorem index_5 (cs : Array Value) (k : IntKind) (i : Int) (w : World) : (Instr.index 29 (.agg cs) (.int k i)).run Try.prog w = indexed Try.prog 29 1 8 false cs k i w := run_index_row (P := Try.prog) 29 5 1 8 false _ Try.underlying29 Try.underlying5 rfl (by kernel_rfl) cs k i w
@[go_sem] theorem index_9 (cs : Array Value) (k : IntKind) (i : Int) (w : World) : (Instr.index 147 (.agg cs) (.int k i)).run Try.prog w = indexed Try.prog 147 2 2 true cs k i w := run_index_row (P := Try.prog) 147 88 2 2 true _ Try.underlying147 Try.underlying88 rfl (by kernel_rfl) cs k i w
@[go_sem] theorem index_10 (cs : Array Value) (k : IntKind) (i : Int) (w : World) : (Instr.index 216 (.agg cs) (.int k i)).run Try.prog w = indexed Try.prog 216 8 8 true cs k i w := run_index_row (P := Try.prog) 216 24 8 8 true _ Try.underlying216 Try.underlying24 rfl (by kernel_rfl) cs k i w
/-- A composite literal, behind a name that the walk's own rules do not open. -/
def buildR (t : TypeId) (ps : Array (Nat × Value)) : Sem Value := Instr.build t ps
@[go_sem ↓] theorem toBuild_iSheet (ps : Array (Nat × Value)) : Instr.build 35 ps = buildR 35 ps := rfl
theorem built0_iSheet : Try.prog.built 35 [] = some (kc sk 266 fun _ => 0) := by kernel_rfl
theorem built2_iSheet (a b : Int) : Try.prog.built 35 [(0, .int .i8 a), (1, .int .i8 b)] = some (kc sk 266 fun j => if j = 0 then a else if j = 1 then b else 0) := by kernel_rfl
@[go_sem] theorem build0_iSheet (w : World) : (buildR 35 #[]).run Try.prog w = .ok (.agg (kc sk 266 fun _ => 0)) w := run_build w 35 #[] _ built0_iSheet
@[go_sem] theorem build2_iSheet (a b : Int) (w : World) : (buildR 35 #[(0, .int .i8 a), (1, .int .i8 b)]).run Try.prog w = .ok (.agg (kc sk 266 fun j => if j = 0 then a else if j = 1 then b else 0)) w := run_build w 35 _ _ (built2_iSheet a b)
end Go.Proofs.Ytfcffihenmjafaa
