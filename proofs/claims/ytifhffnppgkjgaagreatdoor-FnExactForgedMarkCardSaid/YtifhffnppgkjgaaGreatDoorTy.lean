/- The types of many cells of this program: their sizes, and the walk's rules for reading, writing and making them. -/
import Derived.Test.YtifhffnppgkjgaaGreatDoorProg
import Derived.Test.YtifhffnppgkjgaaGreatDoorMem
namespace Go.Proofs.YtifhffnppgkjgaaGreatDoor

theorem size_i16A8 : (Tryz.prog.info? 24).map (·.size) = some 8 := by kernel_rfl
@[go_sem ↓] theorem toLoad_i16A8 (a : Addr) : loadVar 24 a = loadR 24 a := rfl
@[go_sem ↓] theorem toStore_i16A8 (a : Addr) (v : Value) : storeVar 24 a v = storeR 24 a v := rfl
@[go_sem] theorem load_i16A8 (w : World) (b o : Nat) : (loadR 24 ⟨b, o, none⟩).run Tryz.prog w = loaded Tryz.prog 24 8 w b o := run_load_rowA (P := Tryz.prog) 24 8 _ (by omega) Tryz.underlying24 rfl size_i16A8 w b o
@[go_sem] theorem store_i16A8 (w : World) (b o : Nat) (vs : Array Value) : (storeR 24 ⟨b, o, none⟩ (.agg vs)).run Tryz.prog w = storedRow Tryz.prog 24 8 w b o vs := run_store_rowA (P := Tryz.prog) 24 8 (by omega) size_i16A8 w b o vs
@[go_sem ↓] theorem zero_i16A8 (w : World) : (zeroValue 24).run Tryz.prog w = .ok (.agg (kc (fun _ => .i16) 8 fun _ => 0)) w := by kernel_rfl
theorem size_i16A8A8 : (Tryz.prog.info? 25).map (·.size) = some 64 := by kernel_rfl
@[go_sem ↓] theorem toLoad_i16A8A8 (a : Addr) : loadVar 25 a = loadR 25 a := rfl
@[go_sem ↓] theorem toStore_i16A8A8 (a : Addr) (v : Value) : storeVar 25 a v = storeR 25 a v := rfl
@[go_sem] theorem load_i16A8A8 (w : World) (b o : Nat) : (loadR 25 ⟨b, o, none⟩).run Tryz.prog w = loaded Tryz.prog 25 64 w b o := run_load_rowA (P := Tryz.prog) 25 64 _ (by omega) Tryz.underlying25 rfl size_i16A8A8 w b o
@[go_sem] theorem store_i16A8A8 (w : World) (b o : Nat) (vs : Array Value) : (storeR 25 ⟨b, o, none⟩ (.agg vs)).run Tryz.prog w = storedRow Tryz.prog 25 64 w b o vs := run_store_rowA (P := Tryz.prog) 25 64 (by omega) size_i16A8A8 w b o vs
@[go_sem ↓] theorem zero_i16A8A8 (w : World) : (zeroValue 25).run Tryz.prog w = .ok (.agg (kc (fun _ => .i16) 64 fun _ => 0)) w := by kernel_rfl
theorem size_i16A3A8 : (Tryz.prog.info? 27).map (·.size) = some 24 := by kernel_rfl
@[go_sem ↓] theorem toLoad_i16A3A8 (a : Addr) : loadVar 27 a = loadR 27 a := rfl
@[go_sem ↓] theorem toStore_i16A3A8 (a : Addr) (v : Value) : storeVar 27 a v = storeR 27 a v := rfl
@[go_sem] theorem load_i16A3A8 (w : World) (b o : Nat) : (loadR 27 ⟨b, o, none⟩).run Tryz.prog w = loaded Tryz.prog 27 24 w b o := run_load_rowA (P := Tryz.prog) 27 24 _ (by omega) Tryz.underlying27 rfl size_i16A3A8 w b o
@[go_sem] theorem store_i16A3A8 (w : World) (b o : Nat) (vs : Array Value) : (storeR 27 ⟨b, o, none⟩ (.agg vs)).run Tryz.prog w = storedRow Tryz.prog 27 24 w b o vs := run_store_rowA (P := Tryz.prog) 27 24 (by omega) size_i16A3A8 w b o vs
@[go_sem ↓] theorem zero_i16A3A8 (w : World) : (zeroValue 27).run Tryz.prog w = .ok (.agg (kc (fun _ => .i16) 24 fun _ => 0)) w := by kernel_rfl
theorem size_i16A3A8A8 : (Tryz.prog.info? 28).map (·.size) = some 192 := by kernel_rfl
@[go_sem ↓] theorem toLoad_i16A3A8A8 (a : Addr) : loadVar 28 a = loadR 28 a := rfl
@[go_sem ↓] theorem toStore_i16A3A8A8 (a : Addr) (v : Value) : storeVar 28 a v = storeR 28 a v := rfl
@[go_sem] theorem load_i16A3A8A8 (w : World) (b o : Nat) : (loadR 28 ⟨b, o, none⟩).run Tryz.prog w = loaded Tryz.prog 28 192 w b o := run_load_rowA (P := Tryz.prog) 28 192 _ (by omega) Tryz.underlying28 rfl size_i16A3A8A8 w b o
@[go_sem] theorem store_i16A3A8A8 (w : World) (b o : Nat) (vs : Array Value) : (storeR 28 ⟨b, o, none⟩ (.agg vs)).run Tryz.prog w = storedRow Tryz.prog 28 192 w b o vs := run_store_rowA (P := Tryz.prog) 28 192 (by omega) size_i16A3A8A8 w b o vs
@[go_sem ↓] theorem zero_i16A3A8A8 (w : World) : (zeroValue 28).run Tryz.prog w = .ok (.agg (kc (fun _ => .i16) 192 fun _ => 0)) w := by kernel_rfl
theorem size_u8A8 : (Tryz.prog.info? 29).map (·.size) = some 8 := by kernel_rfl
@[go_sem ↓] theorem toLoad_u8A8 (a : Addr) : loadVar 29 a = loadR 29 a := rfl
@[go_sem ↓] theorem toStore_u8A8 (a : Addr) (v : Value) : storeVar 29 a v = storeR 29 a v := rfl
@[go_sem] theorem load_u8A8 (w : World) (b o : Nat) : (loadR 29 ⟨b, o, none⟩).run Tryz.prog w = loaded Tryz.prog 29 8 w b o := run_load_rowA (P := Tryz.prog) 29 8 _ (by omega) Tryz.underlying29 rfl size_u8A8 w b o
@[go_sem] theorem store_u8A8 (w : World) (b o : Nat) (vs : Array Value) : (storeR 29 ⟨b, o, none⟩ (.agg vs)).run Tryz.prog w = storedRow Tryz.prog 29 8 w b o vs := run_store_rowA (P := Tryz.prog) 29 8 (by omega) size_u8A8 w b o vs
@[go_sem ↓] theorem zero_u8A8 (w : World) : (zeroValue 29).run Tryz.prog w = .ok (.agg (kc (fun _ => .u8) 8 fun _ => 0)) w := by kernel_rfl
theorem size_lSheet : (Tryz.prog.info? 31).map (·.size) = some 266 := by kernel_rfl
@[go_sem ↓] theorem toLoad_lSheet (a : Addr) : loadVar 31 a = loadR 31 a := rfl
@[go_sem ↓] theorem toStore_lSheet (a : Addr) (v : Value) : storeVar 31 a v = storeR 31 a v := rfl
@[go_sem] theorem load_lSheet (w : World) (b o : Nat) : (loadR 31 ⟨b, o, none⟩).run Tryz.prog w = loaded Tryz.prog 31 266 w b o := run_load_rowA (P := Tryz.prog) 31 266 _ (by omega) Tryz.underlying31 rfl size_lSheet w b o
@[go_sem] theorem store_lSheet (w : World) (b o : Nat) (vs : Array Value) : (storeR 31 ⟨b, o, none⟩ (.agg vs)).run Tryz.prog w = storedRow Tryz.prog 31 266 w b o vs := run_store_rowA (P := Tryz.prog) 31 266 (by omega) size_lSheet w b o vs
@[go_sem ↓] theorem zero_lSheet (w : World) : (zeroValue 31).run Tryz.prog w = .ok (.agg (kc sk 266 fun _ => 0)) w := by kernel_rfl
theorem size_iSheet : (Tryz.prog.info? 38).map (·.size) = some 266 := by kernel_rfl
@[go_sem ↓] theorem toLoad_iSheet (a : Addr) : loadVar 38 a = loadR 38 a := rfl
@[go_sem ↓] theorem toStore_iSheet (a : Addr) (v : Value) : storeVar 38 a v = storeR 38 a v := rfl
@[go_sem] theorem load_iSheet (w : World) (b o : Nat) : (loadR 38 ⟨b, o, none⟩).run Tryz.prog w = loaded Tryz.prog 38 266 w b o := run_load_rowA (P := Tryz.prog) 38 266 _ (by omega) Tryz.underlying38 rfl size_iSheet w b o
@[go_sem] theorem store_iSheet (w : World) (b o : Nat) (vs : Array Value) : (storeR 38 ⟨b, o, none⟩ (.agg vs)).run Tryz.prog w = storedRow Tryz.prog 38 266 w b o vs := run_store_rowA (P := Tryz.prog) 38 266 (by omega) size_iSheet w b o vs
@[go_sem ↓] theorem zero_iSheet (w : World) : (zeroValue 38).run Tryz.prog w = .ok (.agg (kc sk 266 fun _ => 0)) w := by kernel_rfl
theorem size_iRings : (Tryz.prog.info? 197).map (·.size) = some 64 := by kernel_rfl
@[go_sem ↓] theorem toLoad_iRings (a : Addr) : loadVar 197 a = loadR 197 a := rfl
@[go_sem ↓] theorem toStore_iRings (a : Addr) (v : Value) : storeVar 197 a v = storeR 197 a v := rfl
@[go_sem] theorem load_iRings (w : World) (b o : Nat) : (loadR 197 ⟨b, o, none⟩).run Tryz.prog w = loaded Tryz.prog 197 64 w b o := run_load_rowA (P := Tryz.prog) 197 64 _ (by omega) Tryz.underlying197 rfl size_iRings w b o
@[go_sem] theorem store_iRings (w : World) (b o : Nat) (vs : Array Value) : (storeR 197 ⟨b, o, none⟩ (.agg vs)).run Tryz.prog w = storedRow Tryz.prog 197 64 w b o vs := run_store_rowA (P := Tryz.prog) 197 64 (by omega) size_iRings w b o vs
@[go_sem ↓] theorem zero_iRings (w : World) : (zeroValue 197).run Tryz.prog w = .ok (.agg (kc (fun _ => .i16) 64 fun _ => 0)) w := by kernel_rfl
@[go_sem] theorem index_0 (cs : Array Value) (k : IntKind) (i : Int) (w : World) : (Instr.index 26 (.agg cs) (.int k i)).run Tryz.prog w = indexed Tryz.prog 26 1 3 false cs k i w := run_index_row (P := Tryz.prog) 26 23 1 3 false _ Tryz.underlying26 Tryz.underlying23 rfl (by kernel_rfl) cs k i w
@[go_sem] theorem index_1 (cs : Array Value) (k : IntKind) (i : Int) (w : World) : (Instr.index 24 (.agg cs) (.int k i)).run Tryz.prog w = indexed Tryz.prog 24 1 8 false cs k i w := run_index_row (P := Tryz.prog) 24 23 1 8 false _ Tryz.underlying24 Tryz.underlying23 rfl (by kernel_rfl) cs k i w
@[go_sem] theorem index_2 (cs : Array Value) (k : IntKind) (i : Int) (w : World) : (Instr.index 25 (.agg cs) (.int k i)).run Tryz.prog w = indexed Tryz.prog 25 8 8 true cs k i w := run_index_row (P := Tryz.prog) 25 24 8 8 true _ Tryz.underlying25 Tryz.underlying24 rfl (by kernel_rfl) cs k i w
@[go_sem] theorem index_3 (cs : Array Value) (k : IntKind) (i : Int) (w : World) : (Instr.index 27 (.agg cs) (.int k i)).run Tryz.prog w = indexed Tryz.prog 27 3 8 true cs k i w := run_index_row (P := Tryz.prog) 27 26 3 8 true _ Tryz.underlying27 Tryz.underlying26 rfl (by kernel_rfl) cs k i w
@[go_sem] theorem index_4 (cs : Array Value) (k : IntKind) (i : Int) (w : World) : (Instr.index 28 (.agg cs) (.int k i)).run Tryz.prog w = indexed Tryz.prog 28 24 8 true cs k i w := run_index_row (P := Tryz.prog) 28 27 24 8 true _ Tryz.underlying28 Tryz.underlying27 rfl (by kernel_rfl) cs k i w
@[go_sem] theorem index_5 (cs : Array Value) (k : IntKind) (i : Int) (w : World) : (Instr.index 29 (.agg cs) (.int k i)).run Tryz.prog w = indexed Tryz.prog 29 1 8 false cs k i w := run_index_row (P := Tryz.prog) 29 5 1 8 false _ Tryz.underlying29 Tryz.underlying5 rfl (by kernel_rfl) cs k i w
@[go_sem] theorem index_10 (cs : Array Value) (k : IntKind) (i : Int) (w : World) : (Instr.index 197 (.agg cs) (.int k i)).run Tryz.prog w = indexed Tryz.prog 197 8 8 true cs k i w := run_index_row (P := Tryz.prog) 197 24 8 8 true _ Tryz.underlying197 Tryz.underlying24 rfl (by kernel_rfl) cs k i w
/-- A composite literal, behind a name that the walk's own rules do not open. -/
def buildR (t : TypeId) (ps : Array (Nat × Value)) : Sem Value := Instr.build t ps
@[go_sem ↓] theorem toBuild_iSheet (ps : Array (Nat × Value)) : Instr.build 38 ps = buildR 38 ps := rfl
theorem built0_iSheet : Tryz.prog.built 38 [] = some (kc sk 266 fun _ => 0) := by kernel_rfl
theorem built2_iSheet (a b : Int) : Tryz.prog.built 38 [(0, .int .i8 a), (1, .int .i8 b)] = some (kc sk 266 fun j => if j = 0 then a else if j = 1 then b else 0) := by kernel_rfl
@[go_sem] theorem build0_iSheet (w : World) : (buildR 38 #[]).run Tryz.prog w = .ok (.agg (kc sk 266 fun _ => 0)) w := run_build w 38 #[] _ built0_iSheet
@[go_sem] theorem build2_iSheet (a b : Int) (w : World) : (buildR 38 #[(0, .int .i8 a), (1, .int .i8 b)]).run Tryz.prog w = .ok (.agg (kc sk 266 fun j => if j = 0 then a else if j = 1 then b else 0)) w := run_build w 38 _ _ (built2_iSheet a b)
end Go.Proofs.YtifhffnppgkjgaaGreatDoor
