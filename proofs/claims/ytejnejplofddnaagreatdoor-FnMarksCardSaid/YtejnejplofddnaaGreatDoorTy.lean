/- The types of many cells of this program: their sizes, and the walk's rules for reading, writing and making them. -/
import Derived.Test.YtejnejplofddnaaGreatDoorProg
import Derived.Test.YtejnejplofddnaaGreatDoorMem
namespace Go.Proofs.YtejnejplofddnaaGreatDoor

theorem size_i16A8 : (Tryz.prog.info? 26).map (·.size) = some 8 := by kernel_rfl
@[go_sem ↓] theorem toLoad_i16A8 (a : Addr) : loadVar 26 a = loadR 26 a := rfl
@[go_sem ↓] theorem toStore_i16A8 (a : Addr) (v : Value) : storeVar 26 a v = storeR 26 a v := rfl
@[go_sem] theorem load_i16A8 (w : World) (b o : Nat) : (loadR 26 ⟨b, o, none⟩).run Tryz.prog w = loaded Tryz.prog 26 8 w b o := run_load_rowA (P := Tryz.prog) 26 8 _ (by omega) Tryz.underlying26 rfl size_i16A8 w b o
@[go_sem] theorem store_i16A8 (w : World) (b o : Nat) (vs : Array Value) : (storeR 26 ⟨b, o, none⟩ (.agg vs)).run Tryz.prog w = storedRow Tryz.prog 26 8 w b o vs := run_store_rowA (P := Tryz.prog) 26 8 (by omega) size_i16A8 w b o vs
@[go_sem ↓] theorem zero_i16A8 (w : World) : (zeroValue 26).run Tryz.prog w = .ok (.agg (kc (fun _ => .i16) 8 fun _ => 0)) w := by kernel_rfl
theorem size_i16A8A8 : (Tryz.prog.info? 27).map (·.size) = some 64 := by kernel_rfl
@[go_sem ↓] theorem toLoad_i16A8A8 (a : Addr) : loadVar 27 a = loadR 27 a := rfl
@[go_sem ↓] theorem toStore_i16A8A8 (a : Addr) (v : Value) : storeVar 27 a v = storeR 27 a v := rfl
@[go_sem] theorem load_i16A8A8 (w : World) (b o : Nat) : (loadR 27 ⟨b, o, none⟩).run Tryz.prog w = loaded Tryz.prog 27 64 w b o := run_load_rowA (P := Tryz.prog) 27 64 _ (by omega) Tryz.underlying27 rfl size_i16A8A8 w b o
@[go_sem] theorem store_i16A8A8 (w : World) (b o : Nat) (vs : Array Value) : (storeR 27 ⟨b, o, none⟩ (.agg vs)).run Tryz.prog w = storedRow Tryz.prog 27 64 w b o vs := run_store_rowA (P := Tryz.prog) 27 64 (by omega) size_i16A8A8 w b o vs
@[go_sem ↓] theorem zero_i16A8A8 (w : World) : (zeroValue 27).run Tryz.prog w = .ok (.agg (kc (fun _ => .i16) 64 fun _ => 0)) w := by kernel_rfl
theorem size_i16A3A8 : (Tryz.prog.info? 29).map (·.size) = some 24 := by kernel_rfl
@[go_sem ↓] theorem toLoad_i16A3A8 (a : Addr) : loadVar 29 a = loadR 29 a := rfl
@[go_sem ↓] theorem toStore_i16A3A8 (a : Addr) (v : Value) : storeVar 29 a v = storeR 29 a v := rfl
@[go_sem] theorem load_i16A3A8 (w : World) (b o : Nat) : (loadR 29 ⟨b, o, none⟩).run Tryz.prog w = loaded Tryz.prog 29 24 w b o := run_load_rowA (P := Tryz.prog) 29 24 _ (by omega) Tryz.underlying29 rfl size_i16A3A8 w b o
@[go_sem] theorem store_i16A3A8 (w : World) (b o : Nat) (vs : Array Value) : (storeR 29 ⟨b, o, none⟩ (.agg vs)).run Tryz.prog w = storedRow Tryz.prog 29 24 w b o vs := run_store_rowA (P := Tryz.prog) 29 24 (by omega) size_i16A3A8 w b o vs
@[go_sem ↓] theorem zero_i16A3A8 (w : World) : (zeroValue 29).run Tryz.prog w = .ok (.agg (kc (fun _ => .i16) 24 fun _ => 0)) w := by kernel_rfl
theorem size_i16A3A8A8 : (Tryz.prog.info? 30).map (·.size) = some 192 := by kernel_rfl
@[go_sem ↓] theorem toLoad_i16A3A8A8 (a : Addr) : loadVar 30 a = loadR 30 a := rfl
@[go_sem ↓] theorem toStore_i16A3A8A8 (a : Addr) (v : Value) : storeVar 30 a v = storeR 30 a v := rfl
@[go_sem] theorem load_i16A3A8A8 (w : World) (b o : Nat) : (loadR 30 ⟨b, o, none⟩).run Tryz.prog w = loaded Tryz.prog 30 192 w b o := run_load_rowA (P := Tryz.prog) 30 192 _ (by omega) Tryz.underlying30 rfl size_i16A3A8A8 w b o
@[go_sem] theorem store_i16A3A8A8 (w : World) (b o : Nat) (vs : Array Value) : (storeR 30 ⟨b, o, none⟩ (.agg vs)).run Tryz.prog w = storedRow Tryz.prog 30 192 w b o vs := run_store_rowA (P := Tryz.prog) 30 192 (by omega) size_i16A3A8A8 w b o vs
@[go_sem ↓] theorem zero_i16A3A8A8 (w : World) : (zeroValue 30).run Tryz.prog w = .ok (.agg (kc (fun _ => .i16) 192 fun _ => 0)) w := by kernel_rfl
theorem size_u8A8 : (Tryz.prog.info? 31).map (·.size) = some 8 := by kernel_rfl
@[go_sem ↓] theorem toLoad_u8A8 (a : Addr) : loadVar 31 a = loadR 31 a := rfl
@[go_sem ↓] theorem toStore_u8A8 (a : Addr) (v : Value) : storeVar 31 a v = storeR 31 a v := rfl
@[go_sem] theorem load_u8A8 (w : World) (b o : Nat) : (loadR 31 ⟨b, o, none⟩).run Tryz.prog w = loaded Tryz.prog 31 8 w b o := run_load_rowA (P := Tryz.prog) 31 8 _ (by omega) Tryz.underlying31 rfl size_u8A8 w b o
@[go_sem] theorem store_u8A8 (w : World) (b o : Nat) (vs : Array Value) : (storeR 31 ⟨b, o, none⟩ (.agg vs)).run Tryz.prog w = storedRow Tryz.prog 31 8 w b o vs := run_store_rowA (P := Tryz.prog) 31 8 (by omega) size_u8A8 w b o vs
@[go_sem ↓] theorem zero_u8A8 (w : World) : (zeroValue 31).run Tryz.prog w = .ok (.agg (kc (fun _ => .u8) 8 fun _ => 0)) w := by kernel_rfl
theorem size_lSheet : (Tryz.prog.info? 62).map (·.size) = some 266 := by kernel_rfl
@[go_sem ↓] theorem toLoad_lSheet (a : Addr) : loadVar 62 a = loadR 62 a := rfl
@[go_sem ↓] theorem toStore_lSheet (a : Addr) (v : Value) : storeVar 62 a v = storeR 62 a v := rfl
@[go_sem] theorem load_lSheet (w : World) (b o : Nat) : (loadR 62 ⟨b, o, none⟩).run Tryz.prog w = loaded Tryz.prog 62 266 w b o := run_load_rowA (P := Tryz.prog) 62 266 _ (by omega) Tryz.underlying62 rfl size_lSheet w b o
@[go_sem] theorem store_lSheet (w : World) (b o : Nat) (vs : Array Value) : (storeR 62 ⟨b, o, none⟩ (.agg vs)).run Tryz.prog w = storedRow Tryz.prog 62 266 w b o vs := run_store_rowA (P := Tryz.prog) 62 266 (by omega) size_lSheet w b o vs
@[go_sem ↓] theorem zero_lSheet (w : World) : (zeroValue 62).run Tryz.prog w = .ok (.agg (kc sk 266 fun _ => 0)) w := by kernel_rfl
theorem size_iSheet : (Tryz.prog.info? 33).map (·.size) = some 266 := by kernel_rfl
@[go_sem ↓] theorem toLoad_iSheet (a : Addr) : loadVar 33 a = loadR 33 a := rfl
@[go_sem ↓] theorem toStore_iSheet (a : Addr) (v : Value) : storeVar 33 a v = storeR 33 a v := rfl
@[go_sem] theorem load_iSheet (w : World) (b o : Nat) : (loadR 33 ⟨b, o, none⟩).run Tryz.prog w = loaded Tryz.prog 33 266 w b o := run_load_rowA (P := Tryz.prog) 33 266 _ (by omega) Tryz.underlying33 rfl size_iSheet w b o
@[go_sem] theorem store_iSheet (w : World) (b o : Nat) (vs : Array Value) : (storeR 33 ⟨b, o, none⟩ (.agg vs)).run Tryz.prog w = storedRow Tryz.prog 33 266 w b o vs := run_store_rowA (P := Tryz.prog) 33 266 (by omega) size_iSheet w b o vs
@[go_sem ↓] theorem zero_iSheet (w : World) : (zeroValue 33).run Tryz.prog w = .ok (.agg (kc sk 266 fun _ => 0)) w := by kernel_rfl
theorem size_iRings : (Tryz.prog.info? 265).map (·.size) = some 64 := by kernel_rfl
@[go_sem ↓] theorem toLoad_iRings (a : Addr) : loadVar 265 a = loadR 265 a := rfl
@[go_sem ↓] theorem toStore_iRings (a : Addr) (v : Value) : storeVar 265 a v = storeR 265 a v := rfl
@[go_sem] theorem load_iRings (w : World) (b o : Nat) : (loadR 265 ⟨b, o, none⟩).run Tryz.prog w = loaded Tryz.prog 265 64 w b o := run_load_rowA (P := Tryz.prog) 265 64 _ (by omega) Tryz.underlying265 rfl size_iRings w b o
@[go_sem] theorem store_iRings (w : World) (b o : Nat) (vs : Array Value) : (storeR 265 ⟨b, o, none⟩ (.agg vs)).run Tryz.prog w = storedRow Tryz.prog 265 64 w b o vs := run_store_rowA (P := Tryz.prog) 265 64 (by omega) size_iRings w b o vs
@[go_sem ↓] theorem zero_iRings (w : World) : (zeroValue 265).run Tryz.prog w = .ok (.agg (kc (fun _ => .i16) 64 fun _ => 0)) w := by kernel_rfl
@[go_sem] theorem index_0 (cs : Array Value) (k : IntKind) (i : Int) (w : World) : (Instr.index 28 (.agg cs) (.int k i)).run Tryz.prog w = indexed Tryz.prog 28 1 3 false cs k i w := run_index_row (P := Tryz.prog) 28 25 1 3 false _ Tryz.underlying28 Tryz.underlying25 rfl (by kernel_rfl) cs k i w
@[go_sem] theorem index_1 (cs : Array Value) (k : IntKind) (i : Int) (w : World) : (Instr.index 26 (.agg cs) (.int k i)).run Tryz.prog w = indexed Tryz.prog 26 1 8 false cs k i w := run_index_row (P := Tryz.prog) 26 25 1 8 false _ Tryz.underlying26 Tryz.underlying25 rfl (by kernel_rfl) cs k i w
@[go_sem] theorem index_2 (cs : Array Value) (k : IntKind) (i : Int) (w : World) : (Instr.index 27 (.agg cs) (.int k i)).run Tryz.prog w = indexed Tryz.prog 27 8 8 true cs k i w := run_index_row (P := Tryz.prog) 27 26 8 8 true _ Tryz.underlying27 Tryz.underlying26 rfl (by kernel_rfl) cs k i w
@[go_sem] theorem index_3 (cs : Array Value) (k : IntKind) (i : Int) (w : World) : (Instr.index 29 (.agg cs) (.int k i)).run Tryz.prog w = indexed Tryz.prog 29 3 8 true cs k i w := run_index_row (P := Tryz.prog) 29 28 3 8 true _ Tryz.underlying29 Tryz.underlying28 rfl (by kernel_rfl) cs k i w
@[go_sem] theorem index_4 (cs : Array Value) (k : IntKind) (i : Int) (w : World) : (Instr.index 30 (.agg cs) (.int k i)).run Tryz.prog w = indexed Tryz.prog 30 24 8 true cs k i w := run_index_row (P := Tryz.prog) 30 29 24 8 true _ Tryz.underlying30 Tryz.underlying29 rfl (by kernel_rfl) cs k i w
@[go_sem] theorem index_5 (cs : Array Value) (k : IntKind) (i : Int) (w : World) : (Instr.index 31 (.agg cs) (.int k i)).run Tryz.prog w = indexed Tryz.prog 31 1 8 false cs k i w := run_index_row (P := Tryz.prog) 31 5 1 8 false _ Tryz.underlying31 Tryz.underlying5 rfl (by kernel_rfl) cs k i w
@[go_sem] theorem index_10 (cs : Array Value) (k : IntKind) (i : Int) (w : World) : (Instr.index 265 (.agg cs) (.int k i)).run Tryz.prog w = indexed Tryz.prog 265 8 8 true cs k i w := run_index_row (P := Tryz.prog) 265 26 8 8 true _ Tryz.underlying265 Tryz.underlying26 rfl (by kernel_rfl) cs k i w
/-- A composite literal, behind a name that the walk's own rules do not open. -/
def buildR (t : TypeId) (ps : Array (Nat × Value)) : Sem Value := Instr.build t ps
@[go_sem ↓] theorem toBuild_iSheet (ps : Array (Nat × Value)) : Instr.build 33 ps = buildR 33 ps := rfl
theorem built0_iSheet : Tryz.prog.built 33 [] = some (kc sk 266 fun _ => 0) := by kernel_rfl
theorem built2_iSheet (a b : Int) : Tryz.prog.built 33 [(0, .int .i8 a), (1, .int .i8 b)] = some (kc sk 266 fun j => if j = 0 then a else if j = 1 then b else 0) := by kernel_rfl
@[go_sem] theorem build0_iSheet (w : World) : (buildR 33 #[]).run Tryz.prog w = .ok (.agg (kc sk 266 fun _ => 0)) w := run_build w 33 #[] _ built0_iSheet
@[go_sem] theorem build2_iSheet (a b : Int) (w : World) : (buildR 33 #[(0, .int .i8 a), (1, .int .i8 b)]).run Tryz.prog w = .ok (.agg (kc sk 266 fun j => if j = 0 then a else if j = 1 then b else 0)) w := run_build w 33 _ _ (built2_iSheet a b)
end Go.Proofs.YtejnejplofddnaaGreatDoor
