/- The types of many cells of this program: their sizes, and the walk's rules for reading, writing and making them. -/
import Derived.Test.YtigiooollonmjaaProg
import Derived.Test.YtigiooollonmjaaMem
namespace Go.Proofs.Ytigiooollonmjaa

theorem size_i16A8 : (Try.prog.info? 33).map (·.size) = some 8 := by kernel_rfl
@[go_sem ↓] theorem toLoad_i16A8 (a : Addr) : loadVar 33 a = loadR 33 a := rfl
@[go_sem ↓] theorem toStore_i16A8 (a : Addr) (v : Value) : storeVar 33 a v = storeR 33 a v := rfl
@[go_sem] theorem load_i16A8 (w : World) (b o : Nat) : (loadR 33 ⟨b, o, none⟩).run Try.prog w = loaded Try.prog 33 8 w b o := run_load_rowA (P := Try.prog) 33 8 _ (by omega) Try.underlying33 rfl size_i16A8 w b o
@[go_sem] theorem store_i16A8 (w : World) (b o : Nat) (vs : Array Value) : (storeR 33 ⟨b, o, none⟩ (.agg vs)).run Try.prog w = storedRow Try.prog 33 8 w b o vs := run_store_rowA (P := Try.prog) 33 8 (by omega) size_i16A8 w b o vs
@[go_sem ↓] theorem zero_i16A8 (w : World) : (zeroValue 33).run Try.prog w = .ok (.agg (kc (fun _ => .i16) 8 fun _ => 0)) w := by kernel_rfl
theorem size_i16A8A8 : (Try.prog.info? 34).map (·.size) = some 64 := by kernel_rfl
@[go_sem ↓] theorem toLoad_i16A8A8 (a : Addr) : loadVar 34 a = loadR 34 a := rfl
@[go_sem ↓] theorem toStore_i16A8A8 (a : Addr) (v : Value) : storeVar 34 a v = storeR 34 a v := rfl
@[go_sem] theorem load_i16A8A8 (w : World) (b o : Nat) : (loadR 34 ⟨b, o, none⟩).run Try.prog w = loaded Try.prog 34 64 w b o := run_load_rowA (P := Try.prog) 34 64 _ (by omega) Try.underlying34 rfl size_i16A8A8 w b o
@[go_sem] theorem store_i16A8A8 (w : World) (b o : Nat) (vs : Array Value) : (storeR 34 ⟨b, o, none⟩ (.agg vs)).run Try.prog w = storedRow Try.prog 34 64 w b o vs := run_store_rowA (P := Try.prog) 34 64 (by omega) size_i16A8A8 w b o vs
@[go_sem ↓] theorem zero_i16A8A8 (w : World) : (zeroValue 34).run Try.prog w = .ok (.agg (kc (fun _ => .i16) 64 fun _ => 0)) w := by kernel_rfl
theorem size_i16A3A8 : (Try.prog.info? 35).map (·.size) = some 24 := by kernel_rfl
@[go_sem ↓] theorem toLoad_i16A3A8 (a : Addr) : loadVar 35 a = loadR 35 a := rfl
@[go_sem ↓] theorem toStore_i16A3A8 (a : Addr) (v : Value) : storeVar 35 a v = storeR 35 a v := rfl
@[go_sem] theorem load_i16A3A8 (w : World) (b o : Nat) : (loadR 35 ⟨b, o, none⟩).run Try.prog w = loaded Try.prog 35 24 w b o := run_load_rowA (P := Try.prog) 35 24 _ (by omega) Try.underlying35 rfl size_i16A3A8 w b o
@[go_sem] theorem store_i16A3A8 (w : World) (b o : Nat) (vs : Array Value) : (storeR 35 ⟨b, o, none⟩ (.agg vs)).run Try.prog w = storedRow Try.prog 35 24 w b o vs := run_store_rowA (P := Try.prog) 35 24 (by omega) size_i16A3A8 w b o vs
@[go_sem ↓] theorem zero_i16A3A8 (w : World) : (zeroValue 35).run Try.prog w = .ok (.agg (kc (fun _ => .i16) 24 fun _ => 0)) w := by kernel_rfl
theorem size_i16A3A8A8 : (Try.prog.info? 36).map (·.size) = some 192 := by kernel_rfl
@[go_sem ↓] theorem toLoad_i16A3A8A8 (a : Addr) : loadVar 36 a = loadR 36 a := rfl
@[go_sem ↓] theorem toStore_i16A3A8A8 (a : Addr) (v : Value) : storeVar 36 a v = storeR 36 a v := rfl
@[go_sem] theorem load_i16A3A8A8 (w : World) (b o : Nat) : (loadR 36 ⟨b, o, none⟩).run Try.prog w = loaded Try.prog 36 192 w b o := run_load_rowA (P := Try.prog) 36 192 _ (by omega) Try.underlying36 rfl size_i16A3A8A8 w b o
@[go_sem] theorem store_i16A3A8A8 (w : World) (b o : Nat) (vs : Array Value) : (storeR 36 ⟨b, o, none⟩ (.agg vs)).run Try.prog w = storedRow Try.prog 36 192 w b o vs := run_store_rowA (P := Try.prog) 36 192 (by omega) size_i16A3A8A8 w b o vs
@[go_sem ↓] theorem zero_i16A3A8A8 (w : World) : (zeroValue 36).run Try.prog w = .ok (.agg (kc (fun _ => .i16) 192 fun _ => 0)) w := by kernel_rfl
theorem size_u8A8 : (Try.prog.info? 37).map (·.size) = some 8 := by kernel_rfl
@[go_sem ↓] theorem toLoad_u8A8 (a : Addr) : loadVar 37 a = loadR 37 a := rfl
@[go_sem ↓] theorem toStore_u8A8 (a : Addr) (v : Value) : storeVar 37 a v = storeR 37 a v := rfl
@[go_sem] theorem load_u8A8 (w : World) (b o : Nat) : (loadR 37 ⟨b, o, none⟩).run Try.prog w = loaded Try.prog 37 8 w b o := run_load_rowA (P := Try.prog) 37 8 _ (by omega) Try.underlying37 rfl size_u8A8 w b o
@[go_sem] theorem store_u8A8 (w : World) (b o : Nat) (vs : Array Value) : (storeR 37 ⟨b, o, none⟩ (.agg vs)).run Try.prog w = storedRow Try.prog 37 8 w b o vs := run_store_rowA (P := Try.prog) 37 8 (by omega) size_u8A8 w b o vs
@[go_sem ↓] theorem zero_u8A8 (w : World) : (zeroValue 37).run Try.prog w = .ok (.agg (kc (fun _ => .u8) 8 fun _ => 0)) w := by kernel_rfl
theorem size_u8A8A8 : (Try.prog.info? 51).map (·.size) = some 64 := by kernel_rfl
@[go_sem ↓] theorem toLoad_u8A8A8 (a : Addr) : loadVar 51 a = loadR 51 a := rfl
@[go_sem ↓] theorem toStore_u8A8A8 (a : Addr) (v : Value) : storeVar 51 a v = storeR 51 a v := rfl
@[go_sem] theorem load_u8A8A8 (w : World) (b o : Nat) : (loadR 51 ⟨b, o, none⟩).run Try.prog w = loaded Try.prog 51 64 w b o := run_load_rowA (P := Try.prog) 51 64 _ (by omega) Try.underlying51 rfl size_u8A8A8 w b o
@[go_sem] theorem store_u8A8A8 (w : World) (b o : Nat) (vs : Array Value) : (storeR 51 ⟨b, o, none⟩ (.agg vs)).run Try.prog w = storedRow Try.prog 51 64 w b o vs := run_store_rowA (P := Try.prog) 51 64 (by omega) size_u8A8A8 w b o vs
@[go_sem ↓] theorem zero_u8A8A8 (w : World) : (zeroValue 51).run Try.prog w = .ok (.agg (kc (fun _ => .u8) 64 fun _ => 0)) w := by kernel_rfl
theorem size_u8A8A3 : (Try.prog.info? 50).map (·.size) = some 24 := by kernel_rfl
@[go_sem ↓] theorem toLoad_u8A8A3 (a : Addr) : loadVar 50 a = loadR 50 a := rfl
@[go_sem ↓] theorem toStore_u8A8A3 (a : Addr) (v : Value) : storeVar 50 a v = storeR 50 a v := rfl
@[go_sem] theorem load_u8A8A3 (w : World) (b o : Nat) : (loadR 50 ⟨b, o, none⟩).run Try.prog w = loaded Try.prog 50 24 w b o := run_load_rowA (P := Try.prog) 50 24 _ (by omega) Try.underlying50 rfl size_u8A8A3 w b o
@[go_sem] theorem store_u8A8A3 (w : World) (b o : Nat) (vs : Array Value) : (storeR 50 ⟨b, o, none⟩ (.agg vs)).run Try.prog w = storedRow Try.prog 50 24 w b o vs := run_store_rowA (P := Try.prog) 50 24 (by omega) size_u8A8A3 w b o vs
@[go_sem ↓] theorem zero_u8A8A3 (w : World) : (zeroValue 50).run Try.prog w = .ok (.agg (kc (fun _ => .u8) 24 fun _ => 0)) w := by kernel_rfl
theorem size_lSheet : (Try.prog.info? 39).map (·.size) = some 266 := by kernel_rfl
@[go_sem ↓] theorem toLoad_lSheet (a : Addr) : loadVar 39 a = loadR 39 a := rfl
@[go_sem ↓] theorem toStore_lSheet (a : Addr) (v : Value) : storeVar 39 a v = storeR 39 a v := rfl
@[go_sem] theorem load_lSheet (w : World) (b o : Nat) : (loadR 39 ⟨b, o, none⟩).run Try.prog w = loaded Try.prog 39 266 w b o := run_load_rowA (P := Try.prog) 39 266 _ (by omega) Try.underlying39 rfl size_lSheet w b o
@[go_sem] theorem store_lSheet (w : World) (b o : Nat) (vs : Array Value) : (storeR 39 ⟨b, o, none⟩ (.agg vs)).run Try.prog w = storedRow Try.prog 39 266 w b o vs := run_store_rowA (P := Try.prog) 39 266 (by omega) size_lSheet w b o vs
@[go_sem ↓] theorem zero_lSheet (w : World) : (zeroValue 39).run Try.prog w = .ok (.agg (kc sk 266 fun _ => 0)) w := by kernel_rfl
theorem size_iSheet : (Try.prog.info? 42).map (·.size) = some 266 := by kernel_rfl
@[go_sem ↓] theorem toLoad_iSheet (a : Addr) : loadVar 42 a = loadR 42 a := rfl
@[go_sem ↓] theorem toStore_iSheet (a : Addr) (v : Value) : storeVar 42 a v = storeR 42 a v := rfl
@[go_sem] theorem load_iSheet (w : World) (b o : Nat) : (loadR 42 ⟨b, o, none⟩).run Try.prog w = loaded Try.prog 42 266 w b o := run_load_rowA (P := Try.prog) 42 266 _ (by omega) Try.underlying42 rfl size_iSheet w b o
@[go_sem] theorem store_iSheet (w : World) (b o : Nat) (vs : Array Value) : (storeR 42 ⟨b, o, none⟩ (.agg vs)).run Try.prog w = storedRow Try.prog 42 266 w b o vs := run_store_rowA (P := Try.prog) 42 266 (by omega) size_iSheet w b o vs
@[go_sem ↓] theorem zero_iSheet (w : World) : (zeroValue 42).run Try.prog w = .ok (.agg (kc sk 266 fun _ => 0)) w := by kernel_rfl
theorem size_lPicture : (Try.prog.info? 65).map (·.size) = some 66 := by kernel_rfl
@[go_sem ↓] theorem toLoad_lPicture (a : Addr) : loadVar 65 a = loadR 65 a := rfl
@[go_sem ↓] theorem toStore_lPicture (a : Addr) (v : Value) : storeVar 65 a v = storeR 65 a v := rfl
@[go_sem] theorem load_lPicture (w : World) (b o : Nat) : (loadR 65 ⟨b, o, none⟩).run Try.prog w = loaded Try.prog 65 66 w b o := run_load_rowA (P := Try.prog) 65 66 _ (by omega) Try.underlying65 rfl size_lPicture w b o
@[go_sem] theorem store_lPicture (w : World) (b o : Nat) (vs : Array Value) : (storeR 65 ⟨b, o, none⟩ (.agg vs)).run Try.prog w = storedRow Try.prog 65 66 w b o vs := run_store_rowA (P := Try.prog) 65 66 (by omega) size_lPicture w b o vs
@[go_sem ↓] theorem zero_lPicture (w : World) : (zeroValue 65).run Try.prog w = .ok (.agg (kc pk 66 fun _ => 0)) w := by kernel_rfl
theorem size_iPicture : (Try.prog.info? 53).map (·.size) = some 66 := by kernel_rfl
@[go_sem ↓] theorem toLoad_iPicture (a : Addr) : loadVar 53 a = loadR 53 a := rfl
@[go_sem ↓] theorem toStore_iPicture (a : Addr) (v : Value) : storeVar 53 a v = storeR 53 a v := rfl
@[go_sem] theorem load_iPicture (w : World) (b o : Nat) : (loadR 53 ⟨b, o, none⟩).run Try.prog w = loaded Try.prog 53 66 w b o := run_load_rowA (P := Try.prog) 53 66 _ (by omega) Try.underlying53 rfl size_iPicture w b o
@[go_sem] theorem store_iPicture (w : World) (b o : Nat) (vs : Array Value) : (storeR 53 ⟨b, o, none⟩ (.agg vs)).run Try.prog w = storedRow Try.prog 53 66 w b o vs := run_store_rowA (P := Try.prog) 53 66 (by omega) size_iPicture w b o vs
@[go_sem ↓] theorem zero_iPicture (w : World) : (zeroValue 53).run Try.prog w = .ok (.agg (kc pk 66 fun _ => 0)) w := by kernel_rfl
theorem size_iRings : (Try.prog.info? 180).map (·.size) = some 64 := by kernel_rfl
@[go_sem ↓] theorem toLoad_iRings (a : Addr) : loadVar 180 a = loadR 180 a := rfl
@[go_sem ↓] theorem toStore_iRings (a : Addr) (v : Value) : storeVar 180 a v = storeR 180 a v := rfl
@[go_sem] theorem load_iRings (w : World) (b o : Nat) : (loadR 180 ⟨b, o, none⟩).run Try.prog w = loaded Try.prog 180 64 w b o := run_load_rowA (P := Try.prog) 180 64 _ (by omega) Try.underlying180 rfl size_iRings w b o
@[go_sem] theorem store_iRings (w : World) (b o : Nat) (vs : Array Value) : (storeR 180 ⟨b, o, none⟩ (.agg vs)).run Try.prog w = storedRow Try.prog 180 64 w b o vs := run_store_rowA (P := Try.prog) 180 64 (by omega) size_iRings w b o vs
@[go_sem ↓] theorem zero_iRings (w : World) : (zeroValue 180).run Try.prog w = .ok (.agg (kc (fun _ => .i16) 64 fun _ => 0)) w := by kernel_rfl
@[go_sem] theorem index_0 (cs : Array Value) (k : IntKind) (i : Int) (w : World) : (Instr.index 23 (.agg cs) (.int k i)).run Try.prog w = indexed Try.prog 23 1 3 false cs k i w := run_index_row (P := Try.prog) 23 22 1 3 false _ Try.underlying23 Try.underlying22 rfl (by kernel_rfl) cs k i w
@[go_sem] theorem index_1 (cs : Array Value) (k : IntKind) (i : Int) (w : World) : (Instr.index 33 (.agg cs) (.int k i)).run Try.prog w = indexed Try.prog 33 1 8 false cs k i w := run_index_row (P := Try.prog) 33 22 1 8 false _ Try.underlying33 Try.underlying22 rfl (by kernel_rfl) cs k i w
@[go_sem] theorem index_2 (cs : Array Value) (k : IntKind) (i : Int) (w : World) : (Instr.index 34 (.agg cs) (.int k i)).run Try.prog w = indexed Try.prog 34 8 8 true cs k i w := run_index_row (P := Try.prog) 34 33 8 8 true _ Try.underlying34 Try.underlying33 rfl (by kernel_rfl) cs k i w
@[go_sem] theorem index_3 (cs : Array Value) (k : IntKind) (i : Int) (w : World) : (Instr.index 35 (.agg cs) (.int k i)).run Try.prog w = indexed Try.prog 35 3 8 true cs k i w := run_index_row (P := Try.prog) 35 23 3 8 true _ Try.underlying35 Try.underlying23 rfl (by kernel_rfl) cs k i w
@[go_sem] theorem index_4 (cs : Array Value) (k : IntKind) (i : Int) (w : World) : (Instr.index 36 (.agg cs) (.int k i)).run Try.prog w = indexed Try.prog 36 24 8 true cs k i w := run_index_row (P := Try.prog) 36 35 24 8 true _ Try.underlying36 Try.underlying35 rfl (by kernel_rfl) cs k i w
@[go_sem] theorem index_5 (cs : Array Value) (k : IntKind) (i : Int) (w : World) : (Instr.index 37 (.agg cs) (.int k i)).run Try.prog w = indexed Try.prog 37 1 8 false cs k i w := run_index_row (P := Try.prog) 37 5 1 8 false _ Try.underlying37 Try.underlying5 rfl (by kernel_rfl) cs k i w
@[go_sem] theorem index_6 (cs : Array Value) (k : IntKind) (i : Int) (w : World) : (Instr.index 51 (.agg cs) (.int k i)).run Try.prog w = indexed Try.prog 51 8 8 true cs k i w := run_index_row (P := Try.prog) 51 37 8 8 true _ Try.underlying51 Try.underlying37 rfl (by kernel_rfl) cs k i w
@[go_sem] theorem index_7 (cs : Array Value) (k : IntKind) (i : Int) (w : World) : (Instr.index 59 (.agg cs) (.int k i)).run Try.prog w = indexed Try.prog 59 1 3 false cs k i w := run_index_row (P := Try.prog) 59 2 1 3 false _ Try.underlying59 Try.underlying2 rfl (by kernel_rfl) cs k i w
@[go_sem] theorem index_8 (cs : Array Value) (k : IntKind) (i : Int) (w : World) : (Instr.index 50 (.agg cs) (.int k i)).run Try.prog w = indexed Try.prog 50 8 3 true cs k i w := run_index_row (P := Try.prog) 50 37 8 3 true _ Try.underlying50 Try.underlying37 rfl (by kernel_rfl) cs k i w
@[go_sem] theorem index_10 (cs : Array Value) (k : IntKind) (i : Int) (w : World) : (Instr.index 180 (.agg cs) (.int k i)).run Try.prog w = indexed Try.prog 180 8 8 true cs k i w := run_index_row (P := Try.prog) 180 33 8 8 true _ Try.underlying180 Try.underlying33 rfl (by kernel_rfl) cs k i w
/-- A composite literal, behind a name that the walk's own rules do not open. -/
def buildR (t : TypeId) (ps : Array (Nat × Value)) : Sem Value := Instr.build t ps
@[go_sem ↓] theorem toBuild_iSheet (ps : Array (Nat × Value)) : Instr.build 42 ps = buildR 42 ps := rfl
theorem built0_iSheet : Try.prog.built 42 [] = some (kc sk 266 fun _ => 0) := by kernel_rfl
theorem built2_iSheet (a b : Int) : Try.prog.built 42 [(0, .int .i8 a), (1, .int .i8 b)] = some (kc sk 266 fun j => if j = 0 then a else if j = 1 then b else 0) := by kernel_rfl
@[go_sem] theorem build0_iSheet (w : World) : (buildR 42 #[]).run Try.prog w = .ok (.agg (kc sk 266 fun _ => 0)) w := run_build w 42 #[] _ built0_iSheet
@[go_sem] theorem build2_iSheet (a b : Int) (w : World) : (buildR 42 #[(0, .int .i8 a), (1, .int .i8 b)]).run Try.prog w = .ok (.agg (kc sk 266 fun j => if j = 0 then a else if j = 1 then b else 0)) w := run_build w 42 _ _ (built2_iSheet a b)
@[go_sem ↓] theorem toBuild_iPicture (ps : Array (Nat × Value)) : Instr.build 53 ps = buildR 53 ps := rfl
theorem built0_iPicture : Try.prog.built 53 [] = some (kc pk 66 fun _ => 0) := by kernel_rfl
theorem built2_iPicture (a b : Int) : Try.prog.built 53 [(0, .int .i8 a), (1, .int .i8 b)] = some (kc pk 66 fun j => if j = 0 then a else if j = 1 then b else 0) := by kernel_rfl
@[go_sem] theorem build0_iPicture (w : World) : (buildR 53 #[]).run Try.prog w = .ok (.agg (kc pk 66 fun _ => 0)) w := run_build w 53 #[] _ built0_iPicture
@[go_sem] theorem build2_iPicture (a b : Int) (w : World) : (buildR 53 #[(0, .int .i8 a), (1, .int .i8 b)]).run Try.prog w = .ok (.agg (kc pk 66 fun j => if j = 0 then a else if j = 1 then b else 0)) w := run_build w 53 _ _ (built2_iPicture a b)
end Go.Proofs.Ytigiooollonmjaa
