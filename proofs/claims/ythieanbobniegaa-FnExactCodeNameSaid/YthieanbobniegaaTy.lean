/- The types of many cells of this program: their sizes, and the walk's rules for reading, writing and making them. -/
import Derived.Test.YthieanbobniegaaProg
import Derived.Test.YthieanbobniegaaMem
namespace Go.Proofs.Ythieanbobniegaa

theorem size_i16A8 : (Try.prog.info? 46).map (·.size) = some 8 := by kernel_rfl
@[go_sem ↓] theorem toLoad_i16A8 (a : Addr) : loadVar 46 a = loadR 46 a := rfl
@[go_sem ↓] theorem toStore_i16A8 (a : Addr) (v : Value) : storeVar 46 a v = storeR 46 a v := rfl
@[go_sem] theorem load_i16A8 (w : World) (b o : Nat) : (loadR 46 ⟨b, o, none⟩).run Try.prog w = loaded Try.prog 46 8 w b o := run_load_rowA (P := Try.prog) 46 8 _ (by omega) Try.underlying46 rfl size_i16A8 w b o
@[go_sem] theorem store_i16A8 (w : World) (b o : Nat) (vs : Array Value) : (storeR 46 ⟨b, o, none⟩ (.agg vs)).run Try.prog w = storedRow Try.prog 46 8 w b o vs := run_store_rowA (P := Try.prog) 46 8 (by omega) size_i16A8 w b o vs
@[go_sem ↓] theorem zero_i16A8 (w : World) : (zeroValue 46).run Try.prog w = .ok (.agg (kc (fun _ => .i16) 8 fun _ => 0)) w := by kernel_rfl
theorem size_i16A8A8 : (Try.prog.info? 47).map (·.size) = some 64 := by kernel_rfl
@[go_sem ↓] theorem toLoad_i16A8A8 (a : Addr) : loadVar 47 a = loadR 47 a := rfl
@[go_sem ↓] theorem toStore_i16A8A8 (a : Addr) (v : Value) : storeVar 47 a v = storeR 47 a v := rfl
@[go_sem] theorem load_i16A8A8 (w : World) (b o : Nat) : (loadR 47 ⟨b, o, none⟩).run Try.prog w = loaded Try.prog 47 64 w b o := run_load_rowA (P := Try.prog) 47 64 _ (by omega) Try.underlying47 rfl size_i16A8A8 w b o
@[go_sem] theorem store_i16A8A8 (w : World) (b o : Nat) (vs : Array Value) : (storeR 47 ⟨b, o, none⟩ (.agg vs)).run Try.prog w = storedRow Try.prog 47 64 w b o vs := run_store_rowA (P := Try.prog) 47 64 (by omega) size_i16A8A8 w b o vs
@[go_sem ↓] theorem zero_i16A8A8 (w : World) : (zeroValue 47).run Try.prog w = .ok (.agg (kc (fun _ => .i16) 64 fun _ => 0)) w := by kernel_rfl
theorem size_i16A3A8 : (Try.prog.info? 48).map (·.size) = some 24 := by kernel_rfl
@[go_sem ↓] theorem toLoad_i16A3A8 (a : Addr) : loadVar 48 a = loadR 48 a := rfl
@[go_sem ↓] theorem toStore_i16A3A8 (a : Addr) (v : Value) : storeVar 48 a v = storeR 48 a v := rfl
@[go_sem] theorem load_i16A3A8 (w : World) (b o : Nat) : (loadR 48 ⟨b, o, none⟩).run Try.prog w = loaded Try.prog 48 24 w b o := run_load_rowA (P := Try.prog) 48 24 _ (by omega) Try.underlying48 rfl size_i16A3A8 w b o
@[go_sem] theorem store_i16A3A8 (w : World) (b o : Nat) (vs : Array Value) : (storeR 48 ⟨b, o, none⟩ (.agg vs)).run Try.prog w = storedRow Try.prog 48 24 w b o vs := run_store_rowA (P := Try.prog) 48 24 (by omega) size_i16A3A8 w b o vs
@[go_sem ↓] theorem zero_i16A3A8 (w : World) : (zeroValue 48).run Try.prog w = .ok (.agg (kc (fun _ => .i16) 24 fun _ => 0)) w := by kernel_rfl
theorem size_i16A3A8A8 : (Try.prog.info? 49).map (·.size) = some 192 := by kernel_rfl
@[go_sem ↓] theorem toLoad_i16A3A8A8 (a : Addr) : loadVar 49 a = loadR 49 a := rfl
@[go_sem ↓] theorem toStore_i16A3A8A8 (a : Addr) (v : Value) : storeVar 49 a v = storeR 49 a v := rfl
@[go_sem] theorem load_i16A3A8A8 (w : World) (b o : Nat) : (loadR 49 ⟨b, o, none⟩).run Try.prog w = loaded Try.prog 49 192 w b o := run_load_rowA (P := Try.prog) 49 192 _ (by omega) Try.underlying49 rfl size_i16A3A8A8 w b o
@[go_sem] theorem store_i16A3A8A8 (w : World) (b o : Nat) (vs : Array Value) : (storeR 49 ⟨b, o, none⟩ (.agg vs)).run Try.prog w = storedRow Try.prog 49 192 w b o vs := run_store_rowA (P := Try.prog) 49 192 (by omega) size_i16A3A8A8 w b o vs
@[go_sem ↓] theorem zero_i16A3A8A8 (w : World) : (zeroValue 49).run Try.prog w = .ok (.agg (kc (fun _ => .i16) 192 fun _ => 0)) w := by kernel_rfl
theorem size_u8A8 : (Try.prog.info? 34).map (·.size) = some 8 := by kernel_rfl
@[go_sem ↓] theorem toLoad_u8A8 (a : Addr) : loadVar 34 a = loadR 34 a := rfl
@[go_sem ↓] theorem toStore_u8A8 (a : Addr) (v : Value) : storeVar 34 a v = storeR 34 a v := rfl
@[go_sem] theorem load_u8A8 (w : World) (b o : Nat) : (loadR 34 ⟨b, o, none⟩).run Try.prog w = loaded Try.prog 34 8 w b o := run_load_rowA (P := Try.prog) 34 8 _ (by omega) Try.underlying34 rfl size_u8A8 w b o
@[go_sem] theorem store_u8A8 (w : World) (b o : Nat) (vs : Array Value) : (storeR 34 ⟨b, o, none⟩ (.agg vs)).run Try.prog w = storedRow Try.prog 34 8 w b o vs := run_store_rowA (P := Try.prog) 34 8 (by omega) size_u8A8 w b o vs
@[go_sem ↓] theorem zero_u8A8 (w : World) : (zeroValue 34).run Try.prog w = .ok (.agg (kc (fun _ => .u8) 8 fun _ => 0)) w := by kernel_rfl
theorem size_u8A8A8 : (Try.prog.info? 35).map (·.size) = some 64 := by kernel_rfl
@[go_sem ↓] theorem toLoad_u8A8A8 (a : Addr) : loadVar 35 a = loadR 35 a := rfl
@[go_sem ↓] theorem toStore_u8A8A8 (a : Addr) (v : Value) : storeVar 35 a v = storeR 35 a v := rfl
@[go_sem] theorem load_u8A8A8 (w : World) (b o : Nat) : (loadR 35 ⟨b, o, none⟩).run Try.prog w = loaded Try.prog 35 64 w b o := run_load_rowA (P := Try.prog) 35 64 _ (by omega) Try.underlying35 rfl size_u8A8A8 w b o
@[go_sem] theorem store_u8A8A8 (w : World) (b o : Nat) (vs : Array Value) : (storeR 35 ⟨b, o, none⟩ (.agg vs)).run Try.prog w = storedRow Try.prog 35 64 w b o vs := run_store_rowA (P := Try.prog) 35 64 (by omega) size_u8A8A8 w b o vs
@[go_sem ↓] theorem zero_u8A8A8 (w : World) : (zeroValue 35).run Try.prog w = .ok (.agg (kc (fun _ => .u8) 64 fun _ => 0)) w := by kernel_rfl
theorem size_lSheet : (Try.prog.info? 51).map (·.size) = some 266 := by kernel_rfl
@[go_sem ↓] theorem toLoad_lSheet (a : Addr) : loadVar 51 a = loadR 51 a := rfl
@[go_sem ↓] theorem toStore_lSheet (a : Addr) (v : Value) : storeVar 51 a v = storeR 51 a v := rfl
@[go_sem] theorem load_lSheet (w : World) (b o : Nat) : (loadR 51 ⟨b, o, none⟩).run Try.prog w = loaded Try.prog 51 266 w b o := run_load_rowA (P := Try.prog) 51 266 _ (by omega) Try.underlying51 rfl size_lSheet w b o
@[go_sem] theorem store_lSheet (w : World) (b o : Nat) (vs : Array Value) : (storeR 51 ⟨b, o, none⟩ (.agg vs)).run Try.prog w = storedRow Try.prog 51 266 w b o vs := run_store_rowA (P := Try.prog) 51 266 (by omega) size_lSheet w b o vs
@[go_sem ↓] theorem zero_lSheet (w : World) : (zeroValue 51).run Try.prog w = .ok (.agg (kc sk 266 fun _ => 0)) w := by kernel_rfl
theorem size_iSheet : (Try.prog.info? 53).map (·.size) = some 266 := by kernel_rfl
@[go_sem ↓] theorem toLoad_iSheet (a : Addr) : loadVar 53 a = loadR 53 a := rfl
@[go_sem ↓] theorem toStore_iSheet (a : Addr) (v : Value) : storeVar 53 a v = storeR 53 a v := rfl
@[go_sem] theorem load_iSheet (w : World) (b o : Nat) : (loadR 53 ⟨b, o, none⟩).run Try.prog w = loaded Try.prog 53 266 w b o := run_load_rowA (P := Try.prog) 53 266 _ (by omega) Try.underlying53 rfl size_iSheet w b o
@[go_sem] theorem store_iSheet (w : World) (b o : Nat) (vs : Array Value) : (storeR 53 ⟨b, o, none⟩ (.agg vs)).run Try.prog w = storedRow Try.prog 53 266 w b o vs := run_store_rowA (P := Try.prog) 53 266 (by omega) size_iSheet w b o vs
@[go_sem ↓] theorem zero_iSheet (w : World) : (zeroValue 53).run Try.prog w = .ok (.agg (kc sk 266 fun _ => 0)) w := by kernel_rfl
theorem size_lPicture : (Try.prog.info? 37).map (·.size) = some 66 := by kernel_rfl
@[go_sem ↓] theorem toLoad_lPicture (a : Addr) : loadVar 37 a = loadR 37 a := rfl
@[go_sem ↓] theorem toStore_lPicture (a : Addr) (v : Value) : storeVar 37 a v = storeR 37 a v := rfl
@[go_sem] theorem load_lPicture (w : World) (b o : Nat) : (loadR 37 ⟨b, o, none⟩).run Try.prog w = loaded Try.prog 37 66 w b o := run_load_rowA (P := Try.prog) 37 66 _ (by omega) Try.underlying37 rfl size_lPicture w b o
@[go_sem] theorem store_lPicture (w : World) (b o : Nat) (vs : Array Value) : (storeR 37 ⟨b, o, none⟩ (.agg vs)).run Try.prog w = storedRow Try.prog 37 66 w b o vs := run_store_rowA (P := Try.prog) 37 66 (by omega) size_lPicture w b o vs
@[go_sem ↓] theorem zero_lPicture (w : World) : (zeroValue 37).run Try.prog w = .ok (.agg (kc pk 66 fun _ => 0)) w := by kernel_rfl
theorem size_iPicture : (Try.prog.info? 39).map (·.size) = some 66 := by kernel_rfl
@[go_sem ↓] theorem toLoad_iPicture (a : Addr) : loadVar 39 a = loadR 39 a := rfl
@[go_sem ↓] theorem toStore_iPicture (a : Addr) (v : Value) : storeVar 39 a v = storeR 39 a v := rfl
@[go_sem] theorem load_iPicture (w : World) (b o : Nat) : (loadR 39 ⟨b, o, none⟩).run Try.prog w = loaded Try.prog 39 66 w b o := run_load_rowA (P := Try.prog) 39 66 _ (by omega) Try.underlying39 rfl size_iPicture w b o
@[go_sem] theorem store_iPicture (w : World) (b o : Nat) (vs : Array Value) : (storeR 39 ⟨b, o, none⟩ (.agg vs)).run Try.prog w = storedRow Try.prog 39 66 w b o vs := run_store_rowA (P := Try.prog) 39 66 (by omega) size_iPicture w b o vs
@[go_sem ↓] theorem zero_iPicture (w : World) : (zeroValue 39).run Try.prog w = .ok (.agg (kc pk 66 fun _ => 0)) w := by kernel_rfl
theorem size_iRings : (Try.prog.info? 115).map (·.size) = some 64 := by kernel_rfl
@[go_sem ↓] theorem toLoad_iRings (a : Addr) : loadVar 115 a = loadR 115 a := rfl
@[go_sem ↓] theorem toStore_iRings (a : Addr) (v : Value) : storeVar 115 a v = storeR 115 a v := rfl
@[go_sem] theorem load_iRings (w : World) (b o : Nat) : (loadR 115 ⟨b, o, none⟩).run Try.prog w = loaded Try.prog 115 64 w b o := run_load_rowA (P := Try.prog) 115 64 _ (by omega) Try.underlying115 rfl size_iRings w b o
@[go_sem] theorem store_iRings (w : World) (b o : Nat) (vs : Array Value) : (storeR 115 ⟨b, o, none⟩ (.agg vs)).run Try.prog w = storedRow Try.prog 115 64 w b o vs := run_store_rowA (P := Try.prog) 115 64 (by omega) size_iRings w b o vs
@[go_sem ↓] theorem zero_iRings (w : World) : (zeroValue 115).run Try.prog w = .ok (.agg (kc (fun _ => .i16) 64 fun _ => 0)) w := by kernel_rfl
@[go_sem] theorem index_0 (cs : Array Value) (k : IntKind) (i : Int) (w : World) : (Instr.index 24 (.agg cs) (.int k i)).run Try.prog w = indexed Try.prog 24 1 3 false cs k i w := run_index_row (P := Try.prog) 24 23 1 3 false _ Try.underlying24 Try.underlying23 rfl (by kernel_rfl) cs k i w
@[go_sem] theorem index_1 (cs : Array Value) (k : IntKind) (i : Int) (w : World) : (Instr.index 46 (.agg cs) (.int k i)).run Try.prog w = indexed Try.prog 46 1 8 false cs k i w := run_index_row (P := Try.prog) 46 23 1 8 false _ Try.underlying46 Try.underlying23 rfl (by kernel_rfl) cs k i w
@[go_sem] theorem index_2 (cs : Array Value) (k : IntKind) (i : Int) (w : World) : (Instr.index 47 (.agg cs) (.int k i)).run Try.prog w = indexed Try.prog 47 8 8 true cs k i w := run_index_row (P := Try.prog) 47 46 8 8 true _ Try.underlying47 Try.underlying46 rfl (by kernel_rfl) cs k i w
@[go_sem] theorem index_3 (cs : Array Value) (k : IntKind) (i : Int) (w : World) : (Instr.index 48 (.agg cs) (.int k i)).run Try.prog w = indexed Try.prog 48 3 8 true cs k i w := run_index_row (P := Try.prog) 48 24 3 8 true _ Try.underlying48 Try.underlying24 rfl (by kernel_rfl) cs k i w
@[go_sem] theorem index_4 (cs : Array Value) (k : IntKind) (i : Int) (w : World) : (Instr.index 49 (.agg cs) (.int k i)).run Try.prog w = indexed Try.prog 49 24 8 true cs k i w := run_index_row (P := Try.prog) 49 48 24 8 true _ Try.underlying49 Try.underlying48 rfl (by kernel_rfl) cs k i w
@[go_sem] theorem index_5 (cs : Array Value) (k : IntKind) (i : Int) (w : World) : (Instr.index 34 (.agg cs) (.int k i)).run Try.prog w = indexed Try.prog 34 1 8 false cs k i w := run_index_row (P := Try.prog) 34 5 1 8 false _ Try.underlying34 Try.underlying5 rfl (by kernel_rfl) cs k i w
@[go_sem] theorem index_6 (cs : Array Value) (k : IntKind) (i : Int) (w : World) : (Instr.index 35 (.agg cs) (.int k i)).run Try.prog w = indexed Try.prog 35 8 8 true cs k i w := run_index_row (P := Try.prog) 35 34 8 8 true _ Try.underlying35 Try.underlying34 rfl (by kernel_rfl) cs k i w
@[go_sem] theorem index_7 (cs : Array Value) (k : IntKind) (i : Int) (w : World) : (Instr.index 60 (.agg cs) (.int k i)).run Try.prog w = indexed Try.prog 60 1 3 false cs k i w := run_index_row (P := Try.prog) 60 2 1 3 false _ Try.underlying60 Try.underlying2 rfl (by kernel_rfl) cs k i w
@[go_sem] theorem index_10 (cs : Array Value) (k : IntKind) (i : Int) (w : World) : (Instr.index 115 (.agg cs) (.int k i)).run Try.prog w = indexed Try.prog 115 8 8 true cs k i w := run_index_row (P := Try.prog) 115 46 8 8 true _ Try.underlying115 Try.underlying46 rfl (by kernel_rfl) cs k i w
/-- A composite literal, behind a name that the walk's own rules do not open. -/
def buildR (t : TypeId) (ps : Array (Nat × Value)) : Sem Value := Instr.build t ps
@[go_sem ↓] theorem toBuild_iSheet (ps : Array (Nat × Value)) : Instr.build 53 ps = buildR 53 ps := rfl
theorem built0_iSheet : Try.prog.built 53 [] = some (kc sk 266 fun _ => 0) := by kernel_rfl
theorem built2_iSheet (a b : Int) : Try.prog.built 53 [(0, .int .i8 a), (1, .int .i8 b)] = some (kc sk 266 fun j => if j = 0 then a else if j = 1 then b else 0) := by kernel_rfl
@[go_sem] theorem build0_iSheet (w : World) : (buildR 53 #[]).run Try.prog w = .ok (.agg (kc sk 266 fun _ => 0)) w := run_build w 53 #[] _ built0_iSheet
@[go_sem] theorem build2_iSheet (a b : Int) (w : World) : (buildR 53 #[(0, .int .i8 a), (1, .int .i8 b)]).run Try.prog w = .ok (.agg (kc sk 266 fun j => if j = 0 then a else if j = 1 then b else 0)) w := run_build w 53 _ _ (built2_iSheet a b)
@[go_sem ↓] theorem toBuild_iPicture (ps : Array (Nat × Value)) : Instr.build 39 ps = buildR 39 ps := rfl
theorem built0_iPicture : Try.prog.built 39 [] = some (kc pk 66 fun _ => 0) := by kernel_rfl
theorem built2_iPicture (a b : Int) : Try.prog.built 39 [(0, .int .i8 a), (1, .int .i8 b)] = some (kc pk 66 fun j => if j = 0 then a else if j = 1 then b else 0) := by kernel_rfl
@[go_sem] theorem build0_iPicture (w : World) : (buildR 39 #[]).run Try.prog w = .ok (.agg (kc pk 66 fun _ => 0)) w := run_build w 39 #[] _ built0_iPicture
@[go_sem] theorem build2_iPicture (a b : Int) (w : World) : (buildR 39 #[(0, .int .i8 a), (1, .int .i8 b)]).run Try.prog w = .ok (.agg (kc pk 66 fun j => if j = 0 then a else if j = 1 then b else 0)) w := run_build w 39 _ _ (built2_iPicture a b)
end Go.Proofs.Ythieanbobniegaa
