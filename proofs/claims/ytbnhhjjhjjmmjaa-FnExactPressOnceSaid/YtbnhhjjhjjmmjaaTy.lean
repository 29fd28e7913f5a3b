/- The types of many cells of this program: their sizes, and the walk's rules for reading, writing and making them. -/
import Derived.Test.YtbnhhjjhjjmmjaaProg
import Derived.Test.YtbnhhjjhjjmmjaaMem
namespace Go.Proofs.Ytbnhhjjhjjmmjaa

theorem size_i16A8 : (Try.prog.info? 36).map (·.size) = some 8 := by kernel_rfl
@[go_sem ↓] theorem toLoad_i16A8 (a : Addr) : loadVar 36 a = loadR 36 a := rfl
@[go_sem ↓] theorem toStore_i16A8 (a : Addr) (v : Value) : storeVar 36 a v = storeR 36 a v := rfl
@[go_sem] theorem load_i16A8 (w : World) (b o : Nat) : (loadR 36 ⟨b, o, none⟩).run Try.prog w = loaded Try.prog 36 8 w b o := run_load_rowA (P := Try.prog) 36 8 _ (by omega) Try.underlying36 rfl size_i16A8 w b o
@[go_sem] theorem store_i16A8 (w : World) (b o : Nat) (vs : Array Value) : (storeR 36 ⟨b, o, none⟩ (.agg vs)).run Try.prog w = storedRow Try.prog 36 8 w b o vs := run_store_rowA (P := Try.prog) 36 8 (by omega) size_i16A8 w b o vs
@[go_sem ↓] theorem zero_i16A8 (w : World) : (zeroValue 36).run Try.prog w = .ok (.agg (kc (fun _ => .i16) 8 fun _ => 0)) w := by kernel_rfl
theorem size_i16A8A8 : (Try.prog.info? 37).map (·.size) = some 64 := by kernel_rfl
@[go_sem ↓] theorem toLoad_i16A8A8 (a : Addr) : loadVar 37 a = loadR 37 a := rfl
@[go_sem ↓] theorem toStore_i16A8A8 (a : Addr) (v : Value) : storeVar 37 a v = storeR 37 a v := rfl
@[go_sem] theorem load_i16A8A8 (w : World) (b o : Nat) : (loadR 37 ⟨b, o, none⟩).run Try.prog w = loaded Try.prog 37 64 w b o := run_load_rowA (P := Try.prog) 37 64 _ (by omega) Try.underlying37 rfl size_i16A8A8 w b o
@[go_sem] theorem store_i16A8A8 (w : World) (b o : Nat) (vs : Array Value) : (storeR 37 ⟨b, o, none⟩ (.agg vs)).run Try.prog w = storedRow Try.prog 37 64 w b o vs := run_store_rowA (P := Try.prog) 37 64 (by omega) size_i16A8A8 w b o vs
@[go_sem ↓] theorem zero_i16A8A8 (w : World) : (zeroValue 37).run Try.prog w = .ok (.agg (kc (fun _ => .i16) 64 fun _ => 0)) w := by kernel_rfl
theorem size_i16A3A8 : (Try.prog.info? 39).map (·.size) = some 24 := by kernel_rfl
@[go_sem ↓] theorem toLoad_i16A3A8 (a : Addr) : loadVar 39 a = loadR 39 a := rfl
@[go_sem ↓] theorem toStore_i16A3A8 (a : Addr) (v : Value) : storeVar 39 a v = storeR 39 a v := rfl
@[go_sem] theorem load_i16A3A8 (w : World) (b o : Nat) : (loadR 39 ⟨b, o, none⟩).run Try.prog w = loaded Try.prog 39 24 w b o := run_load_rowA (P := Try.prog) 39 24 _ (by omega) Try.underlying39 rfl size_i16A3A8 w b o
@[go_sem] theorem store_i16A3A8 (w : World) (b o : Nat) (vs : Array Value) : (storeR 39 ⟨b, o, none⟩ (.agg vs)).run Try.prog w = storedRow Try.prog 39 24 w b o vs := run_store_rowA (P := Try.prog) 39 24 (by omega) size_i16A3A8 w b o vs
@[go_sem ↓] theorem zero_i16A3A8 (w : World) : (zeroValue 39).run Try.prog w = .ok (.agg (kc (fun _ => .i16) 24 fun _ => 0)) w := by kernel_rfl
theorem size_i16A3A8A8 : (Try.prog.info? 40).map (·.size) = some 192 := by kernel_rfl
@[go_sem ↓] theorem toLoad_i16A3A8A8 (a : Addr) : loadVar 40 a = loadR 40 a := rfl
@[go_sem ↓] theorem toStore_i16A3A8A8 (a : Addr) (v : Value) : storeVar 40 a v = storeR 40 a v := rfl
@[go_sem] theorem load_i16A3A8A8 (w : World) (b o : Nat) : (loadR 40 ⟨b, o, none⟩).run Try.prog w = loaded Try.prog 40 192 w b o := run_load_rowA (P := Try.prog) 40 192 _ (by omega) Try.underlying40 rfl size_i16A3A8A8 w b o
@[go_sem] theorem store_i16A3A8A8 (w : World) (b o : Nat) (vs : Array Value) : (storeR 40 ⟨b, o, none⟩ (.agg vs)).run Try.prog w = storedRow Try.prog 40 192 w b o vs := run_store_rowA (P := Try.prog) 40 192 (by omega) size_i16A3A8A8 w b o vs
@[go_sem ↓] theorem zero_i16A3A8A8 (w : World) : (zeroValue 40).run Try.prog w = .ok (.agg (kc (fun _ => .i16) 192 fun _ => 0)) w := by kernel_rfl
theorem size_u8A8 : (Try.prog.info? 23).map (·.size) = some 8 := by kernel_rfl
@[go_sem ↓] theorem toLoad_u8A8 (a : Addr) : loadVar 23 a = loadR 23 a := rfl
@[go_sem ↓] theorem toStore_u8A8 (a : Addr) (v : Value) : storeVar 23 a v = storeR 23 a v := rfl
@[go_sem] theorem load_u8A8 (w : World) (b o : Nat) : (loadR 23 ⟨b, o, none⟩).run Try.prog w = loaded Try.prog 23 8 w b o := run_load_rowA (P := Try.prog) 23 8 _ (by omega) Try.underlying23 rfl size_u8A8 w b o
@[go_sem] theorem store_u8A8 (w : World) (b o : Nat) (vs : Array Value) : (storeR 23 ⟨b, o, none⟩ (.agg vs)).run Try.prog w = storedRow Try.prog 23 8 w b o vs := run_store_rowA (P := Try.prog) 23 8 (by omega) size_u8A8 w b o vs
@[go_sem ↓] theorem zero_u8A8 (w : World) : (zeroValue 23).run Try.prog w = .ok (.agg (kc (fun _ => .u8) 8 fun _ => 0)) w := by kernel_rfl
theorem size_u8A8A8 : (Try.prog.info? 24).map (·.size) = some 64 := by kernel_rfl
@[go_sem ↓] theorem toLoad_u8A8A8 (a : Addr) : loadVar 24 a = loadR 24 a := rfl
@[go_sem ↓] theorem toStore_u8A8A8 (a : Addr) (v : Value) : storeVar 24 a v = storeR 24 a v := rfl
@[go_sem] theorem load_u8A8A8 (w : World) (b o : Nat) : (loadR 24 ⟨b, o, none⟩).run Try.prog w = loaded Try.prog 24 64 w b o := run_load_rowA (P := Try.prog) 24 64 _ (by omega) Try.underlying24 rfl size_u8A8A8 w b o
@[go_sem] theorem store_u8A8A8 (w : World) (b o : Nat) (vs : Array Value) : (storeR 24 ⟨b, o, none⟩ (.agg vs)).run Try.prog w = storedRow Try.prog 24 64 w b o vs := run_store_rowA (P := Try.prog) 24 64 (by omega) size_u8A8A8 w b o vs
@[go_sem ↓] theorem zero_u8A8A8 (w : World) : (zeroValue 24).run Try.prog w = .ok (.agg (kc (fun _ => .u8) 64 fun _ => 0)) w := by kernel_rfl
theorem size_lSheet : (Try.prog.info? 42).map (·.size) = some 266 := by kernel_rfl
@[go_sem ↓] theorem toLoad_lSheet (a : Addr) : loadVar 42 a = loadR 42 a := rfl
@[go_sem ↓] theorem toStore_lSheet (a : Addr) (v : Value) : storeVar 42 a v = storeR 42 a v := rfl
@[go_sem] theorem load_lSheet (w : World) (b o : Nat) : (loadR 42 ⟨b, o, none⟩).run Try.prog w = loaded Try.prog 42 266 w b o := run_load_rowA (P := Try.prog) 42 266 _ (by omega) Try.underlying42 rfl size_lSheet w b o
@[go_sem] theorem store_lSheet (w : World) (b o : Nat) (vs : Array Value) : (storeR 42 ⟨b, o, none⟩ (.agg vs)).run Try.prog w = storedRow Try.prog 42 266 w b o vs := run_store_rowA (P := Try.prog) 42 266 (by omega) size_lSheet w b o vs
@[go_sem ↓] theorem zero_lSheet (w : World) : (zeroValue 42).run Try.prog w = .ok (.agg (kc sk 266 fun _ => 0)) w := by kernel_rfl
theorem size_iSheet : (Try.prog.info? 45).map (·.size) = some 266 := by kernel_rfl
@[go_sem ↓] theorem toLoad_iSheet (a : Addr) : loadVar 45 a = loadR 45 a := rfl
@[go_sem ↓] theorem toStore_iSheet (a : Addr) (v : Value) : storeVar 45 a v = storeR 45 a v := rfl
@[go_sem] theorem load_iSheet (w : World) (b o : Nat) : (loadR 45 ⟨b, o, none⟩).run Try.prog w = loaded Try.prog 45 266 w b o := run_load_rowA (P := Try.prog) 45 266 _ (by omega) Try.underlying45 rfl size_iSheet w b o
@[go_sem] theorem store_iSheet (w : World) (b o : Nat) (vs : Array Value) : (storeR 45 ⟨b, o, none⟩ (.agg vs)).run Try.prog w = storedRow Try.prog 45 266 w b o vs := run_store_rowA (P := Try.prog) 45 266 (by omega) size_iSheet w b o vs
@[go_sem ↓] theorem zero_iSheet (w : World) : (zeroValue 45).run Try.prog w = .ok (.agg (kc sk 266 fun _ => 0)) w := by kernel_rfl
theorem size_lPicture : (Try.prog.info? 26).map (·.size) = some 66 := by kernel_rfl
@[go_sem ↓] theorem toLoad_lPicture (a : Addr) : loadVar 26 a = loadR 26 a := rfl
@[go_sem ↓] theorem toStore_lPicture (a : Addr) (v : Value) : storeVar 26 a v = storeR 26 a v := rfl
@[go_sem] theorem load_lPicture (w : World) (b o : Nat) : (loadR 26 ⟨b, o, none⟩).run Try.prog w = loaded Try.prog 26 66 w b o := run_load_rowA (P := Try.prog) 26 66 _ (by omega) Try.underlying26 rfl size_lPicture w b o
@[go_sem] theorem store_lPicture (w : World) (b o : Nat) (vs : Array Value) : (storeR 26 ⟨b, o, none⟩ (.agg vs)).run Try.prog w = storedRow Try.prog 26 66 w b o vs := run_store_rowA (P := Try.prog) 26 66 (by omega) size_lPicture w b o vs
@[go_sem ↓] theorem zero_lPicture (w : World) : (zeroValue 26).run Try.prog w = .ok (.agg (kc pk 66 fun _ => 0)) w := by kernel_rfl
theorem size_iPicture : (Try.prog.info? 30).map (·.size) = some 66 := by kernel_rfl
@[go_sem ↓] theorem toLoad_iPicture (a : Addr) : loadVar 30 a = loadR 30 a := rfl
@[go_sem ↓] theorem toStore_iPicture (a : Addr) (v : Value) : storeVar 30 a v = storeR 30 a v := rfl
@[go_sem] theorem load_iPicture (w : World) (b o : Nat) : (loadR 30 ⟨b, o, none⟩).run Try.prog w = loaded Try.prog 30 66 w b o := run_load_rowA (P := Try.prog) 30 66 _ (by omega) Try.underlying30 rfl size_iPicture w b o
@[go_sem] theorem store_iPicture (w : World) (b o : Nat) (vs : Array Value) : (storeR 30 ⟨b, o, none⟩ (.agg vs)).run Try.prog w = storedRow Try.prog 30 66 w b o vs := run_store_rowA (P := Try.prog) 30 66 (by omega) size_iPicture w b o vs
@[go_sem ↓] theorem zero_iPicture (w : World) : (zeroValue 30).run Try.prog w = .ok (.agg (kc pk 66 fun _ => 0)) w := by kernel_rfl
theorem size_iRings : (Try.prog.info? 216).map (·.size) = some 64 := by kernel_rfl
@[go_sem ↓] theorem toLoad_iRings (a : Addr) : loadVar 216 a = loadR 216 a := rfl
@[go_sem ↓] theorem toStore_iRings (a : Addr) (v : Value) : storeVar 216 a v = storeR 216 a v := rfl
@[go_sem] theorem load_iRings (w : World) (b o : Nat) : (loadR 216 ⟨b, o, none⟩).run Try.prog w = loaded Try.prog 216 64 w b o := run_load_rowA (P := Try.prog) 216 64 _ (by omega) Try.underlying216 rfl size_iRings w b o
@[go_sem] theorem store_iRings (w : World) (b o : Nat) (vs : Array Value) : (storeR 216 ⟨b, o, none⟩ (.agg vs)).run Try.prog w = storedRow Try.prog 216 64 w b o vs := run_store_rowA (P := Try.prog) 216 64 (by omega) size_iRings w b o vs
@[go_sem ↓] theorem zero_iRings (w : World) : (zeroValue 216).run Try.prog w = .ok (.agg (kc (fun _ => .i16) 64 fun _ => 0)) w := by kernel_rfl
@[go_sem] theorem index_0 (cs : Array Value) (k : IntKind) (i : Int) (w : World) : (Instr.index 38 (.agg cs) (.int k i)).run Try.prog w = indexed Try.prog 38 1 3 false cs k i w := run_index_row (P := Try.prog) 38 35 1 3 false _ Try.underlying38 Try.underlying35 rfl (by kernel_rfl) cs k i w
@[go_sem] theorem index_1 (cs : Array Value) (k : IntKind) (i : Int) (w : World) : (Instr.index 36 (.agg cs) (.int k i)).run Try.prog w = indexed Try.prog 36 1 8 false cs k i w := run_index_row (P := Try.prog) 36 35 1 8 false _ Try.underlying36 Try.underlying35 rfl (by kernel_rfl) cs k i w
@[go_sem] theorem index_2 (cs : Array Value) (k : IntKind) (i : Int) (w : World) : (Instr.index 37 (.agg cs) (.int k i)).run Try.prog w = indexed Try.prog 37 8 8 true cs k i w := run_index_row (P := Try.prog) 37 36 8 8 true _ Try.underlying37 Try.underlying36 rfl (by kernel_rfl) cs k i w
@[go_sem] theorem index_3 (cs : Array Value) (k : IntKind) (i : Int) (w : World) : (Instr.index 39 (.agg cs) (.int k i)).run Try.prog w = indexed Try.prog 39 3 8 true cs k i w := run_index_row (P := Try.prog) 39 38 3 8 true _ Try.underlying39 Try.underlying38 rfl (by kernel_rfl) cs k i w
@[go_sem] theorem index_4 (cs : Array Value) (k : IntKind) (i : Int) (w : World) : (Instr.index 40 (.agg cs) (.int k i)).run Try.prog w = indexed Try.prog 40 24 8 true cs k i w := run_index_row (P := Try.prog) 40 39 24 8 true _ Try.underlying40 Try.underlying39 rfl (by kernel_rfl) cs k i w
@[go_sem] theorem index_5 (cs : Array Value) (k : IntKind) (i : Int) (w : World) : (Instr.index 23 (.agg cs) (.int k i)).run Try.prog w = indexed Try.prog 23 1 8 false cs k i w := run_index_row (P := Try.prog) 23 5 1 8 false _ Try.underlying23 Try.underlying5 rfl (by kernel_rfl) cs k i w
@[go_sem] theorem index_6 (cs : Array Value) (k : IntKind) (i : Int) (w : World) : (Instr.index 24 (.agg cs) (.int k i)).run Try.prog w = indexed Try.prog 24 8 8 true cs k i w := run_index_row (P := Try.prog) 24 23 8 8 true _ Try.underlying24 Try.underlying23 rfl (by kernel_rfl) cs k i w
@[go_sem] theorem index_9 (cs : Array Value) (k : IntKind) (i : Int) (w : World) : (Instr.index 131 (.agg cs) (.int k i)).run Try.prog w = indexed Try.prog 131 2 2 true cs k i w := run_index_row (P := Try.prog) 131 81 2 2 true _ Try.underlying131 Try.underlying81 rfl (by kernel_rfl) cs k i w
@[go_sem] theorem index_10 (cs : Array Value) (k : IntKind) (i : Int) (w : World) : (Instr.index 216 (.agg cs) (.int k i)).run Try.prog w = indexed Try.prog 216 8 8 true cs k i w := run_index_row (P := Try.prog) 216 36 8 8 true _ Try.underlying216 Try.underlying36 rfl (by kernel_rfl) cs k i w
/-- A composite literal, behind a name that the walk's own rules do not open. -/
def buildR (t : TypeId) (ps : Array (Nat × Value)) : Sem Value := Instr.build t ps
@[go_sem ↓] theorem toBuild_iSheet (ps : Array (Nat × Value)) : Instr.build 45 ps = buildR 45 ps := rfl
theorem built0_iSheet : Try.prog.built 45 [] = some (kc sk 266 fun _ => 0) := by kernel_rfl
theorem built2_iSheet (a b : Int) : Try.prog.built 45 [(0, .int .i8 a), (1, .int .i8 b)] = some (kc sk 266 fun j => if j = 0 then a else if j = 1 then b else 0) := by kernel_rfl
@[go_sem] theorem build0_iSheet (w : World) : (buildR 45 #[]).run Try.prog w = .ok (.agg (kc sk 266 fun _ => 0)) w := run_build w 45 #[] _ built0_iSheet
@[go_sem] theorem build2_iSheet (a b : Int) (w : World) : (buildR 45 #[(0, .int .i8 a), (1, .int .i8 b)]).run Try.prog w = .ok (.agg (kc sk 266 fun j => if j = 0 then a else if j = 1 then b else 0)) w := run_build w 45 _ _ (built2_iSheet a b)
@[go_sem ↓] theorem toBuild_iPicture (ps : Array (Nat × Value)) : Instr.build 30 ps = buildR 30 ps := rfl
theorem built0_iPicture : Try.prog.built 30 [] = some (kc pk 66 fun _ => 0) := by kernel_rfl
theorem built2_iPicture (a b : Int) : Try.prog.built 30 [(0, .int .i8 a), (1, .int .i8 b)] = some (kc pk 66 fun j => if j = 0 then a else if j = 1 then b else 0) := by kernel_rfl
@[go_sem] theorem build0_iPicture (w : World) : (buildR 30 #[]).run Try.prog w = .ok (.agg (kc pk 66 fun _ => 0)) w := run_build w 30 #[] _ built0_iPicture
@[go_sem] theorem build2_iPicture (a b : Int) (w : World) : (buildR 30 #[(0, .int .i8 a), (1, .int .i8 b)]).run Try.prog w = .ok (.agg (kc pk 66 fun j => if j = 0 then a else if j = 1 then b else 0)) w := run_build w 30 _ _ (built2_iPicture a b)
end Go.Proofs.Ytbnhhjjhjjmmjaa
