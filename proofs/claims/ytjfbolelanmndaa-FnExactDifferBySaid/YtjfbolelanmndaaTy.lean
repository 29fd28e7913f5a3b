/- The types of many cells of this program: their sizes, and the walk's rules for reading, writing and making them. -/
import Derived.Test.YtjfbolelanmndaaProg
import Derived.Test.YtjfbolelanmndaaMem
namespace Go.Proofs.Ytjfbolelanmndaa

theorem size_i16A8 : (Try.prog.info? 24).map (·.size) = some 8 := by kernel_rfl
@[go_sem ↓] theorem toLoad_i16A8 (a : Addr) : loadVar 24 a = loadR 24 a := rfl
@[go_sem ↓] theorem toStore_i16A8 (a : Addr) (v : Value) : storeVar 24 a v = storeR 24 a v := rfl
@[go_sem] theorem load_i16A8 (w : World) (b o : Nat) : (loadR 24 ⟨b, o, none⟩).run Try.prog w = loaded Try.prog 24 8 w b o := run_load_rowA (P := Try.prog) 24 8 _ (by omega) Try.underlying24 rfl size_i16A8 w b o
@[go_sem] theorem store_i16A8 (w : World) (b o : Nat) (vs : Array Value) : (storeR 24 ⟨b, o, none⟩ (.agg vs)).run Try.prog w = storedRow Try.prog 24 8 w b o vs := run_store_rowA (P := Try.prog) 24 8 (by omega) size_i16A8 w b o vs
@[go_sem ↓] theorem zero_i16A8 (w : World) : (zeroValue 24).run Try.prog w = .ok (.agg (kc (fun _ => .i16) 8 fun _ => 0)) w := by kernel_rfl
theorem size_i16A8A8 : (Try.prog.info? 25).map (·.size) = some 64 := by kernel_rfl
@[go_sem ↓] theorem toLoad_i16A8A8 (a : Addr) : loadVar 25 a = loadR 25 a := rfl
@[go_sem ↓] theorem toStore_i16A8A8 (a : Addr) (v : Value) : storeVar 25 a v = storeR 25 a v := rfl
@[go_sem] theorem load_i16A8A8 (w : World) (b o : Nat) : (loadR 25 ⟨b, o, none⟩).run Try.prog w = loaded Try.prog 25 64 w b o := run_load_rowA (P := Try.prog) 25 64 _ (by omega) Try.underlying25 rfl size_i16A8A8 w b o
@[go_sem] theorem store_i16A8A8 (w : World) (b o : Nat) (vs : Array Value) : (storeR 25 ⟨b, o, none⟩ (.agg vs)).run Try.prog w = storedRow Try.prog 25 64 w b o vs := run_store_rowA (P := Try.prog) 25 64 (by omega) size_i16A8A8 w b o vs
@[go_sem ↓] theorem zero_i16A8A8 (w : World) : (zeroValue 25).run Try.prog w = .ok (.agg (kc (fun _ => .i16) 64 fun _ => 0)) w := by kernel_rfl
theorem size_i16A3A8 : (Try.prog.info? 27).map (·.size) = some 24 := by kernel_rfl
@[go_sem ↓] theorem toLoad_i16A3A8 (a : Addr) : loadVar 27 a = loadR 27 a := rfl
@[go_sem ↓] theorem toStore_i16A3A8 (a : Addr) (v : Value) : storeVar 27 a v = storeR 27 a v := rfl
@[go_sem] theorem load_i16A3A8 (w : World) (b o : Nat) : (loadR 27 ⟨b, o, none⟩).run Try.prog w = loaded Try.prog 27 24 w b o := run_load_rowA (P := Try.prog) 27 24 _ (by omega) Try.underlying27 rfl size_i16A3A8 w b o
@[go_sem] theorem store_i16A3A8 (w : World) (b o : Nat) (vs : Array Value) : (storeR 27 ⟨b, o, none⟩ (.agg vs)).run Try.prog w = storedRow Try.prog 27 24 w b o vs := run_store_rowA (P := Try.prog) 27 24 (by omega) size_i16A3A8 w b o vs
@[go_sem ↓] theorem zero_i16A3A8 (w : World) : (zeroValue 27).run Try.prog w = .ok (.agg (kc (fun _ => .i16) 24 fun _ => 0)) w := by kernel_rfl
theorem size_i16A3A8A8 : (Try.prog.info? 28).map (·.size) = some 192 := by kernel_rfl
@[go_sem ↓] theorem toLoad_i16A3A8A8 (a : Addr) : loadVar 28 a = loadR 28 a := rfl
@[go_sem ↓] theorem toStore_i16A3A8A8 (a : Addr) (v : Value) : storeVar 28 a v = storeR 28 a v := rfl
@[go_sem] theorem load_i16A3A8A8 (w : World) (b o : Nat) : (loadR 28 ⟨b, o, none⟩).run Try.prog w = loaded Try.prog 28 192 w b o := run_load_rowA (P := Try.prog) 28 192 _ (by omega) Try.underlying28 rfl size_i16A3A8A8 w b o
@[go_sem] theorem store_i16A3A8A8 (w : World) (b o : Nat) (vs : Array Value) : (storeR 28 ⟨b, o, none⟩ (.agg vs)).run Try.prog w = storedRow Try.prog 28 192 w b o vs := run_store_rowA (P := Try.prog) 28 192 (by omega) size_i16A3A8A8 w b o vs
@[go_sem ↓] theorem zero_i16A3A8A8 (w : World) : (zeroValue 28).run Try.prog w = .ok (.agg (kc (fun _ => .i16) 192 fun _ => 0)) w := by kernel_rfl
theorem size_u8A8 : (Try.prog.info? 29).map (·.size) = some 8 := by kernel_rfl
@[go_sem ↓] theorem toLoad_u8A8 (a : Addr) : loadVar 29 a = loadR 29 a := rfl
@[go_sem ↓] theorem toStore_u8A8 (a : Addr) (v : Value) : storeVar 29 a v = storeR 29 a v := rfl
@[go_sem] theorem load_u8A8 (w : World) (b o : Nat) : (loadR 29 ⟨b, o, none⟩).run Try.prog w = loaded Try.prog 29 8 w b o := run_load_rowA (P := Try.prog) 29 8 _ (by omega) Try.underlying29 rfl size_u8A8 w b o
@[go_sem] theorem store_u8A8 (w : World) (b o : Nat) (vs : Array Value) : (storeR 29 ⟨b, o, none⟩ (.agg vs)).run Try.prog w = storedRow Try.prog 29 8 w b o vs := run_store_rowA (P := Try.prog) 29 8 (by omega) size_u8A8 w b o vs
@[go_sem ↓] theorem zero_u8A8 (w : World) : (zeroValue 29).run Try.prog w = .ok (.agg (kc (fun _ => .u8) 8 fun _ => 0)) w := by kernel_rfl
theorem size_u8A8A8 : (Try.prog.info? 72).map (·.size) = some 64 := by kernel_rfl
@[go_sem ↓] theorem toLoad_u8A8A8 (a : Addr) : loadVar 72 a = loadR 72 a := rfl
@[go_sem ↓] theorem toStore_u8A8A8 (a : Addr) (v : Value) : storeVar 72 a v = storeR 72 a v := rfl
@[go_sem] theorem load_u8A8A8 (w : World) (b o : Nat) : (loadR 72 ⟨b, o, none⟩).run Try.prog w = loaded Try.prog 72 64 w b o := run_load_rowA (P := Try.prog) 72 64 _ (by omega) Try.underlying72 rfl size_u8A8A8 w b o
@[go_sem] theorem store_u8A8A8 (w : World) (b o : Nat) (vs : Array Value) : (storeR 72 ⟨b, o, none⟩ (.agg vs)).run Try.prog w = storedRow Try.prog 72 64 w b o vs := run_store_rowA (P := Try.prog) 72 64 (by omega) size_u8A8A8 w b o vs
@[go_sem ↓] theorem zero_u8A8A8 (w : World) : (zeroValue 72).run Try.prog w = .ok (.agg (kc (fun _ => .u8) 64 fun _ => 0)) w := by kernel_rfl
theorem size_u8A8A3 : (Try.prog.info? 71).map (·.size) = some 24 := by kernel_rfl
@[go_sem ↓] theorem toLoad_u8A8A3 (a : Addr) : loadVar 71 a = loadR 71 a := rfl
@[go_sem ↓] theorem toStore_u8A8A3 (a : Addr) (v : Value) : storeVar 71 a v = storeR 71 a v := rfl
@[go_sem] theorem load_u8A8A3 (w : World) (b o : Nat) : (loadR 71 ⟨b, o, none⟩).run Try.prog w = loaded Try.prog 71 24 w b o := run_load_rowA (P := Try.prog) 71 24 _ (by omega) Try.underlying71 rfl size_u8A8A3 w b o
@[go_sem] theorem store_u8A8A3 (w : World) (b o : Nat) (vs : Array Value) : (storeR 71 ⟨b, o, none⟩ (.agg vs)).run Try.prog w = storedRow Try.prog 71 24 w b o vs := run_store_rowA (P := Try.prog) 71 24 (by omega) size_u8A8A3 w b o vs
@[go_sem ↓] theorem zero_u8A8A3 (w : World) : (zeroValue 71).run Try.prog w = .ok (.agg (kc (fun _ => .u8) 24 fun _ => 0)) w := by kernel_rfl
theorem size_lSheet : (Try.prog.info? 31).map (·.size) = some 266 := by kernel_rfl
@[go_sem ↓] theorem toLoad_lSheet (a : Addr) : loadVar 31 a = loadR 31 a := rfl
@[go_sem ↓] theorem toStore_lSheet (a : Addr) (v : Value) : storeVar 31 a v = storeR 31 a v := rfl
@[go_sem] theorem load_lSheet (w : World) (b o : Nat) : (loadR 31 ⟨b, o, none⟩).run Try.prog w = loaded Try.prog 31 266 w b o := run_load_rowA (P := Try.prog) 31 266 _ (by omega) Try.underlying31 rfl size_lSheet w b o
@[go_sem] theorem store_lSheet (w : World) (b o : Nat) (vs : Array Value) : (storeR 31 ⟨b, o, none⟩ (.agg vs)).run Try.prog w = storedRow Try.prog 31 266 w b o vs := run_store_rowA (P := Try.prog) 31 266 (by omega) size_lSheet w b o vs
@[go_sem ↓] theorem zero_lSheet (w : World) : (zeroValue 31).run Try.prog w = .ok (.agg (kc sk 266 fun _ => 0)) w := by kernel_rfl
theorem size_iSheet : (Try.prog.info? 33).map (·.size) = some 266 := by kernel_rfl
@[go_sem ↓] theorem toLoad_iSheet (a : Addr) : loadVar 33 a = loadR 33 a := rfl
@[go_sem ↓] theorem toStore_iSheet (a : Addr) (v : Value) : storeVar 33 a v = storeR 33 a v := rfl
@[go_sem] theorem load_iSheet (w : World) (b o : Nat) : (loadR 33 ⟨b, o, none⟩).run Try.prog w = loaded Try.prog 33 266 w b o := run_load_rowA (P := Try.prog) 33 266 _ (by omega) Try.underlying33 rfl size_iSheet w b o
@[go_sem] theorem store_iSheet (w : World) (b o : Nat) (vs : Array Value) : (storeR 33 ⟨b, o, none⟩ (.agg vs)).run Try.prog w = storedRow Try.prog 33 266 w b o vs := run_store_rowA (P := Try.prog) 33 266 (by omega) size_iSheet w b o vs
@[go_sem ↓] theorem zero_iSheet (w : World) : (zeroValue 33).run Try.prog w = .ok (.agg (kc sk 266 fun _ => 0)) w := by kernel_rfl
theorem size_iPicture : (Try.prog.info? 74).map (·.size) = some 66 := by kernel_rfl
@[go_sem ↓] theorem toLoad_iPicture (a : Addr) : loadVar 74 a = loadR 74 a := rfl
@[go_sem ↓] theorem toStore_iPicture (a : Addr) (v : Value) : storeVar 74 a v = storeR 74 a v := rfl
@[go_sem] theorem load_iPicture (w : World) (b o : Nat) : (loadR 74 ⟨b, o, none⟩).run Try.prog w = loaded Try.prog 74 66 w b o := run_load_rowA (P := Try.prog) 74 66 _ (by omega) Try.underlying74 rfl size_iPicture w b o
@[go_sem] theorem store_iPicture (w : World) (b o : Nat) (vs : Array Value) : (storeR 74 ⟨b, o, none⟩ (.agg vs)).run Try.prog w = storedRow Try.prog 74 66 w b o vs := run_store_rowA (P := Try.prog) 74 66 (by omega) size_iPicture w b o vs
@[go_sem ↓] theorem zero_iPicture (w : World) : (zeroValue 74).run Try.prog w = .ok (.agg (kc pk 66 fun _ => 0)) w := by kernel_rfl
theorem size_iRings : (Try.prog.info? 146).map (·.size) = some 64 := by kernel_rfl
@[go_sem ↓] theorem toLoad_iRings (a : Addr) : loadVar 146 a = loadR 146 a := rfl
@[go_sem ↓] theorem toStore_iRings (a : Addr) (v : Value) : storeVar 146 a v = storeR 146 a v := rfl
@[go_sem] theorem load_iRings (w : World) (b o : Nat) : (loadR 146 ⟨b, o, none⟩).run Try.prog w = loaded Try.prog 146 64 w b o := run_load_rowA (P := Try.prog) 146 64 _ (by omega) Try.underlying146 rfl size_iRings w b o
@[go_sem] theorem store_iRings (w : World) (b o : Nat) (vs : Array Value) : (storeR 146 ⟨b, o, none⟩ (.agg vs)).run Try.prog w = storedRow Try.prog 146 64 w b o vs := run_store_rowA (P := Try.prog) 146 64 (by omega) size_iRings w b o vs
@[go_sem ↓] theorem zero_iRings (w : World) : (zeroValue 146).run Try.prog w = .ok (.agg (kc (fun _ => .i16) 64 fun _ => 0)) w := by kernel_rfl
@[go_sem] theorem index_0 (cs : Array Value) (k : IntKind) (i : Int) (w : World) : (Instr.index 26 (.agg cs) (.int k i)).run Try.prog w = indexed Try.prog 26 1 3 false cs k i w := run_index_row (P := Try.prog) 26 23 1 3 false _ Try.underlying26 Try.underlying23 rfl (by kernel_rfl) cs k i w
@[go_sem] theorem index_1 (cs : Array Value) (k : IntKind) (i : Int) (w : World) : (Instr.index 24 (.agg cs) (.int k i)).run Try.prog w = indexed Try.prog 24 1 8 false cs k i w := run_index_row (P := Try.prog) 24 23 1 8 false _ Try.underlying24 Try.underlying23 rfl (by kernel_rfl) cs k i w
@[go_sem] theorem index_2 (cs : Array Value) (k : IntKind) (i : Int) (w : World) : (Instr.index 25 (.agg cs) (.int k i)).run Try.prog w = indexed Try.prog 25 8 8 true cs k i w := run_index_row (P := Try.prog) 25 24 8 8 true _ Try.underlying25 Try.underlying24 rfl (by kernel_rfl) cs k i w
@[go_sem] theorem index_3 (cs : Array Value) (k : IntKind) (i : Int) (w : World) : (Instr.index 27 (.agg cs) (.int k i)).run Try.prog w = indexed Try.prog 27 3 8 true cs k i w := run_index_row (P := Try.prog) 27 26 3 8 true _ Try.underlying27 Try.underlying26 rfl (by kernel_rfl) cs k i w
@[go_sem] theorem index_4 (cs : Array Value) (k : IntKind) (i : Int) (w : World) : (Instr.index 28 (.agg cs) (.int k i)).run Try.prog w = indexed Try.prog 28 24 8 true cs k i w := run_index_row (P := Try.prog) 28 27 24 8 true _ Try.underlying28 Try.underlying27 rfl (by kernel_rfl) cs k i w
@[go_sem] theorem index_5 (cs : Array Value) (k : IntKind) (i : Int) (w : World) : (Instr.index 29 (.agg cs) (.int k i)).run Try.prog w = indexed Try.prog 29 1 8 false cs k i w := run_index_row (P := Try.prog) 29 5 1 8 false _ Try.underlying29 Try.underlying5 rfl (by kernel_rfl) cs k i w
@[go_sem] theorem index_6 (cs : Array Value) (k : IntKind) (i : Int) (w : World) : (Instr.index 72 (.agg cs) (.int k i)).run Try.prog w = indexed Try.prog 72 8 8 true cs k i w := run_index_row (P := Try.prog) 72 29 8 8 true _ Try.underlying72 Try.underlying29 rfl (by kernel_rfl) cs k i w
@[go_sem] theorem index_8 (cs : Array Value) (k : IntKind) (i : Int) (w : World) : (Instr.index 71 (.agg cs) (.int k i)).run Try.prog w = indexed Try.prog 71 8 3 true cs k i w := run_index_row (P := Try.prog) 71 29 8 3 true _ Try.underlying71 Try.underlying29 rfl (by kernel_rfl) cs k i w
@[go_sem] theorem index_10 (cs : Array Value) (k : IntKind) (i : Int) (w : World) : (Instr.index 146 (.agg cs) (.int k i)).run Try.prog w = indexed Try.prog 146 8 8 true cs k i w := run_index_row (P := Try.prog) 146 24 8 8 true _ Try.underlying146 Try.underlying24 rfl (by kernel_rfl) cs k i w
/-- A composite literal, behind a name that the walk's own rules do not open. -/
def buildR (t : TypeId) (ps : Array (Nat × Value)) : Sem Value := Instr.build t ps
@[go_sem ↓] theorem toBuild_iSheet (ps : Array (Nat × Value)) : Instr.build 33 ps = buildR 33 ps := rfl
theorem built0_iSheet : Try.prog.built 33 [] = some (kc sk 266 fun _ => 0) := by kernel_rfl
theorem built2_iSheet (a b : Int) : Try.prog.built 33 [(0, .int .i8 a), (1, .int .i8 b)] = some (kc sk 266 fun j => if j = 0 then a else if j = 1 then b else 0) := by kernel_rfl
@[go_sem] theorem build0_iSheet (w : World) : (buildR 33 #[]).run Try.prog w = .ok (.agg (kc sk 266 fun _ => 0)) w := run_build w 33 #[] _ built0_iSheet
@[go_sem] theorem build2_iSheet (a b : Int) (w : World) : (buildR 33 #[(0, .int .i8 a), (1, .int .i8 b)]).run Try.prog w = .ok (.agg (kc sk 266 fun j => if j = 0 then a else if j = 1 then b else 0)) w := run_build w 33 _ _ (built2_iSheet a b)
@[go_sem ↓] theorem toBuild_iPicture (ps : Array (Nat × Value)) : Instr.build 74 ps = buildR 74 ps := rfl
theorem built0_iPicture : Try.prog.built 74 [] = some (kc pk 66 fun _ => 0) := by kernel_rfl
theorem built2_iPicture (a b : Int) : Try.prog.built 74 [(0, .int .i8 a), (1, .int .i8 b)] = some (kc pk 66 fun j => if j = 0 then a else if j = 1 then b else 0) := by kernel_rfl
@[go_sem] theorem build0_iPicture (w : World) : (buildR 74 #[]).run Try.prog w = .ok (.agg (kc pk 66 fun _ => 0)) w := run_build w 74 #[] _ built0_iPicture
@[go_sem] theorem build2_iPicture (a b : Int) (w : World) : (buildR 74 #[(0, .int .i8 a), (1, .int .i8 b)]).run Try.prog w = .ok (.agg (kc pk 66 fun j => if j = 0 then a else if j = 1 then b else 0)) w := run_build w 74 _ _ (built2_iPicture a b)
end Go.Proofs.Ytjfbolelanmndaa
