/- Rows of cells by index functions; the world seen by its rows. Plain lemmas on the model's memory; no program. -/
import Derived.WalkKit
import Derived.WalkSpells
import Derived.WalkLawsBesides
import Derived.Deep.MidRow
import Derived.Deep.WholeRow
import Derived.LoopTactic
import Derived.Outline
namespace Go.Proofs.YtejnejplofddnaaGreatDoor
open Go.RowKit
set_option linter.unusedSimpArgs false
set_option linter.unusedVariables false

/-! ### Tests on places, written as equations between addresses: the walk's own procedure decides these by linear arithmetic, wherever they stand. -/
theorem ltA (a b : Nat) : ((⟨a + 1 - b, 0, none⟩ : Addr) = ⟨0, 0, none⟩) = (a < b) := by simp only [Addr.mk.injEq, and_true, eq_iff_iff]; omega
theorem leA (a b : Nat) : ((⟨a - b, 0, none⟩ : Addr) = ⟨0, 0, none⟩) = (a ≤ b) := by simp only [Addr.mk.injEq, and_true, eq_iff_iff]; omega
theorem eqA (a b : Nat) : ((⟨0, a, none⟩ : Addr) = ⟨0, b, none⟩) = (a = b) := by simp only [Addr.mk.injEq, and_true, true_and]
theorem iteLt {α : Sort _} (a b : Nat) (x y : α) : (if a < b then x else y) = if (⟨a + 1 - b, 0, none⟩ : Addr) = ⟨0, 0, none⟩ then x else y := by simp only [ltA]
theorem iteLe {α : Sort _} (a b : Nat) (x y : α) : (if a ≤ b then x else y) = if (⟨a - b, 0, none⟩ : Addr) = ⟨0, 0, none⟩ then x else y := by simp only [leA]
theorem iteEq {α : Sort _} (a b : Nat) (x y : α) : (if a = b then x else y) = if (⟨0, a, none⟩ : Addr) = ⟨0, b, none⟩ then x else y := by simp only [eqA]

/-- A choice between two by a test on two numbers: the walk's rules bring the numbers to their simplest form first, then the test is decided by linear arithmetic. -/
def selLt {α : Type _} (a b : Nat) (x y : α) : α := if a < b then x else y
def selLe {α : Type _} (a b : Nat) (x y : α) : α := if a ≤ b then x else y
def selEq {α : Type _} (a b : Nat) (x y : α) : α := if a = b then x else y
theorem selLt_A {α : Type _} (a b : Nat) (x y : α) : selLt a b x y = if (⟨a + 1 - b, 0, none⟩ : Addr) = ⟨0, 0, none⟩ then x else y := by rw [selLt, iteLt]
theorem selLe_A {α : Type _} (a b : Nat) (x y : α) : selLe a b x y = if (⟨a - b, 0, none⟩ : Addr) = ⟨0, 0, none⟩ then x else y := by rw [selLe, iteLe]
theorem selEq_A {α : Type _} (a b : Nat) (x y : α) : selEq a b x y = if (⟨0, a, none⟩ : Addr) = ⟨0, b, none⟩ then x else y := by rw [selEq, iteEq]
attribute [go_sem] selLt_A selLe_A selEq_A

/-! ### rows -/
def mk (n : Nat) (f : Nat → Value) : Array Value := ((List.range n).map f).toArray
theorem mk_size (n : Nat) (f : Nat → Value) : (mk n f).size = n := by simp [mk]
theorem mk_get (n : Nat) (f : Nat → Value) (j : Nat) (h : j < n) : (mk n f)[j]? = some (f j) := by
  simp [mk, h]
theorem mk_ext {n : Nat} {f g : Nat → Value} (h : ∀ j, j < n → f j = g j) : mk n f = mk n g := by
  unfold mk
  congr 1
  apply List.map_congr_left
  intro j hj
  exact h j (List.mem_range.1 hj)
theorem mk_of_size {n : Nat} (cs : Array Value) (f : Nat → Value) (h : cs.size = n) (hf : ∀ j, j < n → cs[j]? = some (f j)) : cs = mk n f := by
  apply Array.ext_getElem?
  intro j
  by_cases hj : j < n
  · rw [hf j hj, mk_get n f j hj]
  · rw [Array.getElem?_eq_none (by omega), Array.getElem?_eq_none (by rw [mk_size]; omega)]

/-- A row of integers: of kinds 'ks', of values 'c'. -/
def kc (ks : Nat → IntKind) (n : Nat) (c : Nat → Int) : Array Value := mk n fun j => .int (ks j) (c j)
def upI (c : Nat → Int) (i : Nat) (v : Int) : Nat → Int := fun j => if j = i then v else c j
def spI (c : Nat → Int) (o m : Nat) (d : Nat → Int) : Nat → Int := fun j => if o ≤ j ∧ j < o + m then d (j - o) else c j
theorem upI_at (c : Nat → Int) (i : Nat) (v : Int) (j : Nat) : upI c i v j = if j = i then v else c j := rfl
theorem spI_at (c : Nat → Int) (o m : Nat) (d : Nat → Int) (j : Nat) : spI c o m d j = if o ≤ j ∧ j < o + m then d (j - o) else c j := rfl

@[go_sem] theorem kc_size (ks : Nat → IntKind) (n : Nat) (c : Nat → Int) : (kc ks n c).size = n := mk_size _ _
theorem kc_get (ks : Nat → IntKind) (n : Nat) (c : Nat → Int) (j : Nat) : (kc ks n c)[j]? = if j < n then some (.int (ks j) (c j)) else none := by
  split
  · rename_i h; exact mk_get _ _ _ h
  · exact Array.getElem?_eq_none (by rw [kc_size]; omega)
theorem kc_ext {ks : Nat → IntKind} {n : Nat} {c d : Nat → Int} (h : ∀ j, j < n → c j = d j) : kc ks n c = kc ks n d :=
  mk_ext fun j hj => by rw [h j hj]
theorem kc_inj {ks : Nat → IntKind} {n : Nat} {c d : Nat → Int} (h : kc ks n c = kc ks n d) : ∀ j, j < n → c j = d j := fun j hj => by
  have := congrArg (fun a : Array Value => a[j]?) h
  simp only [kc_get, hj, if_true] at this
  injection this with this
  injection this
theorem kc_of_size {ks : Nat → IntKind} {n : Nat} {c : Nat → Int} (cs : Array Value) (h : cs.size = n) (hf : ∀ j, j < n → cs[j]? = some (.int (ks j) (c j))) : cs = kc ks n c :=
  mk_of_size cs _ h hf
theorem kc_set (ks : Nat → IntKind) (n : Nat) (c : Nat → Int) (i : Nat) (k : IntKind) (v : Int) (hk : ks i = k) : (kc ks n c).setIfInBounds i (.int k v) = kc ks n (upI c i v) := by
  refine kc_of_size _ (by simp [kc_size]) (fun j hj => ?_)
  rw [Array.getElem?_setIfInBounds]
  by_cases h : i = j
  · subst h; simp [kc_size, hj, upI, hk]
  · simp [h, kc_get, hj, upI, show ¬ j = i from fun e => h e.symm]
@[go_sem] theorem kc_set_u (k : IntKind) (n : Nat) (c : Nat → Int) (i : Nat) (v : Int) : (kc (fun _ => k) n c).setIfInBounds i (.int k v) = kc (fun _ => k) n (upI c i v) :=
  kc_set _ _ _ _ _ _ rfl
theorem kc_extract (ks : Nat → IntKind) (n : Nat) (c : Nat → Int) (o m : Nat) (h : o + m ≤ n) : (kc ks n c).extract o (o + m) = kc (fun j => ks (o + j)) m (fun j => c (o + j)) := by
  refine kc_of_size _ (by simp [kc_size]; omega) (fun j hj => ?_)
  rw [Array.getElem?_extract, if_pos (by rw [kc_size]; omega), kc_get, if_pos (by omega)]
theorem kc_one (ks : Nat → IntKind) (n : Nat) (c : Nat → Int) : (kc ks n c).all (·.oneCell') = true := by
  rw [Array.all_eq_true_iff_forall_mem]
  intro v hv
  simp only [kc, mk, List.mem_toArray, List.mem_map] at hv
  obtain ⟨j, _, rfl⟩ := hv
  rfl

/-- Each is one cell. -/
def allOne (vs : Array Value) : Bool := vs.all (·.oneCell')
@[go_sem] theorem allOne_kc (ks : Nat → IntKind) (n : Nat) (c : Nat → Int) : allOne (kc ks n c) = true := kc_one ks n c
@[go_sem] theorem allOne_lit (l : List Value) : allOne l.toArray = l.all (·.oneCell') := by simp [allOne]
/-- Cells laid over a row from a place on. -/
def splice (cs : Array Value) (o : Nat) (vs : Array Value) : Array Value := mk cs.size fun j => if o ≤ j ∧ j < o + vs.size then vs.getD (j - o) undef else cs.getD j undef
theorem splice_kc (ks ks' : Nat → IntKind) (n m o : Nat) (c d : Nat → Int) (hk : ∀ j, j < m → ks (o + j) = ks' j) : splice (kc ks n c) o (kc ks' m d) = kc ks n (spI c o m d) := by
  unfold splice
  rw [kc_size, kc_size]
  refine mk_ext fun j hj => ?_
  unfold spI
  split
  · rename_i h
    have h1 : (kc ks' m d)[j - o]? = some (.int (ks' (j - o)) (d (j - o))) := by rw [kc_get, if_pos (by omega)]
    have := hk (j - o) (by omega)
    rw [show o + (j - o) = j by omega] at this
    rw [Array.getD_eq_getD_getElem?, h1, this]; rfl
  · have h1 : (kc ks n c)[j]? = some (.int (ks j) (c j)) := by rw [kc_get, if_pos hj]
    rw [Array.getD_eq_getD_getElem?, h1]; rfl
def spliceX (cs : Array Value) (o : Nat) (vs : Array Value) : Array Value := splice cs o vs
theorem splice_full (cs vs : Array Value) (h : vs.size = cs.size) : splice cs 0 vs = vs := by
  symm
  refine mk_of_size _ _ h (fun j hj => ?_)
  rw [if_pos (by omega), Array.getD_eq_getD_getElem?, Nat.sub_zero, Array.getElem?_eq_getElem (by omega)]; rfl
theorem splice_full' (cs vs : Array Value) : splice cs 0 vs = if vs.size = cs.size then vs else spliceX cs 0 vs := by
  split
  · rename_i h; exact splice_full cs vs h
  · rfl
@[go_sem] theorem splice_kc_u (k : IntKind) (n m o : Nat) (c d : Nat → Int) : splice (kc (fun _ => k) n c) o (kc (fun _ => k) m d) = kc (fun _ => k) n (spI c o m d) :=
  splice_kc _ _ _ _ _ _ _ (fun _ _ => rfl)

/-- A part of a row. -/
def rowExt (cs : Array Value) (o n : Nat) : Array Value := cs.extract o (o + n)
def rowExtX (cs : Array Value) (o n : Nat) : Array Value := rowExt cs o n
theorem rowExt_full (cs : Array Value) (n : Nat) : rowExt cs 0 n = if cs.size = n then cs else rowExtX cs 0 n := by
  split
  · rename_i h; subst h; simp [rowExt]
  · rfl
theorem rowExt_kc (ks : Nat → IntKind) (n : Nat) (c : Nat → Int) (o m : Nat) : rowExt (kc ks n c) o m = if o + m ≤ n then kc (fun j => ks (o + j)) m (fun j => c (o + j)) else rowExtX (kc ks n c) o m := by
  split
  · rename_i h; exact kc_extract ks n c o m h
  · rfl

/-! ### a sheet's and a picture's kinds -/
def sk (j : Nat) : IntKind := if j < 2 then .i8 else if j < 258 then .i16 else .u8
def pk (j : Nat) : IntKind := if j < 2 then .i8 else .u8
theorem sk_at (j : Nat) : sk j = if j < 2 then .i8 else if j < 258 then .i16 else .u8 := rfl
theorem pk_at (j : Nat) : pk j = if j < 2 then .i8 else .u8 := rfl
/-- A brush's kinds. -/
def bk (j : Nat) : IntKind := if j < 4 then .i16 else .i8
theorem kc_kinds {ks ks' : Nat → IntKind} {n : Nat} {c : Nat → Int} (h : ∀ j, j < n → ks j = ks' j) : kc ks n c = kc ks' n c :=
  mk_ext fun j hj => by rw [h j hj]
theorem rowExt_uni (ks : Nat → IntKind) (k : IntKind) (n : Nat) (c : Nat → Int) (o m : Nat) (h : o + m ≤ n) (hk : ∀ j, j < m → ks (o + j) = k) : rowExt (kc ks n c) o m = kc (fun _ => k) m (fun j => c (o + j)) := by
  rw [rowExt, kc_extract ks n c o m h]
  exact kc_kinds hk
@[go_sem high] theorem rowExt_wet (c : Nat → Int) : rowExt (kc sk 266 c) 2 64 = kc (fun _ => .i16) 64 (fun j => c (2 + j)) :=
  rowExt_uni _ _ _ _ _ _ (by omega) (fun j hj => by unfold sk; rw [if_neg (by omega), if_pos (by omega)])
@[go_sem high] theorem rowExt_dye (c : Nat → Int) : rowExt (kc sk 266 c) 66 192 = kc (fun _ => .i16) 192 (fun j => c (66 + j)) :=
  rowExt_uni _ _ _ _ _ _ (by omega) (fun j hj => by unfold sk; rw [if_neg (by omega), if_pos (by omega)])
@[go_sem high] theorem rowExt_wax (c : Nat → Int) : rowExt (kc sk 266 c) 258 8 = kc (fun _ => .u8) 8 (fun j => c (258 + j)) :=
  rowExt_uni _ _ _ _ _ _ (by omega) (fun j hj => by unfold sk; rw [if_neg (by omega), if_neg (by omega)])
@[go_sem high] theorem rowExt_inked (c : Nat → Int) : rowExt (kc pk 66 c) 2 64 = kc (fun _ => .u8) 64 (fun j => c (2 + j)) :=
  rowExt_uni _ _ _ _ _ _ (by omega) (fun j hj => by unfold pk; rw [if_neg (by omega)])
@[go_sem high] theorem splice_wet (c d : Nat → Int) : splice (kc sk 266 c) 2 (kc (fun _ => .i16) 64 d) = kc sk 266 (spI c 2 64 d) :=
  splice_kc _ _ _ _ _ _ _ (fun j hj => by unfold sk; rw [if_neg (by omega), if_pos (by omega)])
@[go_sem high] theorem splice_dye (c d : Nat → Int) : splice (kc sk 266 c) 66 (kc (fun _ => .i16) 192 d) = kc sk 266 (spI c 66 192 d) :=
  splice_kc _ _ _ _ _ _ _ (fun j hj => by unfold sk; rw [if_neg (by omega), if_pos (by omega)])
@[go_sem high] theorem splice_wax (c d : Nat → Int) : splice (kc sk 266 c) 258 (kc (fun _ => .u8) 8 d) = kc sk 266 (spI c 258 8 d) :=
  splice_kc _ _ _ _ _ _ _ (fun j hj => by unfold sk; rw [if_neg (by omega), if_neg (by omega)])
@[go_sem high] theorem splice_inked (c d : Nat → Int) : splice (kc pk 66 c) 2 (kc (fun _ => .u8) 64 d) = kc pk 66 (spI c 2 64 d) :=
  splice_kc _ _ _ _ _ _ _ (fun j hj => by unfold pk; rw [if_neg (by omega)])
/-- One number stored into a row of mixed kinds. -/
@[go_sem] theorem kc_set_s (n : Nat) (c : Nat → Int) (i : Nat) (k : IntKind) (v : Int) : (kc sk n c).setIfInBounds i (.int k v) = if sk i = k then kc sk n (upI c i v) else mk n (fun j => if j = i then .int k v else .int (sk j) (c j)) := by
  split
  · rename_i h; exact kc_set _ _ _ _ _ _ h
  · refine mk_of_size _ _ (by simp [kc_size]) (fun j hj => ?_)
    rw [Array.getElem?_setIfInBounds]
    by_cases h : i = j
    · subst h; simp [kc_size, hj]
    · simp [h, kc_get, hj, show ¬ j = i from fun e => h e.symm]
@[go_sem] theorem kc_set_p (n : Nat) (c : Nat → Int) (i : Nat) (k : IntKind) (v : Int) : (kc pk n c).setIfInBounds i (.int k v) = if pk i = k then kc pk n (upI c i v) else mk n (fun j => if j = i then .int k v else .int (pk j) (c j)) := by
  split
  · rename_i h; exact kc_set _ _ _ _ _ _ h
  · refine mk_of_size _ _ (by simp [kc_size]) (fun j hj => ?_)
    rw [Array.getElem?_setIfInBounds]
    by_cases h : i = j
    · subst h; simp [kc_size, hj]
    · simp [h, kc_get, hj, show ¬ j = i from fun e => h e.symm]
/-- Three numbers written out are a row. -/
theorem lit3 (k : IntKind) (a b c : Int) : #[Value.int k a, Value.int k b, Value.int k c] = kc (fun _ => k) 3 (fun j => if j = 0 then a else if j = 1 then b else c) := rfl

/-! ### the world by its rows -/
def objRow : Obj → Array Value
  | .cells cs _ _ => cs
  | _ => #[]
def objFr : Obj → Nat × Nat
  | .cells _ _ fr => fr
  | _ => (0, 0)
def rowOf (w : World) (b : Nat) : Array Value := match w.heap[b]? with | some o => objRow o | none => #[]
def frOf (w : World) (b : Nat) : Nat × Nat := match w.heap[b]? with | some o => objFr o | none => (0, 0)
/-- Copies that no rule opens. -/
def rowOfX (w : World) (b : Nat) : Array Value := rowOf w b
def frOfX (w : World) (b : Nat) : Nat × Nat := frOf w b

theorem cell_row (w : World) (b o : Nat) : w.cell? ⟨b, o, none⟩ = (rowOf w b)[o]? := by
  unfold World.cell? rowOf
  cases h : w.heap[b]? with
  | none => simp
  | some x => cases x <;> simp [objRow]
theorem frozen_row (w : World) (b o : Nat) : w.frozen? ⟨b, o, none⟩ = (decide ((frOf w b).1 ≤ o) && decide (o < (frOf w b).2)) := by
  unfold World.frozen? frOf
  cases h : w.heap[b]? with
  | none => simp
  | some x => cases x <;> (simp [objFr]; try rfl)
theorem row_alloc (w : World) (o : Obj) (b : Nat) : rowOf (w.alloc o) b = if b = w.heap.size then objRow o else rowOf w b := by
  unfold rowOf World.alloc
  simp only [Array.getElem?_push]
  by_cases h : b = w.heap.size
  · simp [h]
  · simp [h]
theorem fr_alloc (w : World) (o : Obj) (b : Nat) : frOf (w.alloc o) b = if b = w.heap.size then objFr o else frOf w b := by
  unfold frOf World.alloc
  simp only [Array.getElem?_push]
  by_cases h : b = w.heap.size
  · simp [h]
  · simp [h]
theorem row_drew (w : World) (b : Nat) : rowOf w.drew b = rowOf w b := rfl
theorem fr_drew (w : World) (b : Nat) : frOf w.drew b = frOf w b := rfl
theorem row_drewN (w : World) (n b : Nat) : rowOf (w.drewN n) b = rowOf w b := rfl
@[simp] theorem size_drewNm (w : World) (n : Nat) : (w.drewN n).heap.size = w.heap.size := rfl
theorem fr_drewN (w : World) (n b : Nat) : frOf (w.drewN n) b = frOf w b := rfl
theorem row_setCell (w : World) (g i : Nat) (v : Value) (b : Nat) : rowOf (w.setCell ⟨g, i, none⟩ v) b = if b = g then (rowOf w g).setIfInBounds i v else rowOf w b := by
  unfold rowOf World.setCell
  simp only [Array.getElem?_modify]
  by_cases h : b = g
  · subst h
    cases hh : w.heap[b]? with
    | none => simp
    | some x => cases x <;> simp [objRow]
  · simp [h, show ¬ g = b from fun e => h e.symm]
theorem fr_setCell (w : World) (a : Addr) (v : Value) (b : Nat) : frOf (w.setCell a v) b = frOf w b := by
  unfold frOf World.setCell
  simp only [Array.getElem?_modify]
  by_cases h : a.block = b
  · subst h
    cases hh : w.heap[a.block]? with
    | none => simp
    | some x => cases x <;> simp [objFr]
  · simp [h]
/-- The whole row of a block is another one. -/
theorem row_setRow (w : World) (g : Nat) (cs : Array Value) (b : Nat) (h : 0 < (rowOf w g).size) : rowOf (w.setRow g cs) b = if b = g then cs else rowOf w b := by
  unfold rowOf at h ⊢
  by_cases hb : b = g
  · subst hb
    cases hh : w.heap[b]? with
    | none => simp [hh] at h
    | some x =>
      cases x with
      | cells c t fr => rw [setRow_heap w b c cs t fr hh]; simp [objRow]
      | _ => simp [hh, objRow] at h
  · rw [setRow_other w g b cs hb]; simp [hb]
theorem fr_setRow (w : World) (g : Nat) (cs : Array Value) (b : Nat) : frOf (w.setRow g cs) b = frOf w b := by
  unfold frOf
  by_cases hb : b = g
  · subst hb
    cases hh : w.heap[b]? with
    | none => simp [World.setRow, Array.getElem?_modify, hh]
    | some x =>
      cases x <;> simp [World.setRow, Array.getElem?_modify, hh, objFr]
  · rw [setRow_other w g b cs hb]
theorem below_row {B : Nat} {w w' : World} (h : Below B w w') (b : Nat) : rowOf w' b = if b < B then rowOf w b else rowOfX w' b := by
  split
  · rename_i hb; unfold rowOf; rw [h.block b hb]
  · rfl
theorem below_fr {B : Nat} {w w' : World} (h : Below B w w') (b : Nat) : frOf w' b = if b < B then frOf w b else frOfX w' b := by
  split
  · rename_i hb; unfold frOf; rw [h.block b hb]
  · rfl
theorem keep_row {B : Nat} {w w' : World} (h : Below B w w') {b : Nat} (hb : b < B) : rowOf w' b = rowOf w b := by
  unfold rowOf; rw [h.block b hb]
theorem keep_fr {B : Nat} {w w' : World} (h : Below B w w') {b : Nat} (hb : b < B) : frOf w' b = frOf w b := by
  unfold frOf; rw [h.block b hb]
theorem Below.setRow {B : Nat} {a w : World} (h : Below B a w) {g : Nat} (hg : B ≤ g) (cs : Array Value) : Below B a (w.setRow g cs) :=
  h.trans ⟨rfl, rfl, rfl, by simp, fun k hk => setRow_other w g k cs (by omega)⟩
theorem below_step {B B' : Nat} {a b c : World} (k : Below B' b c) (hB : B ≤ B') (h : Below B a b) : Below B a c := h.trans (k.mono hB)
theorem Below.drewN {B : Nat} {a w : World} (h : Below B a w) (n : Nat) : Below B a (w.drewN n) := ⟨h.os, h.tape, h.output, h.size, h.block⟩

/-! ### results that lie in memory -/
theorem res_c {P : Program} {fn : Func} {tmps : Array Value} {w : World} {p0 : Tmp} {t0 : TypeId} {a0 : Addr} {v0 : Value} (h : fn.results = #[.cell p0 t0]) (hp0 : tmps.getD p0 undef = .pointer (some a0)) (hl0 : (loadVar t0 a0).run P w = .ok v0 w) :
    (results fn tmps).run P w = .ok (v0) w := by
  simp only [Array.getD_eq_getD_getElem?] at *
  simp [results, h, asAddr, Sem.run_bind, Result.andThen, hp0, hl0]
theorem res_ct {P : Program} {fn : Func} {tmps : Array Value} {w : World} {p0 : Tmp} {t0 : TypeId} {a0 : Addr} {v0 : Value} {u1 : Tmp} {x1 : Value} (h : fn.results = #[.cell p0 t0, .tmp u1]) (hp0 : tmps.getD p0 undef = .pointer (some a0)) (hl0 : (loadVar t0 a0).run P w = .ok v0 w) (hx1 : tmps.getD u1 undef = x1) :
    (results fn tmps).run P w = .ok (.tuple #[v0, x1]) w := by
  simp only [Array.getD_eq_getD_getElem?] at *
  simp [results, h, asAddr, Sem.run_bind, Result.andThen, hp0, hl0, hx1]
theorem res_ctt {P : Program} {fn : Func} {tmps : Array Value} {w : World} {p0 : Tmp} {t0 : TypeId} {a0 : Addr} {v0 : Value} {u1 : Tmp} {x1 : Value} {u2 : Tmp} {x2 : Value} (h : fn.results = #[.cell p0 t0, .tmp u1, .tmp u2]) (hp0 : tmps.getD p0 undef = .pointer (some a0)) (hl0 : (loadVar t0 a0).run P w = .ok v0 w) (hx1 : tmps.getD u1 undef = x1) (hx2 : tmps.getD u2 undef = x2) :
    (results fn tmps).run P w = .ok (.tuple #[v0, x1, x2]) w := by
  simp only [Array.getD_eq_getD_getElem?] at *
  simp [results, h, asAddr, Sem.run_bind, Result.andThen, hp0, hl0, hx1, hx2]
theorem res_cct {P : Program} {fn : Func} {tmps : Array Value} {w : World} {p0 : Tmp} {t0 : TypeId} {a0 : Addr} {v0 : Value} {p1 : Tmp} {t1 : TypeId} {a1 : Addr} {v1 : Value} {u2 : Tmp} {x2 : Value} (h : fn.results = #[.cell p0 t0, .cell p1 t1, .tmp u2]) (hp0 : tmps.getD p0 undef = .pointer (some a0)) (hl0 : (loadVar t0 a0).run P w = .ok v0 w) (hp1 : tmps.getD p1 undef = .pointer (some a1)) (hl1 : (loadVar t1 a1).run P w = .ok v1 w) (hx2 : tmps.getD u2 undef = x2) :
    (results fn tmps).run P w = .ok (.tuple #[v0, v1, x2]) w := by
  simp only [Array.getD_eq_getD_getElem?] at *
  simp [results, h, asAddr, Sem.run_bind, Result.andThen, hp0, hl0, hp1, hl1, hx2]
theorem res_cctt {P : Program} {fn : Func} {tmps : Array Value} {w : World} {p0 : Tmp} {t0 : TypeId} {a0 : Addr} {v0 : Value} {p1 : Tmp} {t1 : TypeId} {a1 : Addr} {v1 : Value} {u2 : Tmp} {x2 : Value} {u3 : Tmp} {x3 : Value} (h : fn.results = #[.cell p0 t0, .cell p1 t1, .tmp u2, .tmp u3]) (hp0 : tmps.getD p0 undef = .pointer (some a0)) (hl0 : (loadVar t0 a0).run P w = .ok v0 w) (hp1 : tmps.getD p1 undef = .pointer (some a1)) (hl1 : (loadVar t1 a1).run P w = .ok v1 w) (hx2 : tmps.getD u2 undef = x2) (hx3 : tmps.getD u3 undef = x3) :
    (results fn tmps).run P w = .ok (.tuple #[v0, v1, x2, x3]) w := by
  simp only [Array.getD_eq_getD_getElem?] at *
  simp [results, h, asAddr, Sem.run_bind, Result.andThen, hp0, hl0, hp1, hl1, hx2, hx3]

/-! ### blocks that were made one behind the other -/
@[go_sem] theorem blk_eq_2 (n : Nat) : (n = n + 1 + 1) = False := by simp only [eq_iff_iff, iff_false]; omega
@[go_sem] theorem blk_qe_2 (n : Nat) : (n + 1 + 1 = n) = False := by simp only [eq_iff_iff, iff_false]; omega
@[go_sem] theorem blk_lt_2 (n : Nat) : (n < n + 1 + 1) = True := by simp only [eq_iff_iff, iff_true]; omega
@[go_sem] theorem blk_tl_2 (n : Nat) : (n + 1 + 1 < n) = False := by simp only [eq_iff_iff, iff_false]; omega
@[go_sem] theorem blk_le_2 (n : Nat) : (n ≤ n + 1 + 1) = True := by simp only [eq_iff_iff, iff_true]; omega
@[go_sem] theorem blk_eq_3 (n : Nat) : (n = n + 1 + 1 + 1) = False := by simp only [eq_iff_iff, iff_false]; omega
@[go_sem] theorem blk_qe_3 (n : Nat) : (n + 1 + 1 + 1 = n) = False := by simp only [eq_iff_iff, iff_false]; omega
@[go_sem] theorem blk_lt_3 (n : Nat) : (n < n + 1 + 1 + 1) = True := by simp only [eq_iff_iff, iff_true]; omega
@[go_sem] theorem blk_tl_3 (n : Nat) : (n + 1 + 1 + 1 < n) = False := by simp only [eq_iff_iff, iff_false]; omega
@[go_sem] theorem blk_le_3 (n : Nat) : (n ≤ n + 1 + 1 + 1) = True := by simp only [eq_iff_iff, iff_true]; omega
@[go_sem] theorem blk_eq_4 (n : Nat) : (n = n + 1 + 1 + 1 + 1) = False := by simp only [eq_iff_iff, iff_false]; omega
@[go_sem] theorem blk_qe_4 (n : Nat) : (n + 1 + 1 + 1 + 1 = n) = False := by simp only [eq_iff_iff, iff_false]; omega
@[go_sem] theorem blk_lt_4 (n : Nat) : (n < n + 1 + 1 + 1 + 1) = True := by simp only [eq_iff_iff, iff_true]; omega
@[go_sem] theorem blk_tl_4 (n : Nat) : (n + 1 + 1 + 1 + 1 < n) = False := by simp only [eq_iff_iff, iff_false]; omega
@[go_sem] theorem blk_le_4 (n : Nat) : (n ≤ n + 1 + 1 + 1 + 1) = True := by simp only [eq_iff_iff, iff_true]; omega
@[go_sem] theorem blk_eq_5 (n : Nat) : (n = n + 1 + 1 + 1 + 1 + 1) = False := by simp only [eq_iff_iff, iff_false]; omega
@[go_sem] theorem blk_qe_5 (n : Nat) : (n + 1 + 1 + 1 + 1 + 1 = n) = False := by simp only [eq_iff_iff, iff_false]; omega
@[go_sem] theorem blk_lt_5 (n : Nat) : (n < n + 1 + 1 + 1 + 1 + 1) = True := by simp only [eq_iff_iff, iff_true]; omega
@[go_sem] theorem blk_tl_5 (n : Nat) : (n + 1 + 1 + 1 + 1 + 1 < n) = False := by simp only [eq_iff_iff, iff_false]; omega
@[go_sem] theorem blk_le_5 (n : Nat) : (n ≤ n + 1 + 1 + 1 + 1 + 1) = True := by simp only [eq_iff_iff, iff_true]; omega
@[go_sem] theorem blk_eq_6 (n : Nat) : (n = n + 1 + 1 + 1 + 1 + 1 + 1) = False := by simp only [eq_iff_iff, iff_false]; omega
@[go_sem] theorem blk_qe_6 (n : Nat) : (n + 1 + 1 + 1 + 1 + 1 + 1 = n) = False := by simp only [eq_iff_iff, iff_false]; omega
@[go_sem] theorem blk_lt_6 (n : Nat) : (n < n + 1 + 1 + 1 + 1 + 1 + 1) = True := by simp only [eq_iff_iff, iff_true]; omega
@[go_sem] theorem blk_tl_6 (n : Nat) : (n + 1 + 1 + 1 + 1 + 1 + 1 < n) = False := by simp only [eq_iff_iff, iff_false]; omega
@[go_sem] theorem blk_le_6 (n : Nat) : (n ≤ n + 1 + 1 + 1 + 1 + 1 + 1) = True := by simp only [eq_iff_iff, iff_true]; omega
@[go_sem] theorem blk_eq_7 (n : Nat) : (n = n + 1 + 1 + 1 + 1 + 1 + 1 + 1) = False := by simp only [eq_iff_iff, iff_false]; omega
@[go_sem] theorem blk_qe_7 (n : Nat) : (n + 1 + 1 + 1 + 1 + 1 + 1 + 1 = n) = False := by simp only [eq_iff_iff, iff_false]; omega
@[go_sem] theorem blk_lt_7 (n : Nat) : (n < n + 1 + 1 + 1 + 1 + 1 + 1 + 1) = True := by simp only [eq_iff_iff, iff_true]; omega
@[go_sem] theorem blk_tl_7 (n : Nat) : (n + 1 + 1 + 1 + 1 + 1 + 1 + 1 < n) = False := by simp only [eq_iff_iff, iff_false]; omega
@[go_sem] theorem blk_le_7 (n : Nat) : (n ≤ n + 1 + 1 + 1 + 1 + 1 + 1 + 1) = True := by simp only [eq_iff_iff, iff_true]; omega
@[go_sem] theorem blk_eq_8 (n : Nat) : (n = n + 1 + 1 + 1 + 1 + 1 + 1 + 1 + 1) = False := by simp only [eq_iff_iff, iff_false]; omega
@[go_sem] theorem blk_qe_8 (n : Nat) : (n + 1 + 1 + 1 + 1 + 1 + 1 + 1 + 1 = n) = False := by simp only [eq_iff_iff, iff_false]; omega
@[go_sem] theorem blk_lt_8 (n : Nat) : (n < n + 1 + 1 + 1 + 1 + 1 + 1 + 1 + 1) = True := by simp only [eq_iff_iff, iff_true]; omega
@[go_sem] theorem blk_tl_8 (n : Nat) : (n + 1 + 1 + 1 + 1 + 1 + 1 + 1 + 1 < n) = False := by simp only [eq_iff_iff, iff_false]; omega
@[go_sem] theorem blk_le_8 (n : Nat) : (n ≤ n + 1 + 1 + 1 + 1 + 1 + 1 + 1 + 1) = True := by simp only [eq_iff_iff, iff_true]; omega
@[go_sem] theorem blk_eq_9 (n : Nat) : (n = n + 1 + 1 + 1 + 1 + 1 + 1 + 1 + 1 + 1) = False := by simp only [eq_iff_iff, iff_false]; omega
@[go_sem] theorem blk_qe_9 (n : Nat) : (n + 1 + 1 + 1 + 1 + 1 + 1 + 1 + 1 + 1 = n) = False := by simp only [eq_iff_iff, iff_false]; omega
@[go_sem] theorem blk_lt_9 (n : Nat) : (n < n + 1 + 1 + 1 + 1 + 1 + 1 + 1 + 1 + 1) = True := by simp only [eq_iff_iff, iff_true]; omega
@[go_sem] theorem blk_tl_9 (n : Nat) : (n + 1 + 1 + 1 + 1 + 1 + 1 + 1 + 1 + 1 < n) = False := by simp only [eq_iff_iff, iff_false]; omega
@[go_sem] theorem blk_le_9 (n : Nat) : (n ≤ n + 1 + 1 + 1 + 1 + 1 + 1 + 1 + 1 + 1) = True := by simp only [eq_iff_iff, iff_true]; omega

/-! ### whole rows loaded and stored -/
def loadVarX (t : TypeId) (a : Addr) : Sem Value := loadVar t a
def storeVarX (t : TypeId) (a : Addr) (v : Value) : Sem Unit := storeVar t a v
theorem row_some {w : World} {b : Nat} (h : 0 < (rowOf w b).size) : ∃ t fr, w.heap[b]? = some (.cells (rowOf w b) t fr) := by
  unfold rowOf at h ⊢
  cases hh : w.heap[b]? with
  | none => simp [hh] at h
  | some x =>
    cases x with
    | cells c t fr => exact ⟨t, fr, by simp [objRow]⟩
    | _ => simp [hh, objRow] at h
theorem run_load_row {P : Program} (ty : TypeId) (n : Nat) (d : TypeDesc) (hu : P.underlying ty = some d) (hd : d.isRow = true) (hi : (P.info? ty).map (·.size) = some n) (w : World) (b o : Nat) :
    (loadVar ty ⟨b, o, none⟩).run P w = if 0 < n ∧ o + n ≤ (rowOf w b).size then .ok (.agg (rowExt (rowOf w b) o n)) w else (loadVarX ty ⟨b, o, none⟩).run P w := by
  split
  · rename_i h
    have hl : ((rowOf w b).extract o (o + n)).toList.length = n := by simp; omega
    have := run_loadVar_mid (P := P) w b o ty ((rowOf w b).extract o (o + n)).toList d (fun j v hv => by
      rw [cell_row]
      have hj : j < n := by have := (List.getElem?_eq_some_iff.1 hv).1; omega
      rw [Array.getElem?_toList, Array.getElem?_extract] at hv
      rw [if_pos (by omega)] at hv
      exact hv) hu hd (by rw [hi, hl])
    rwa [Array.toArray_toList] at this
  · rfl
theorem setCells_eq_setRow (b : Nat) : ∀ (vs : List Value) (o : Nat) (w : World), o + vs.length ≤ (rowOf w b).size → w.setCells b o vs = w.setRow b (splice (rowOf w b) o vs.toArray)
  | [], o, w, h => by
    show w = _
    have e : splice (rowOf w b) o (#[] : Array Value) = rowOf w b := by
      symm
      refine mk_of_size _ _ rfl (fun j hj => ?_)
      rw [if_neg (by simp), Array.getD_eq_getD_getElem?, Array.getElem?_eq_getElem hj]; rfl
    rw [show ([] : List Value).toArray = #[] from rfl, e]
    have : (w.setRow b (rowOf w b)).heap = w.heap := by
      apply Array.ext_getElem?
      intro i
      unfold World.setRow
      simp only [Array.getElem?_modify]
      split
      · rename_i hi
        subst hi
        unfold rowOf
        cases hh : w.heap[b]? with
        | none => rfl
        | some x => cases x <;> simp [objRow]
      · rfl
    exact (congrArg (fun h => ({ w with heap := h } : World)) this).symm
  | v :: r, o, w, h => by
    have hlen : o + r.length + 1 ≤ (rowOf w b).size := by simpa [Nat.add_assoc] using h
    obtain ⟨t, fr, hh⟩ := row_some (w := w) (b := b) (by omega)
    have hrow : rowOf (w.setCell ⟨b, o, none⟩ v) b = (rowOf w b).setIfInBounds o v := by rw [row_setCell, if_pos rfl]
    rw [World.setCells, setCells_eq_setRow b r (o + 1) _ (by rw [hrow]; simp; omega), hrow, setCell_eq_setRow w b o (rowOf w b) t fr v hh, setRow_setRow]
    congr 1
    unfold splice
    simp only [Array.size_setIfInBounds]
    refine mk_ext fun j hj => ?_
    simp only [List.size_toArray, List.length_cons, Array.getD_eq_getD_getElem?, Array.getElem?_setIfInBounds, List.getElem?_toArray]
    by_cases h1 : j = o
    · subst h1
      rw [if_neg (by omega), if_pos rfl, if_pos (by omega), if_pos (by omega)]
      simp
    · by_cases h2 : o + 1 ≤ j ∧ j < o + 1 + r.length
      · rw [if_pos h2, if_pos (by omega), show j - o = (j - (o + 1)) + 1 by omega]
        simp
      · rw [if_neg h2, if_neg (by omega), if_neg (by omega)]
theorem run_store_row {P : Program} (ty : TypeId) (n : Nat) (hi : (P.info? ty).map (·.size) = some n) (w : World) (b o : Nat) (vs : Array Value) :
    (storeVar ty ⟨b, o, none⟩ (.agg vs)).run P w = if 0 < n ∧ o + n ≤ (rowOf w b).size then if vs.size = n then if frOf w b = (0, 0) then if allOne vs = true then .ok () (w.setRow b (splice (rowOf w b) o vs))
      else (storeVarX ty ⟨b, o, none⟩ (.agg vs)).run P w else (storeVarX ty ⟨b, o, none⟩ (.agg vs)).run P w else (storeVarX ty ⟨b, o, none⟩ (.agg vs)).run P w else (storeVarX ty ⟨b, o, none⟩ (.agg vs)).run P w := by
  split
  · split
    · split
      · split
        · rename_i h hn hf h1
          have := run_storeVar_mid (P := P) w b o ty vs (fun j hj => by
            rw [cell_row, frozen_row, hf]
            have : o + j < (rowOf w b).size := by omega
            refine ⟨by simp [this], by simp⟩) (by rw [hi, hn]) h1
          rw [this, setCells_eq_setRow b vs.toList o w (by simp; omega)]
        · rfl
      · rfl
    · rfl
  · rfl
/-- The right sides of the two rules on whole rows, under one name each. -/
def loaded (P : Program) (ty n : Nat) (w : World) (b o : Nat) : Result Value :=
  selLe (o + n) (rowOf w b).size (.ok (.agg (rowExt (rowOf w b) o n)) w) ((loadVarX ty ⟨b, o, none⟩).run P w)
def storedRow (P : Program) (ty n : Nat) (w : World) (b o : Nat) (vs : Array Value) : Result Unit :=
  selLe (o + n) (rowOf w b).size (selEq vs.size n (if frOf w b = (0, 0) then if allOne vs = true then .ok () (w.setRow b (splice (rowOf w b) o vs))
      else (storeVarX ty ⟨b, o, none⟩ (.agg vs)).run P w else (storeVarX ty ⟨b, o, none⟩ (.agg vs)).run P w) ((storeVarX ty ⟨b, o, none⟩ (.agg vs)).run P w)) ((storeVarX ty ⟨b, o, none⟩ (.agg vs)).run P w)
theorem run_load_rowA {P : Program} (ty : TypeId) (n : Nat) (d : TypeDesc) (h0 : 0 < n) (hu : P.underlying ty = some d) (hd : d.isRow = true) (hi : (P.info? ty).map (·.size) = some n) (w : World) (b o : Nat) :
    (loadVar ty ⟨b, o, none⟩).run P w = loaded P ty n w b o := by
  rw [run_load_row ty n d hu hd hi, loaded, selLe]
  simp only [h0, true_and]
theorem run_store_rowA {P : Program} (ty : TypeId) (n : Nat) (h0 : 0 < n) (hi : (P.info? ty).map (·.size) = some n) (w : World) (b o : Nat) (vs : Array Value) :
    (storeVar ty ⟨b, o, none⟩ (.agg vs)).run P w = storedRow P ty n w b o vs := by
  rw [run_store_row ty n hi, storedRow, selLe, selEq]
  simp only [h0, true_and]
/-- Reading and writing whole rows, behind names that the walk's own rules do not open. -/
def loadR (t : TypeId) (a : Addr) : Sem Value := loadVar t a
def storeR (t : TypeId) (a : Addr) (v : Value) : Sem Unit := storeVar t a v
@[go_sem] theorem kc_getElem (ks : Nat → IntKind) (n : Nat) (c : Nat → Int) (j : Nat) (h : j < (kc ks n c).size) : (kc ks n c)[j] = .int (ks j) (c j) := by
  have h1 := kc_get ks n c j
  rw [kc_size] at h
  rw [if_pos h, Array.getElem?_eq_getElem (by rw [kc_size]; exact h)] at h1
  exact Option.some.inj h1
/-- An element of an array held as a value. -/
def indexX (t : TypeId) (x i : Value) : Sem Value := Instr.index t x i
def elemOne (cs : Array Value) (o : Nat) (w : World) (r : Result Value) : Result Value := match cs[o]? with | some v => .ok v w | none => r
def indexed (P : Program) (t : TypeId) (n len : Nat) (agg : Bool) (cs : Array Value) (k : IntKind) (i : Int) (w : World) : Result Value :=
  selEq (-i).toNat 0 (selLt i.toNat len (if agg then .ok (.agg (rowExt cs (i.toNat * n) n)) w else elemOne cs (i.toNat * n) w ((indexX t (.agg cs) (.int k i)).run P w))
    ((indexX t (.agg cs) (.int k i)).run P w)) ((indexX t (.agg cs) (.int k i)).run P w)
theorem run_index_row {P : Program} (t e : TypeId) (n len : Nat) (agg : Bool) (d : TypeDesc) (hu : P.underlying t = some (.array len e)) (he : P.underlying e = some d) (hd : d.isRow = agg) (hi : (P.info? e).map (·.size) = some n)
    (cs : Array Value) (k : IntKind) (i : Int) (w : World) : (Instr.index t (.agg cs) (.int k i)).run P w = indexed P t n len agg cs k i w := by
  unfold indexed selEq selLt
  split
  · split
    · rename_i h0 h1
      have hc : 0 ≤ i ∧ i < (len : Int) := by omega
      have hsz : (sizeOf e).run P w = .ok n w := by
        cases hq : P.info? e with
        | none => simp [hq] at hi
        | some j => simp [sizeOf, typeInfo, hq]; simpa [hq] using hi
      have hia : (isAgg e).run P w = .ok agg w := by
        unfold isAgg
        rw [Sem.run_bind, run_underlying he w]
        cases d <;> simp_all [TypeDesc.isRow]
      simp only [Instr.index, asIntOf, Sem.run_bind, Sem.run_pure, Result.andThen_ok, run_underlying hu w, hc, and_self, if_true, hsz, part, hia]
      cases agg
      · simp only [Bool.false_eq_true, if_false, elemOne]
        cases hcs : cs[i.toNat * n]? with
        | some v => simp
        | none =>
          simp only [indexX, Instr.index, asIntOf, Sem.run_bind, Sem.run_pure, Result.andThen_ok, run_underlying hu w, hc, and_self, if_true, hsz, part, hia, Bool.false_eq_true, if_false, hcs]
      · simp [rowExt, hsz, Sem.run_bind]
    · rfl
  · rfl

/-! ### the rules of the walk -/
@[go_sem] theorem upI_A (c : Nat → Int) (i : Nat) (v : Int) (j : Nat) : upI c i v j = selEq j i v (c j) := rfl
@[go_sem] theorem spI_A (c : Nat → Int) (o m : Nat) (d : Nat → Int) (j : Nat) : spI c o m d j = selLe o j (selLt j (o + m) (d (j - o)) (c j)) (c j) := by
  rw [spI_at, selLe, selLt]
  repeat' split
  all_goals first | rfl | (exfalso; omega)
@[go_sem ↓] theorem kc_getA (ks : Nat → IntKind) (n : Nat) (c : Nat → Int) (j : Nat) : (kc ks n c)[j]? = selLt j n (some (.int (ks j) (c j))) none := by rw [kc_get, selLt]
@[go_sem] theorem rowExt_fullA (cs : Array Value) (n : Nat) : rowExt cs 0 n = selEq cs.size n cs (rowExtX cs 0 n) := by rw [rowExt_full, selEq]
@[go_sem] theorem rowExt_kcA (ks : Nat → IntKind) (n : Nat) (c : Nat → Int) (o m : Nat) : rowExt (kc ks n c) o m = selLe (o + m) n (kc (fun j => ks (o + j)) m (fun j => c (o + j))) (rowExtX (kc ks n c) o m) := by rw [rowExt_kc, selLe]
@[go_sem high] theorem splice_fullA (cs vs : Array Value) : splice cs 0 vs = selEq vs.size cs.size vs (spliceX cs 0 vs) := by rw [splice_full', selEq]
@[go_sem] theorem sk_A (j : Nat) : sk j = selLt j 2 .i8 (selLt j 258 .i16 .u8) := rfl
@[go_sem] theorem pk_A (j : Nat) : pk j = selLt j 2 .i8 .u8 := rfl
@[go_sem] theorem row_allocA (w : World) (o : Obj) (b : Nat) : rowOf (w.alloc o) b = selEq b w.heap.size (objRow o) (rowOf w b) := by rw [row_alloc, selEq]
@[go_sem] theorem fr_allocA (w : World) (o : Obj) (b : Nat) : frOf (w.alloc o) b = selEq b w.heap.size (objFr o) (frOf w b) := by rw [fr_alloc, selEq]
@[go_sem] theorem row_setCellA (w : World) (g i : Nat) (v : Value) (b : Nat) : rowOf (w.setCell ⟨g, i, none⟩ v) b = selEq b g ((rowOf w g).setIfInBounds i v) (rowOf w b) := by rw [row_setCell, selEq]
/-- A whole row laid anew ('0 < its size' is asked as a test: it holds of every row that is stored into). -/
def rowOfY (w : World) (g : Nat) (cs : Array Value) (b : Nat) : Array Value := rowOf (w.setRow g cs) b
@[go_sem] theorem row_setRowA (w : World) (g : Nat) (cs : Array Value) (b : Nat) : rowOf (w.setRow g cs) b = selLt 0 (rowOf w g).size (selEq b g cs (rowOf w b)) (rowOfY w g cs b) := by
  rw [selLt, selEq]
  split
  · rename_i h; exact row_setRow w g cs b h
  · rfl
/-- Behind a call that turned nothing below B. -/
theorem keep_rowA {B : Nat} {w w' : World} (h : Below B w w') (b : Nat) : rowOf w' b = selLt b B (rowOf w b) (rowOfX w' b) := by rw [selLt]; exact below_row h b
theorem keep_frA {B : Nat} {w w' : World} (h : Below B w w') (b : Nat) : frOf w' b = selLt b B (frOf w b) (frOfX w' b) := by rw [selLt]; exact below_fr h b
attribute [go_sem ↓] cell_row frozen_row
attribute [go_sem] indexed elemOne loaded storedRow row_drew fr_drew row_drewN fr_drewN fr_setCell fr_setRow objRow objFr
end Go.Proofs.YtejnejplofddnaaGreatDoor
