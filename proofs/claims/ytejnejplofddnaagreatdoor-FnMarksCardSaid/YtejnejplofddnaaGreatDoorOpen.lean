/- How an argument of many integers reads: whatever can be read as such a type is a row of integers of its kinds. And: a law's row out of a walk that returns true and turns nothing that was there. No program. -/
import Derived.Test.YtejnejplofddnaaGreatDoorMem
import Derived.ProofKit
import Derived.OpenShut
import Derived.Carry
namespace Go.Proofs.YtejnejplofddnaaGreatDoor
open Go.RowKit Go.ChangeShapes Go.WideShapes Go.ChangeAt
set_option linter.unusedSimpArgs false
set_option linter.unusedVariables false

/-- The kinds of the integers that a type is made of, one behind the other; none if it is not made of integers alone. -/
def flatKinds (P : Program) : Nat → TypeId → Option (List IntKind)
  | 0, _ => none
  | n + 1, t =>
    match P.underlying t with
    | some (.int k) => some [k]
    | some (.array m e) => (flatKinds P n e).bind fun ks => if ks.length = P.cellsOf e then some ((List.replicate m ks).flatten) else none
    | some (.struct fs) => fs.toList.foldr (fun f r => (flatKinds P n f.type).bind fun ks => r.bind fun r => if ks.length = P.cellsOf f.type then some ((f.offset, ks) :: r) else none) (some []) |>.bind fun l =>
        if (l.foldl (fun (o : Option Nat) x => o.bind fun o => if x.1 = o then some (o + x.2.length) else none) (some 0)).isSome then some (l.flatMap (·.2)) else none
    | _ => none

/-- The cells are integers of these kinds, each of which its kind holds. -/
def FitKinds (cs : List Value) (ks : List IntKind) : Prop := cs.length = ks.length ∧ ∀ (j : Nat) (k : IntKind), ks[j]? = some k → ∃ z : Int, cs[j]? = some (Value.int k z) ∧ (Lit.int k z).wf = true

theorem FitKinds.nil : FitKinds [] [] := ⟨rfl, fun j k h => by simp at h⟩
theorem FitKinds.append {a b : List Value} {ks ls : List IntKind} (h : FitKinds a ks) (g : FitKinds b ls) : FitKinds (a ++ b) (ks ++ ls) := by
  refine ⟨by simp [h.1, g.1], fun j k hj => ?_⟩
  by_cases hlt : j < ks.length
  · rw [List.getElem?_append_left hlt] at hj
    rw [List.getElem?_append_left (by rw [h.1]; exact hlt)]
    exact h.2 j k hj
  · rw [List.getElem?_append_right (by omega)] at hj
    rw [List.getElem?_append_right (by rw [h.1]; omega), h.1]
    exact g.2 _ k hj

section
variable {H : Type} {enc : TypeId × Value → H} {P : Program} {w : World} {base : Nat} {spare : Nat → Bool} {held : Bool}

theorem fit_array (ks : List IntKind) (cs : List Value) (m : Nat) (h : ∀ i, i < m → FitKinds ((cs.drop (i * ks.length)).take ks.length) ks) (hl : cs.length = m * ks.length) : FitKinds cs (List.replicate m ks).flatten := by
  induction m generalizing cs with
  | zero =>
    have : cs = [] := List.length_eq_zero_iff.1 (by simpa using hl)
    subst this
    exact FitKinds.nil
  | succ m ih =>
    have h0 := h 0 (by omega)
    simp only [Nat.zero_mul, List.drop_zero] at h0
    rw [List.replicate_succ, List.flatten_cons, ← List.take_append_drop ks.length cs]
    refine h0.append (ih _ (fun i hi => ?_) ?_)
    · have := h (i + 1) (by omega)
      rwa [List.drop_drop, Nat.add_comm, ← Nat.succ_mul]
    · rw [List.length_drop, hl, Nat.succ_mul]; omega

theorem fit_fields (l : List (Nat × List IntKind)) (cs : List Value) (o : Nat) (r : Nat) (hr : l.foldl (fun (o : Option Nat) x => o.bind fun o => if x.1 = o then some (o + x.2.length) else none) (some o) = some r)
    (h : ∀ x ∈ l, FitKinds ((cs.drop x.1).take x.2.length) x.2) (hl : cs.length = r) : FitKinds (cs.drop o) (l.flatMap (·.2)) := by
  induction l generalizing o with
  | nil =>
    simp only [List.foldl_nil, Option.some.injEq] at hr
    rw [List.drop_eq_nil_of_le (by omega)]
    exact FitKinds.nil
  | cons x l ih =>
    simp only [List.foldl_cons, Option.bind_some] at hr
    by_cases hx : x.1 = o
    · rw [if_pos hx] at hr
      have h0 := h x (by simp)
      rw [hx] at h0
      rw [List.flatMap_cons, ← List.take_append_drop x.2.length (cs.drop o), List.drop_drop]
      exact h0.append (ih (o + x.2.length) hr (fun y hy => h y (by simp [hy])))
    · rw [if_neg hx] at hr
      exfalso
      clear ih h
      induction l with
      | nil => simp at hr
      | cons y l ih => simp at hr; exact ih (by simpa using hr)

theorem fields_mem (n : Nat) (fs : List Field) (l : List (Nat × List IntKind))
    (h : fs.foldr (fun f r => (flatKinds P n f.type).bind fun ks => r.bind fun r => if ks.length = P.cellsOf f.type then some ((f.offset, ks) :: r) else none) (some []) = some l) :
    ∀ x ∈ l, ∃ f ∈ fs, f.offset = x.1 ∧ flatKinds P n f.type = some x.2 ∧ x.2.length = P.cellsOf f.type := by
  induction fs generalizing l with
  | nil => simp at h; subst h; simp
  | cons f fs ih =>
    simp only [List.foldr_cons, Option.bind_eq_some_iff] at h
    obtain ⟨ks, hk, r, hr, h⟩ := h
    split at h
    · rename_i hlen
      simp only [Option.some.injEq] at h
      subst h
      intro x hx
      rcases List.mem_cons.1 hx with rfl | hx
      · exact ⟨f, by simp, rfl, hk, hlen⟩
      · obtain ⟨g, hg, h1⟩ := ih r hr x hx
        exact ⟨g, by simp [hg], h1⟩
    · cases h

theorem flat_reads : ∀ (n : Nat) (t : TypeId) (ks : List IntKind), flatKinds P n t = some ks → ∀ {fuel : Nat} {cs : List Value} {x : DataW H × List MemPlace}, ks.length = P.cellsOf t → DataW.trod enc P w base spare held fuel t cs = some x → FitKinds cs ks
  | 0, _, _, h, _, _, _, _, _ => by simp [flatKinds] at h
  | n + 1, t, ks, h, fuel, cs, x, hlen, hx => by
    unfold flatKinds at h
    cases hu : P.underlying t with
    | none => simp [hu] at h
    | some d =>
      simp only [hu] at h
      cases d with
      | int k =>
        simp only [Option.some.injEq] at h
        subst h
        obtain ⟨z, rfl, _, hw⟩ := DataW.trod_int hu hx
        exact ⟨rfl, fun j k' hj => by
          cases j with
          | zero => simp at hj; subst hj; exact ⟨z, rfl, hw⟩
          | succ j => simp at hj⟩
      | array m e =>
        simp only [Option.bind_eq_some_iff] at h
        obtain ⟨es, he, h⟩ := h
        split at h
        · rename_i hel
          simp only [Option.some.injEq] at h
          subst h
          obtain ⟨xs, q, rfl, _, hcl, hxl, hi⟩ := DataW.trod_array hu hx
          refine fit_array es cs m (fun i hi' => ?_) (by rw [hcl, ← hlen]; simp)
          have := hi i hi'
          rw [← hel] at this
          obtain ⟨y, hy⟩ : ∃ y, xs[i]? = some y := ⟨xs[i]'(by omega), by simp [List.getElem?_eq_getElem (show i < xs.length by omega)]⟩
          rw [hy] at this
          exact flat_reads n e es he hel this
        · cases h
      | struct fs =>
        simp only [Option.bind_eq_some_iff] at h
        obtain ⟨l, hl, h⟩ := h
        split at h
        · rename_i hsome
          simp only [Option.some.injEq] at h
          subst h
          obtain ⟨r, hr⟩ := Option.isSome_iff_exists.1 hsome
          obtain ⟨xs, q, rfl, _, hcl, hxl, hi⟩ := DataW.trod_struct hu hx
          have key : ∀ (l : List (Nat × List IntKind)) (o r : Nat), l.foldl (fun (o : Option Nat) x => o.bind fun o => if x.1 = o then some (o + x.2.length) else none) (some o) = some r → o + (l.flatMap (·.2)).length = r := by
            intro l
            induction l with
            | nil => intro o r h; simp at h; simp [h]
            | cons y l ih =>
              intro o r h
              simp only [List.foldl_cons, Option.bind_some] at h
              split at h
              · have := ih _ _ h; simp only [List.flatMap_cons, List.length_append]; omega
              · exfalso
                clear ih
                induction l with
                | nil => simp at h
                | cons z l ih => simp at h; exact ih (by simpa using h)
          have hlr := key l 0 r hr
          have := fit_fields l cs 0 r hr (fun y hy => by
            obtain ⟨f, hf, h1, h2, h3⟩ := fields_mem n fs.toList l hl y hy
            obtain ⟨i, hi'⟩ := List.getElem?_of_mem hf
            have hq := hi i f (by simpa using hi')
            have hil : i < fs.size := by have := (List.getElem?_eq_some_iff.1 hi').1; simpa using this
            obtain ⟨z, hz⟩ : ∃ z, xs[i]? = some z := ⟨xs[i]'(by omega), by simp [List.getElem?_eq_getElem (show i < xs.length by omega)]⟩
            rw [hz, h1, ← h3] at hq
            exact flat_reads n f.type y.2 h2 h3 hq) (by rw [hcl, ← hlen]; omega)
          simpa using this
        · cases h
      | _ => simp at h
end

/-- Of numbers that its kind holds. -/
def FitRow (ks : Nat → IntKind) (n : Nat) (c : Nat → Int) : Prop := ∀ j, j < n → (Lit.int (ks j) (c j)).wf = true

theorem row_of_fit {n : Nat} {ks : Nat → IntKind} {cs : Array Value} (h : FitKinds cs.toList ((List.range n).map ks)) : ∃ c : Nat → Int, cs = kc ks n c ∧ FitRow ks n c := by
  have hj : ∀ j, j < n → ∃ z, cs[j]? = some (.int (ks j) z) ∧ (Lit.int (ks j) z).wf = true := fun j hj => by
    have := h.2 j (ks j) (by simp [hj])
    simpa using this
  refine ⟨fun j => if hlt : j < n then (hj j hlt).choose else 0, ?_, ?_⟩
  · refine kc_of_size cs (by have := h.1; simpa using this) (fun j hlt => ?_)
    simp only [hlt, dite_true]
    exact (hj j hlt).choose_spec.1
  · intro j hlt
    simp only [hlt, dite_true]
    exact (hj j hlt).choose_spec.2

/-- 'flatKinds' as a closed fact. -/
def isFlat (P : Program) (t : TypeId) (n : Nat) (ks : Nat → IntKind) : Bool := flatKinds P 8 t == some ((List.range n).map ks) && decide (P.cellsOf t = n)

theorem open_flat {H : Type} {enc : TypeId × Value → H} {P : Program} {w W : World} {base b0 : Nat} {spare : Nat → Bool} {held : Bool} {r : Reach} {t : TypeId} {n : Nat} {ks : Nat → IntKind} {v : Value} {d : DataW H} {p : List MemPlace}
    (hf : isFlat P t n ks = true) (hagg : (match P.underlying t with | some (.struct _) | some (.array _ _) => true | _ => false) = true) (hv : Value.okWide P W r b0 t v) (h : DataW.Trod enc P w base spare held t v d p) : ∃ c : Nat → Int, v = .agg (kc ks n c) ∧ FitRow ks n c := by
  unfold isFlat at hf
  simp only [Bool.and_eq_true, beq_iff_eq, decide_eq_true_eq] at hf
  unfold Value.okWide at hv
  have hcs : ∃ cs, v = .agg cs := by
    cases hu : P.underlying t with
    | none => simp [hu] at hagg
    | some d =>
      rw [hu] at hv
      cases d with
      | struct fs => obtain ⟨cs, hc, _⟩ := hv; exact ⟨cs, hc⟩
      | array m e => obtain ⟨cs, hc, _⟩ := hv; exact ⟨cs, hc⟩
      | _ => simp [hu] at hagg
  obtain ⟨cs, rfl⟩ := hcs
  obtain ⟨fuel, hx⟩ := h
  have := flat_reads 8 t _ hf.1 (by simp [hf.2]) hx
  simp only [Value.cells] at this
  obtain ⟨c, rfl, hc⟩ := row_of_fit this
  exact ⟨c, rfl, hc⟩

/-! ### what 'of its kind' says in numbers -/
theorem bd_i8 {n : Int} (h : (Lit.int .i8 n).wf = true) : -128 ≤ n ∧ n ≤ 127 := by simpa [Lit.wf, IntKind.min, IntKind.max, IntKind.signed, IntKind.bits] using h
theorem bd_i16 {n : Int} (h : (Lit.int .i16 n).wf = true) : -32768 ≤ n ∧ n ≤ 32767 := by simpa [Lit.wf, IntKind.min, IntKind.max, IntKind.signed, IntKind.bits] using h
theorem bd_u8 {n : Int} (h : (Lit.int .u8 n).wf = true) : 0 ≤ n ∧ n ≤ 255 := by simpa [Lit.wf, IntKind.min, IntKind.max, IntKind.signed, IntKind.bits] using h
theorem fit64 {n : Int} (h : (Lit.int .i64 n).wf = true) : -9223372036854775808 ≤ n ∧ n ≤ 9223372036854775807 := by simpa [Lit.wf, IntKind.min, IntKind.max, IntKind.signed, IntKind.bits] using h
/-- The numbers of a sheet, of a picture, are of their kinds. -/
structure FitSheet (c : Nat → Int) : Prop where
  side : ∀ j, j < 2 → -128 ≤ c j ∧ c j ≤ 127
  cell : ∀ j, 2 ≤ j → j < 258 → -32768 ≤ c j ∧ c j ≤ 32767
  wax : ∀ j, 258 ≤ j → j < 266 → 0 ≤ c j ∧ c j ≤ 255
structure FitPicture (c : Nat → Int) : Prop where
  side : ∀ j, j < 2 → -128 ≤ c j ∧ c j ≤ 127
  cell : ∀ j, 2 ≤ j → j < 66 → 0 ≤ c j ∧ c j ≤ 255
theorem fitSheet {c : Nat → Int} (h : FitRow sk 266 c) : FitSheet c where
  side j hj := by have := h j (by omega); unfold sk at this; rw [if_pos hj] at this; exact bd_i8 this
  cell j h1 h2 := by have := h j (by omega); unfold sk at this; rw [if_neg (by omega), if_pos h2] at this; exact bd_i16 this
  wax j h1 h2 := by have := h j (by omega); unfold sk at this; rw [if_neg (by omega), if_neg (by omega)] at this; exact bd_u8 this
theorem fitPicture {c : Nat → Int} (h : FitRow pk 66 c) : FitPicture c where
  side j hj := by have := h j (by omega); unfold pk at this; rw [if_pos hj] at this; exact bd_i8 this
  cell j h1 h2 := by have := h j (by omega); unfold pk at this; rw [if_neg (by omega)] at this; exact bd_u8 this
theorem wf_of_i8 {n : Int} (h : -128 ≤ n ∧ n ≤ 127) : (Lit.int .i8 n).wf = true := WalkArith.wf_i8 h
theorem rowSheet {c : Nat → Int} (h : FitSheet c) : FitRow sk 266 c := fun j hj => by
  unfold sk
  split
  · rename_i h1; exact WalkArith.wf_i8 (h.side j h1)
  · split
    · rename_i h1 h2; exact WalkArith.wf_i16 (h.cell j (by omega) h2)
    · rename_i h1 h2; exact WalkArith.wf_u8 (h.wax j (by omega) hj)
theorem rowPicture {c : Nat → Int} (h : FitPicture c) : FitRow pk 66 c := fun j hj => by
  unfold pk
  split
  · rename_i h1; exact WalkArith.wf_i8 (h.side j h1)
  · rename_i h1; exact WalkArith.wf_u8 (h.cell j (by omega) hj)
theorem fitSpot {c : Nat → Int} (h : FitRow (fun _ => .i8) 2 c) : (-128 ≤ c 0 ∧ c 0 ≤ 127) ∧ -128 ≤ c 1 ∧ c 1 ≤ 127 := ⟨bd_i8 (h 0 (by omega)), bd_i8 (h 1 (by omega))⟩

/-! ### the row of a law -/
section
variable {H : Type} {enc : TypeId × Value → H} {P : Program}
theorem trodAll_stays (hl : laidOutB P = true) {W W' : World} {sp : Nat → Bool} : ∀ (ts : List TypeId) (vs : List Value) (ds : List (DataW H)) (ps : List MemPlace), (ts.all fun t => P.readableRec t && decide (t < P.types.size)) = true →
    DataW.TrodAll enc P W 0 (fun _ => true) true ts vs ds ps → (∀ p ∈ ps, W.sameAt W' p) → (∀ p ∈ ps, sp p.block = true) → DataW.TrodAll enc P W' 0 sp true ts vs ds ps
  | [], [], [], ps, _, h, _, _ => h
  | t :: ts, v :: vs, d :: ds, ps, hr, ⟨p, q, h1, h2, hp⟩, hs, hsp => by
    simp only [List.all_cons, Bool.and_eq_true, decide_eq_true_eq] at hr
    subst hp
    exact ⟨p, q, WideElems.Trod_stays hl hr.1.1 hr.1.2 h1 (fun x hx => hs x (by simp [hx])) (fun x hx => hsp x (by simp [hx])),
      trodAll_stays hl ts vs ds q (by simpa using hr.2) h2 (fun x hx => hs x (by simp [hx])) (fun x hx => hsp x (by simp [hx])), rfl⟩
  | [], _ :: _, _, _, _, h, _, _ => h.elim
  | [], [], _ :: _, _, _, h, _, _ => h.elim
  | _ :: _, [], _, _, _, h, _, _ => h.elim
  | _ :: _, _ :: _, [], _, _, h, _, _ => h.elim
theorem trodAll_length {W : World} {b : Nat} {sp : Nat → Bool} {hd : Bool} : ∀ (ts : List TypeId) (vs : List Value) (ds : List (DataW H)) (ps : List MemPlace), DataW.TrodAll enc P W b sp hd ts vs ds ps → ds.length = ts.length
  | [], [], [], _, _ => rfl
  | _ :: ts, _ :: vs, _ :: ds, _, ⟨_, q, _, h2, _⟩ => by simp [trodAll_length ts vs ds q h2]
  | [], _ :: _, _, _, h => h.elim
  | [], [], _ :: _, _, h => h.elim
  | _ :: _, [], _, _, h => h.elim
  | _ :: _, _ :: _, [], _, h => h.elim

theorem law_post {f : Func} {s : ChangeSpec} {W W' : World} {args : Array Value} {ds gs : List (DataW H)} {before : List MemPlace} {tb : TypeId} (hl : laidOutB P = true)
    (hread : (f.params.toList.all fun t => P.readableRec t && decide (t < P.types.size)) = true) (hv : s.vars = []) (hr : f.resultTypes = #[tb]) (htb : P.underlying tb = some .bool)
    (hfn : ∀ ds : List (DataW H), ds.length = f.params.size → s.fn H (ds ++ []) = { results := [.lit (.bool true)], args := ds })
    (hW : DataW.Whole enc P f.params.toList s.vars false W args.toList ds gs before) (hb : Below W.heap.size W W') : s.post enc P f false true false false W args (.bool true) W' := by
  have hW0 := hW
  obtain ⟨p, q, hA, hV, hpq, hfz, hnd⟩ := hW
  have hlt : ∀ x ∈ before, x.block < W.heap.size := fun x hx => hW0.lt x hx
  rw [hv] at hV
  obtain ⟨rfl, rfl⟩ := trodVars_none hV
  simp only [List.append_nil] at hpq
  subst hpq
  have hfn' := hfn ds (by rw [trodAll_length _ _ _ _ hA, Array.length_toList])
  have hold : ∀ x ∈ before, (fun b => decide (b < W.heap.size)) x.block = true := fun x hx => by simpa using hlt x hx
  have hres : ∀ (b : Nat) (sp : Nat → Bool) (hd : Bool), DataW.TrodAll enc P W' b sp hd f.resultTypes.toList ((Value.bool true).resultList f.resultTypes.size) (s.fn H (ds ++ [])).results [] := fun b sp hd => by
    rw [hfn', hr]
    exact trodAll_cons_mk (shut_bool htb true) trodAll_mk0
  have hargs : ∀ sp : Nat → Bool, (∀ x ∈ before, sp x.block = true) → DataW.TrodAll enc P W' 0 sp true f.params.toList args.toList (s.fn H (ds ++ [])).args before := fun sp hsp => by
    rw [hfn']
    exact trodAll_stays hl _ _ _ _ hread hA (fun x hx => hb.same (hlt x hx)) hsp
  have hvars : ∀ sp : Nat → Bool, DataW.TrodVars enc P W' sp s.vars (s.fn H (ds ++ [])).vars [] := fun sp => by
    rw [hfn', hv]; rfl
  refine ⟨ds, [], before, [], before, [], by simpa using hW0, hres _ _ _, hargs _ hold, hvars _, World.keptBut_mono (fun p hp => ⟨hp, ?_⟩) (hb.frame (· ∈ before)), fun h => by cases h⟩
  simp [hp]
end
end Go.Proofs.YtejnejplofddnaaGreatDoor
