/- '==' on two values of a type of integers: whether all their numbers are alike. No program. -/
import Derived.Test.YtejnejplofddnaaGreatDoorOpen
import Derived.DeepKeys2
namespace Go.Proofs.YtejnejplofddnaaGreatDoor
open Go.RowKit
set_option linter.unusedSimpArgs false
set_option linter.unusedVariables false

def litOf : Value → Lit
  | .int k z => .int k z
  | _ => .bool false

theorem FitKinds.left {cs : List Value} {ks ls : List IntKind} (h : FitKinds cs (ks ++ ls)) : FitKinds (cs.take ks.length) ks := by
  have hl := h.1
  simp only [List.length_append] at hl
  refine ⟨by simp; omega, fun j k hj => ?_⟩
  have hlt : j < ks.length := (List.getElem?_eq_some_iff.1 hj).1
  obtain ⟨z, hz, hw⟩ := h.2 j k (by rw [List.getElem?_append_left hlt]; exact hj)
  exact ⟨z, by rw [List.getElem?_take, if_pos hlt]; exact hz, hw⟩
theorem FitKinds.right {cs : List Value} {ks ls : List IntKind} (h : FitKinds cs (ks ++ ls)) : FitKinds (cs.drop ks.length) ls := by
  have hl := h.1
  simp only [List.length_append] at hl
  refine ⟨by simp; omega, fun j k hj => ?_⟩
  obtain ⟨z, hz, hw⟩ := h.2 (ks.length + j) k (by rw [List.getElem?_append_right (by omega)]; simpa using hj)
  exact ⟨z, by rw [List.getElem?_drop]; exact hz, hw⟩

theorem fit_chunks (es : List IntKind) (m : Nat) (cs : List Value) (h : FitKinds cs (List.replicate m es).flatten) : ∀ i, i < m → FitKinds ((cs.drop (i * es.length)).take es.length) es := by
  induction m generalizing cs with
  | zero => intro i hi; omega
  | succ m ih =>
    intro i hi
    rw [List.replicate_succ, List.flatten_cons] at h
    cases i with
    | zero => simpa using h.left
    | succ i =>
      have := ih _ h.right i (by omega)
      rwa [List.drop_drop, Nat.add_comm, ← Nat.succ_mul] at this

theorem mapM_some_of {α β : Type} {f : α → Option β} {g : α → β} : ∀ (l : List α), (∀ x ∈ l, f x = some (g x)) → l.mapM f = some (l.map g)
  | [], _ => rfl
  | a :: l, h => by
    rw [List.mapM_cons, h a (by simp), mapM_some_of l (fun x hx => h x (by simp [hx]))]; rfl

section
variable {P : Program}
theorem fields_are (n : Nat) (fs : List Field) (l : List (Nat × List IntKind))
    (h : fs.foldr (fun f r => (flatKinds P n f.type).bind fun ks => r.bind fun r => if ks.length = P.cellsOf f.type then some ((f.offset, ks) :: r) else none) (some []) = some l) :
    l = fs.map (fun f => (f.offset, (flatKinds P n f.type).getD [])) ∧ ∀ f ∈ fs, ∃ ks, flatKinds P n f.type = some ks ∧ ks.length = P.cellsOf f.type := by
  induction fs generalizing l with
  | nil => simp at h; subst h; simp
  | cons f fs ih =>
    simp only [List.foldr_cons, Option.bind_eq_some_iff] at h
    obtain ⟨ks, hk, r, hr, h⟩ := h
    split at h
    · rename_i hlen
      simp only [Option.some.injEq] at h
      subst h
      obtain ⟨h1, h2⟩ := ih r hr
      refine ⟨by simp [h1, hk], fun g hg => ?_⟩
      rcases List.mem_cons.1 hg with rfl | hg
      · exact ⟨ks, hk, hlen⟩
      · exact h2 g hg
    · cases h

theorem fields_split (l : List (Nat × List IntKind)) (cs : List Value) (o r : Nat) (hr : l.foldl (fun (o : Option Nat) x => o.bind fun o => if x.1 = o then some (o + x.2.length) else none) (some o) = some r)
    (h : FitKinds (cs.drop o) (l.flatMap (·.2))) : (∀ x ∈ l, FitKinds ((cs.drop x.1).take x.2.length) x.2) ∧ (l.map fun x => (cs.drop x.1).take x.2.length).flatten = cs.drop o := by
  induction l generalizing o with
  | nil =>
    have := h.1
    simp only [List.flatMap_nil, List.length_nil] at this
    exact ⟨by simp, by simp [List.length_eq_zero_iff.1 this]⟩
  | cons x l ih =>
    simp only [List.foldl_cons, Option.bind_some] at hr
    by_cases hx : x.1 = o
    · rw [if_pos hx] at hr
      rw [List.flatMap_cons] at h
      obtain ⟨h1, h2⟩ := ih (o + x.2.length) hr (by have := h.right; rwa [List.drop_drop] at this)
      refine ⟨fun y hy => ?_, ?_⟩
      · rcases List.mem_cons.1 hy with rfl | hy
        · rw [hx]; exact h.left
        · exact h1 y hy
      · rw [List.map_cons, List.flatten_cons, h2, hx, ← List.drop_drop, List.take_append_drop]
    · rw [if_neg hx] at hr
      exfalso
      clear ih h
      induction l with
      | nil => simp at hr
      | cons y l ih => simp at hr; exact ih (by simpa using hr)

theorem flat_lits : ∀ (n : Nat) (t : TypeId) (ks : List IntKind), flatKinds P n t = some ks → P.keyTypeAt n t = true → ks.length = P.cellsOf t → ∀ (cs : List Value), FitKinds cs ks → P.keyLits n t cs = some (cs.map litOf)
  | 0, _, _, h, _, _, _, _ => by simp [flatKinds] at h
  | n + 1, t, ks, h, hk, hlen, cs, hf => by
    unfold flatKinds at h
    unfold Program.keyLits
    unfold Program.keyTypeAt at hk
    cases hu : P.underlying t with
    | none => simp [hu] at h
    | some d =>
      simp only [hu] at h hk
      cases d with
      | int k =>
        simp only [Option.some.injEq] at h
        subst h
        obtain ⟨z, hz, hw⟩ := hf.2 0 k rfl
        have hl := hf.1
        match cs, hl, hz with
        | [v], _, hz => simp at hz; subst hz; simp [hw, litOf]
      | array m e =>
        simp only [Option.bind_eq_some_iff] at h
        obtain ⟨es, he, h⟩ := h
        split at h
        · rename_i hel
          simp only [Option.some.injEq] at h
          subst h
          have hcl : cs.length = P.cellsOf t := hf.1.trans hlen
          have hcm : cs.length = m * es.length := by rw [hf.1]; simp
          have each : ∀ i ∈ List.range m, P.keyLits n e ((cs.drop (i * P.cellsOf e)).take (P.cellsOf e)) = some (((cs.drop (i * P.cellsOf e)).take (P.cellsOf e)).map litOf) := fun i hi => by
            rw [← hel]
            exact flat_lits n e es he (by simpa using hk) hel _ (fit_chunks es m cs hf i (List.mem_range.1 hi))
          have hmap := mapM_some_of _ each
          simp only [hcl, if_true, hmap, Option.map_some, Option.some.injEq]
          have hch := chunks_flatten es.length m cs hcm
          rw [hel] at hch
          conv => rhs; rw [← hch]
          rw [List.map_flatten, List.map_map]; rfl
        · cases h
      | struct fs =>
        simp only [Option.bind_eq_some_iff] at h
        obtain ⟨l, hl, h⟩ := h
        split at h
        · rename_i hsome
          simp only [Option.some.injEq] at h
          subst h
          obtain ⟨r, hr⟩ := Option.isSome_iff_exists.1 hsome
          obtain ⟨hle, hmem⟩ := fields_are n fs.toList l hl
          obtain ⟨hs1, hs2⟩ := fields_split l cs 0 r hr (by simpa using hf)
          have hcl : cs.length = P.cellsOf t := hf.1.trans hlen
          simp only [Bool.and_eq_true] at hk
          have hnm := Array.all_eq_true_iff_forall_mem.1 hk.1.1
          have each : ∀ f ∈ fs.toList, P.keyLits n f.type ((cs.drop f.offset).take (P.cellsOf f.type)) = some (((cs.drop f.offset).take (P.cellsOf f.type)).map litOf) := fun f hfm => by
            obtain ⟨es, he, hel⟩ := hmem f hfm
            have hk1 := hnm f (by simpa using hfm)
            simp only [Bool.and_eq_true] at hk1
            rw [← hel]
            have := hs1 (f.offset, es) (by rw [hle, List.mem_map]; exact ⟨f, hfm, by simp [he]⟩)
            exact flat_lits n f.type es he hk1.2 hel _ this
          have hmap := mapM_some_of _ each
          have hall : fs.all (fun x => x.name != "_") = true := Array.all_eq_true_iff_forall_mem.2 (fun f hfm => by
            have hk1 := hnm f hfm
            simp only [Bool.and_eq_true] at hk1
            exact hk1.1)
          simp only [hcl, hall, and_self, if_true, hmap, Option.map_some, Option.some.injEq]
          simp only [List.drop_zero] at hs2
          conv => rhs; rw [← hs2]
          rw [List.map_flatten, hle, List.map_map, List.map_map]
          congr 1
          apply List.map_congr_left
          intro f hfm
          obtain ⟨es, he, hel⟩ := hmem f hfm
          simp [he, hel]
        · cases h
      | _ => simp at h

theorem fit_kc (ks : Nat → IntKind) (n : Nat) (c : Nat → Int) (h : FitRow ks n c) : FitKinds (kc ks n c).toList ((List.range n).map ks) := by
  refine ⟨by simp [kc_size], fun j k hj => ?_⟩
  have hlt : j < n := by have := (List.getElem?_eq_some_iff.1 hj).1; simpa using this
  have hk : ks j = k := by simpa [hlt] using hj
  subst hk
  refine ⟨c j, ?_, h j hlt⟩
  rw [Array.getElem?_toList, kc_get, if_pos hlt]

/-- All numbers of two rows are alike. -/
def eqRow (n : Nat) (c d : Nat → Int) : Bool := (List.range n).all fun j => c j == d j
theorem eqRow_true {n : Nat} {c d : Nat → Int} : eqRow n c d = true ↔ ∀ j, j < n → c j = d j := by simp [eqRow]

theorem kc_lits (ks : Nat → IntKind) (n : Nat) (c d : Nat → Int) : (kc ks n c).toList.map litOf = (kc ks n d).toList.map litOf ↔ ∀ j, j < n → c j = d j := by
  simp only [kc, mk, List.map_map, Function.comp_def, litOf]
  constructor
  · intro h j hj
    have := congrArg (fun l : List Lit => l[j]?) h
    simp [hj] at this
    exact this
  · intro h
    apply List.map_congr_left
    intro j hj
    rw [h j (List.mem_range.1 hj)]

/-- The test '==' on two values of a flat type. -/
theorem run_eql_flat {t : TypeId} {n : Nat} {ks : Nat → IntKind} (hf : isFlat P t n ks = true) (hk : P.keyTypeAt 8 t = true)
    (hw : (match P.underlying t with | some (.array _ _) | some (.struct _) => true | _ => false) = true) (c d : Nat → Int) (hc : FitRow ks n c) (hd : FitRow ks n d) (w : World) :
    (Op.equal t (.agg (kc ks n c)) (.agg (kc ks n d))).run P w = .ok (eqRow n c d) w := by
  unfold isFlat at hf
  simp only [Bool.and_eq_true, beq_iff_eq, decide_eq_true_eq] at hf
  have h1 := flat_lits 8 t _ hf.1 hk (by simp [hf.2]) _ (fit_kc ks n c hc)
  have h2 := flat_lits 8 t _ hf.1 hk (by simp [hf.2]) _ (fit_kc ks n d hd)
  have form : ∀ c : Nat → Int, (Value.agg (kc ks n c)).formed P t = true := fun c => by
    unfold Value.formed
    split at hw <;> simp_all [kc_size]
  obtain ⟨r, hr, hiff⟩ := run_equalIn_deep (10000 - 8) 8 t hk w _ _ (.agg (kc ks n c)) (.agg (kc ks n d)) _ _ (form c) (form d) h1 h2
  have : r = eqRow n c d := by
    rw [Bool.eq_iff_iff, hiff, eqRow_true, kc_lits]
  subst this
  exact hr
end
end Go.Proofs.YtejnejplofddnaaGreatDoor
