/- How arguments are read, and a law's last step: they read behind the call as before. -/
import Derived.ProofKit
import Derived.OpenShut
import Derived.Below
import Derived.Deep.Slices
import Derived.Deep.Fields
import Derived.Lib.SmallJoins
namespace Go.Proofs.YtomfnldlnoiloaaDoor
set_option linter.unusedVariables false
set_option linter.unusedSimpArgs false
open Go Go.ChangeShapes Go.WideShapes Go.ChangeAt Go.RowKit Go.Deep

section
variable {H : Type} {enc : TypeId × Value → H} {P : Program}

theorem trodAll_below (hl : laidOutB P = true) {W W' : World} (hb : Below W.heap.size W W') : ∀ (ts : List TypeId) (vs : List Value) (ds : List (DataW H)) (ps : List MemPlace),
    (∀ t ∈ ts, P.readableRec t = true ∧ t < P.types.size) → DataW.TrodAll enc P W 0 (fun _ => true) true ts vs ds ps → (∀ x ∈ ps, x.block < W.heap.size) →
    ∀ sp : Nat → Bool, (∀ x ∈ ps, sp x.block = true) → DataW.TrodAll enc P W' 0 sp true ts vs ds ps
  | [], vs, ds, ps, _, h, _, sp, _ => by
    obtain ⟨rfl, rfl, rfl⟩ := trodAll_nil h
    exact trodAll_mk0
  | t :: ts, vs, ds, ps, ht, h, hlt, sp, hsp => by
    obtain ⟨v, vs', d, ds', p, q, rfl, rfl, rfl, h1, h2⟩ := trodAll_cons h
    obtain ⟨hr, hrow⟩ := ht t (by simp)
    exact trodAll_cons_mk (WideElems.Trod_stays hl hr hrow h1 (fun x hx => hb.same (hlt x (by simp [hx]))) (fun x hx => hsp x (by simp [hx])))
      (trodAll_below hl hb ts vs' ds' q (fun t ht' => ht t (by simp [ht'])) h2 (fun x hx => hlt x (by simp [hx])) sp (fun x hx => hsp x (by simp [hx])))

/-- The call said true, and let all that was there be. -/
theorem law_post (hl : laidOutB P = true) {f : Func} {s : ChangeSpec} {fresh handsOn again apart : Bool} {W W' : World} {args : Array Value} {tb : TypeId} {ds gs : List (DataW H)} {before : List MemPlace}
    (hvars : s.vars = []) (hspec : s.fn H (ds ++ gs) = { results := [.lit (.bool true)], args := ds }) (hr : f.resultTypes = #[tb]) (htb : P.underlying tb = some .bool)
    (hread : ∀ t ∈ f.params.toList, P.readableRec t = true ∧ t < P.types.size) (hW : DataW.Whole enc P f.params.toList s.vars apart W args.toList ds gs before) (hb : Below W.heap.size W W') :
    s.post enc P f apart fresh handsOn again W args (.bool true) W' := by
  have hlt : ∀ p ∈ before, p.block < W.heap.size := fun p hp => hW.lt p hp
  have hW0 := hW
  obtain ⟨p, q, hA, hV, rfl, hz, hn⟩ := hW
  rw [hvars] at hV
  obtain ⟨rfl, rfl⟩ := trodVars_none hV
  simp only [List.append_nil] at *
  have hargs := trodAll_below hl hb _ _ _ _ hread hA hlt
  have hres : ∀ (b : Nat) (sp : Nat → Bool) (hd : Bool), DataW.TrodAll enc P W' b sp hd f.resultTypes.toList ((Value.bool true).resultList f.resultTypes.size) (s.fn H ds).results [] := fun b sp hd => by
    rw [hspec, hr]
    exact trodAll_mk1 (shut_bool htb true)
  have hv : ∀ sp : Nat → Bool, DataW.TrodVars enc P W' sp s.vars (s.fn H ds).vars [] := fun sp => by rw [hvars, hspec]; rfl
  have ha : ∀ sp : Nat → Bool, (∀ x ∈ p, sp x.block = true) → DataW.TrodAll enc P W' 0 sp true f.params.toList args.toList (s.fn H ds).args p := fun sp h => by rw [hspec]; exact hargs sp h
  have hold : ∀ x ∈ p, (fun b => decide (b < W.heap.size)) x.block = true := fun x hx => by simpa using hlt x hx
  refine ⟨ds, [], p, [], p, [], hW0, by rw [List.append_nil]; exact hres _ _ _, by rw [List.append_nil]; exact ha _ hold, by rw [List.append_nil]; exact hv _, World.keptBut_mono (fun x hx => ⟨hx, Or.inr (Or.inl hx)⟩) (hb.frame (· ∈ p)), fun _ => ?_⟩
  refine ⟨ok_one hr rfl (okWide_bool_mk htb true), _, _, ([] ++ p) ++ [], ⟨[] ++ p, [], trodAll_append (ha _ (fun _ _ => rfl)) (hres _ _ _), hv _, rfl, ?_, ?_⟩, ?_⟩
  · intro b off hp
    have hin : MemPlace.cell b off ∈ p := by simpa using hp
    rw [hb.frozen (hlt _ hin)]
    exact hz b off hin
  · intro h
    simpa using hn h
  · intro x hx _
    simpa using hx

/-! What comes in. -/
variable {w : World}
def isI64 : Option TypeDesc → Bool
  | some (.int .i64) => true
  | _ => false
theorem isI64_spec {o : Option TypeDesc} (h : isI64 o = true) : o = some (.int .i64) := by
  unfold isI64 at h
  split at h
  · rfl
  · cases h
/-- All cells of a value of type e are ints. -/
def AllInts (P : Program) (e : TypeId) (k : Nat) : Prop :=
  ∀ (H : Type) (enc : TypeId × Value → H) (w : World) (base : Nat) (spare : Nat → Bool) (held : Bool) (n : Nat) (cs : List Value) (y : DataW H × List MemPlace), DataW.trod enc P w base spare held n e cs = some y → cs.length = k →
    ∀ j, j < k → ∃ z : Int, cs[j]? = some (.int .i64 z) ∧ (Lit.int .i64 z).wf = true
theorem allInts_struct {e : TypeId} {fs : Array Field} {k : Nat} (he : P.underlying e = some (.struct fs)) (hone : oneCellFields P fs = true) (hk : fs.size = k) (hint : (fs.all fun f => isI64 (P.underlying f.type)) = true) : AllInts P e k := by
  intro H enc w base spare held n cs y h hcl j hj
  obtain ⟨ys, n2, hn2, hy, hlen, hyl, hf⟩ := DataW.trod_struct he h
  have hjs : j < fs.size := by omega
  obtain ⟨ho, hkk⟩ := hone_of hone j fs[j] (Array.getElem?_eq_getElem hjs)
  have h1 := hf j fs[j] (Array.getElem?_eq_getElem hjs)
  have hjc : j < cs.length := by omega
  have hone' : (cs.drop j).take 1 = [cs[j]] := by
    rw [List.drop_eq_getElem_cons hjc]
    rfl
  rw [ho, hkk, hone'] at h1
  have hys : ys[j]? = some (ys[j]'(by omega)) := List.getElem?_eq_getElem (by omega)
  have hi := isI64_spec (Array.all_eq_true.1 hint j hjs)
  obtain ⟨z, hz, _, hwf⟩ := DataW.trod_int hi (h1.trans hys)
  simp at hz
  exact ⟨z, by rw [List.getElem?_eq_getElem hjc, hz], hwf⟩
theorem allInts_int {e : TypeId} (he : P.underlying e = some (.int .i64)) : AllInts P e 1 := by
  intro H enc w base spare held n cs y h hcl j hj
  obtain ⟨z, hz, _, hwf⟩ := DataW.trod_int he h
  have : j = 0 := by omega
  subst this
  exact ⟨z, by rw [hz]; rfl, hwf⟩
/-- A struct of an int and a part whose cells are all ints. -/
theorem allInts_pair {e : TypeId} {f g : Field} {k m : Nat} (he : P.underlying e = some (.struct #[f, g])) (hf : f.offset = 0) (hfc : P.cellsOf f.type = k) (hg : g.offset = k) (hgc : P.cellsOf g.type = m) (h1 : AllInts P f.type k) (h2 : AllInts P g.type m) : AllInts P e (k + m) := by
  intro H enc w base spare held n cs y h hcl j hj
  obtain ⟨ys, n2, hn2, hy, hlen, hyl, hff⟩ := DataW.trod_struct he h
  have a1 := hff 0 f rfl
  have a2 := hff 1 g rfl
  rw [hf, hfc, List.drop_zero] at a1
  rw [hg, hgc] at a2
  have hyl' : ys.length = 2 := by simpa using hyl
  rw [List.getElem?_eq_getElem (show 0 < ys.length by omega)] at a1
  rw [List.getElem?_eq_getElem (show 1 < ys.length by omega)] at a2
  by_cases hjk : j < k
  · obtain ⟨z, hz, hwf⟩ := h1 H enc w base spare held _ _ _ a1 (by simp; omega) j hjk
    exact ⟨z, by rw [← hz, List.getElem?_take_of_lt hjk], hwf⟩
  · obtain ⟨z, hz, hwf⟩ := h2 H enc w base spare held _ _ _ a2 (by simp; omega) (j - k) (by omega)
    refine ⟨z, ?_, hwf⟩
    rw [← hz, List.getElem?_take_of_lt (by omega), List.getElem?_drop]
    congr 1
    omega

/-- The cells of a row of structs all of whose cells are ints. -/
theorem open_rows {t e : TypeId} {n : Nat} {v : Value} {x : DataW H × List MemPlace} {base : Nat} {spare : Nat → Bool} {held : Bool} {k : Nat} (ht : P.underlying t = some (.slice e))
    (hC : P.cellsOf e = k) (hk0 : 0 < k) (hint : AllInts P e k) (h : DataW.trod enc P w base spare held n t [v] = some x) :
    ∃ A len cap, v = .slice A len cap ∧ len ≤ 9223372036854775807 ∧ (0 < len → ∃ b off, A = some ⟨b, off, none⟩ ∧ b < w.heap.size ∧ ∀ i, i < len → ∀ j, j < k → ∃ z : Int, w.cell? ⟨b, off + i * k + j, none⟩ = some (.int .i64 z) ∧ (Lit.int .i64 z).wf = true) := by
  rcases open_slice ht h with ⟨hcs, _⟩ | ⟨a, len, cap, m, n', D, Pl, hcs, hb, hl, hm, hmm, hx, hi⟩
  · simp at hcs
    exact ⟨none, 0, 0, hcs, by omega, fun h => by omega⟩
  · simp at hcs
    subst hcs
    have hlm : len ≤ m := by rw [hmm]; split <;> omega
    have key : ∀ i, i < len → ∀ j, j < k → ∃ z : Int, w.cell? (a.add (i * k + j)) = some (.int .i64 z) ∧ (Lit.int .i64 z).wf = true := by
      intro i him j hj
      obtain ⟨cs', hc, ht'⟩ := hi i (by omega)
      obtain ⟨_, hcl, hat⟩ := World.cells?_some hc
      rw [hC] at hcl hat
      obtain ⟨z, hz, hwf⟩ := hint H enc w base spare held _ _ _ ht' hcl j hj
      refine ⟨z, ?_, hwf⟩
      have := hat j (by omega)
      rw [Go.Deep.add_add] at this
      rw [this, hz]
    refine ⟨some a, len, cap, rfl, by have : maxLen = 9223372036854775807 := rfl; omega, fun h0 => ?_⟩
    obtain ⟨z, hz, _⟩ := key 0 h0 0 hk0
    have hsp : a.spot = none := by simpa [Addr.add] using World.cell?_spot hz
    obtain ⟨b, off, spot⟩ := a
    simp only at hsp
    subst hsp
    refine ⟨b, off, rfl, ?_, fun i hi' j hj => ?_⟩
    · rcases Nat.lt_or_ge b w.heap.size with h | h
      · exact h
      · simp [Addr.add, World.cell?, Array.getElem?_eq_none h] at hz
    · obtain ⟨z, hz, hwf⟩ := key i hi' j hj
      refine ⟨z, ?_, hwf⟩
      rw [← hz]
      congr 1
      unfold Addr.add
      split
      · simp_all
      · simp; omega

theorem open_introw {t e : TypeId} {kd : IntKind} {n : Nat} {v : Value} {x : DataW H × List MemPlace} {base : Nat} {spare : Nat → Bool} {held : Bool} (ht : P.underlying t = some (.slice e)) (he : P.underlying e = some (.int kd))
    (hC : P.cellsOf e = 1) (h : DataW.trod enc P w base spare held n t [v] = some x) :
    ∃ A len cap, v = .slice A len cap ∧ len ≤ 9223372036854775807 ∧ (0 < len → ∃ b off, A = some ⟨b, off, none⟩ ∧ b < w.heap.size ∧ ∀ i, i < len → ∃ z : Int, w.cell? ⟨b, off + i, none⟩ = some (.int kd z) ∧ (Lit.int kd z).wf = true) := by
  rcases open_ints ht he hC h with ⟨hcs, _⟩ | ⟨a, len, cap, zs, hcs, hb, hl, hm, hzl, hx, hi, hwf⟩
  · simp at hcs
    exact ⟨none, 0, 0, hcs, by omega, fun h => by omega⟩
  · simp at hcs
    subst hcs
    have hlm : len ≤ zs.length := by rw [hzl]; split <;> omega
    refine ⟨some a, len, cap, rfl, by have : maxLen = 9223372036854775807 := rfl; omega, fun h0 => ?_⟩
    have hz := hi 0 (by omega)
    have hsp : a.spot = none := by simpa [Addr.add] using World.cell?_spot hz
    obtain ⟨b, off, spot⟩ := a
    simp only at hsp
    subst hsp
    refine ⟨b, off, rfl, ?_, fun i hi' => ⟨zs.getD i 0, ?_, hwf _ ?_⟩⟩
    · rcases Nat.lt_or_ge b w.heap.size with h | h
      · exact h
      · simp [Addr.add, World.cell?, Array.getElem?_eq_none h] at hz
    · rw [← hi i (by omega)]
      congr 1
      unfold Addr.add
      split <;> simp_all
    · have : i < zs.length := by omega
      simp [List.getD, this]
theorem open_intf {t : TypeId} {kd : IntKind} {n : Nat} {v : Value} {x : DataW H × List MemPlace} {base : Nat} {spare : Nat → Bool} {held : Bool} (ht : P.underlying t = some (.int kd)) (h : DataW.trod enc P w base spare held n t [v] = some x) :
    ∃ z : Int, v = .int kd z ∧ (Lit.int kd z).wf = true := by
  obtain ⟨z, hz, _, hwf⟩ := DataW.trod_int ht h
  simp at hz
  exact ⟨z, hz, hwf⟩
/-- A struct's fields, each of one cell. -/
theorem open_struct {r : Reach} {b0 : Nat} {t : TypeId} {fs : Array Field} {v : Value} {d : DataW H} {p : List MemPlace} {base : Nat} {spare : Nat → Bool} {held : Bool} {k : Nat} (hs : P.underlying t = some (.struct fs)) (hone : oneCellFields P fs = true) (hC : P.cellsOf t = k) (hk : fs.size = k)
    (hv : Value.okWide P w r b0 t v) (h : DataW.Trod enc P w base spare held t v d p) :
    ∃ (l : List Value) (n : Nat), v = .agg l.toArray ∧ l.length = k ∧ ∀ (j : Nat) (f : Field) (u : Value), fs[j]? = some f → l[j]? = some u → ∃ y, DataW.trod enc P w base spare held n f.type [u] = some y := by
  obtain ⟨cs, rfl, hsz⟩ := okWide_struct hs hv
  obtain ⟨l⟩ := cs
  obtain ⟨fuel, hf⟩ := h
  obtain ⟨xs, n, _, hx, _, hlen, hg⟩ := DataW.trod_struct hs hf
  refine ⟨l, n, rfl, hsz.trans hC, fun j f u hj hu => ?_⟩
  obtain ⟨ho, hkk⟩ := hone_of hone j f hj
  have h1 := hg j f hj
  have hjl : j < l.length := (List.getElem?_eq_some_iff.1 hu).1
  have hjs : j < fs.size := (Array.getElem?_eq_some_iff.1 hj).1
  have hone' : (((Value.agg l.toArray).cells.toList).drop j).take 1 = [u] := by
    show (l.drop j).take 1 = [u]
    rw [List.drop_eq_getElem_cons hjl]
    simp [(List.getElem?_eq_some_iff.1 hu).2]
  rw [ho, hkk, hone'] at h1
  exact ⟨_, h1.trans (List.getElem?_eq_getElem (by omega))⟩
end

/-- The number in a cell. -/
def numAt (w : World) (b o : Nat) : Int := match w.cell? ⟨b, o, none⟩ with
  | some (.int _ n) => n
  | _ => 0
theorem numAt_of {w : World} {b o : Nat} {k : IntKind} {z : Int} (h : w.cell? ⟨b, o, none⟩ = some (.int k z)) : w.cell? ⟨b, o, none⟩ = some (.int k (numAt w b o)) := by
  unfold numAt
  rw [h]
end Go.Proofs.YtomfnldlnoiloaaDoor
