/- The sort of the runs. -/
import Derived.Test.YtfebhofihioaoaaS17
import Derived.Test.YtfebhofihioaoaaSh
import Derived.Shelf.SlSortCmp.WholeK
import Derived.Shelf.SlSortCmp.NoneTotal
namespace Go.Proofs.Ytfebhofihioaoaa
set_option linter.unusedVariables false
set_option linter.unusedSimpArgs false
open Go Go.RowKit Go.Sort

theorem grow_below (w : World) (os : Array Obj) : RowKit.Below w.heap.size w (grow w os) :=
  ⟨rfl, rfl, rfl, by simp [grow], fun k hk => heap_grow_old w os hk⟩
theorem compare54_g (a b c d : Int) (w : World) : Calls Try.prog 54 #[.agg #[I a, I b], .agg #[I c, I d]] w fun e w' => e = .returned (I (cmpI a c)) ∧ ∃ os, w' = grow w os := by
  have HN : Hid (∀ (x y : Int) (W : World), Calls Try.prog 55 #[I x, I y] W fun e w' => e = .returned (I (cmpI x y)) ∧ W = w') := Lib.hid cmp55
  go_enter Try.func54, Try.ntmps54
  go_wp2_with (first
    | (go_at_call 55; refine (HN.out _ _ _).mono ?_; rintro e w1 ⟨rfl, rfl⟩)
    | fail)
  go_ret
  exact ⟨rfl, _, by rw [alloc_eq_grow, alloc_eq_grow, grow_grow]⟩
def encR (x : Int × Int) : List Value := [I x.1, I x.2]
def cfR (x y : Int × Int) : Int := cmpI x.1 y.1
theorem ltR (x y : Int × Int) : ltOf cfR x y = decide (x.1 < y.1) := by
  unfold ltOf cfR cmpI
  by_cases h : x.1 < y.1
  · simp [h]
  · by_cases h2 : y.1 < x.1 <;> simp [h, h2]
theorem swoR : SWO (ltOf cfR) where
  irrefl x := by rw [ltR]; simp
  trans x y z h1 h2 := by rw [ltR] at *; simp at *; omega
  ntrans x y z h1 h2 := by rw [ltR] at *; simp at *; omega
theorem cmpLays54 (blk off size : Nat) (w : World) : Proofs.CmpLays Try.prog 54 #[] encR 2 cfR blk off size w := by
  intro m os dk _ x y
  refine (compare54_g x.1 x.2 y.1 y.2 _).mono ?_
  rintro e w' ⟨rfl, os, rfl⟩
  exact ⟨rfl, 0, os, rfl⟩
theorem isAgg87 (w : World) : (isAgg 87).run Try.prog w = .ok true w := by kernel_rfl
theorem sizeOf87 (w : World) : (Go.sizeOf 87).run Try.prog w = .ok 2 w := by kernel_rfl
theorem sort53 (blk cap : Nat) (d : Array (Int × Int)) (w : World) (hH : HoldsK encR 2 w blk 0 d) (hblk : blk < w.heap.size) (hsz : d.size < 1000000) :
    Calls Try.prog 53 #[.slice (some ⟨blk, 0, none⟩) d.size cap, .func (.func 54) #[] #[]] w fun e w' =>
      e = .returned (.tuple #[]) ∧ ∃ d' n os, PermIn 0 d.size d d' ∧ SortedIn (ltOf cfR) 0 d.size d' ∧ w' = sortWorldK encR 2 w blk 0 n d' os :=
  Proofs.AnyQ.slices_SortFunc Proofs.Try.sortR 2 isAgg87 sizeOf87 encR (fun _ => rfl) (fun x v hv => by simp [encR] at hv; rcases hv with rfl | rfl <;> rfl) cfR swoR 54 #[] blk 0 cap d w
    (enters_of Try.func54 (by kernel_rfl) rfl) (cmpLays54 blk 0 d.size w) hH hblk (by omega)
theorem sort53_none (p : Option Addr) (cap : Nat) (fv : Value) (w : World) : Calls Try.prog 53 #[.slice p 0 cap, fv] w fun e w' => e = .returned (.tuple #[]) ∧ w = w' :=
  (Proofs.AnyF.slices_SortFunc_none { Proofs.Try.sortR with } p cap fv w).mono fun _ _ ⟨h1, h2⟩ => ⟨h1, h2.symm⟩
theorem sortWorldK_frm (w : World) (blk off n : Nat) (d : Array (Int × Int)) (os : Array Obj) : Frm w.heap.size (· = blk) w (sortWorldK encR 2 w blk off n d os) := by
  unfold sortWorldK
  refine Frm.then_ (b := putRowK encR 2 (Sort.ahead w n) blk off d) ?_ (grow_below _ _) (by simp [putRowK, putRow, mapBlock, Sort.ahead])
  refine ⟨rfl, rfl, rfl, by simp [putRowK, putRow, mapBlock, Sort.ahead], fun j hj hne => ?_⟩
  simp only [putRowK, putRow, mapBlock, Sort.ahead, Array.getElem?_modify]
  rw [if_neg (fun h => hne h.symm)]
theorem flatR_get : ∀ (l : List (Int × Int)) (j : Nat), j < l.length * 2 → (flat2 l)[j]? = some (encR l[j / 2]!)[j % 2]!
  | [], j, h => by simp at h
  | x :: l, 0, _ => by simp [flat2, encR]
  | x :: l, 1, _ => by simp [flat2, encR]
  | x :: l, j + 2, h => by
    have ih := flatR_get l j (by simp at h; omega)
    have e1 : (j + 2) / 2 = j / 2 + 1 := by omega
    have e2 : (j + 2) % 2 = j % 2 := by omega
    rw [e1, e2]
    simp only [List.getElem!_cons_succ]
    rw [← ih]
    simp [flat2]
theorem holds_of_own {w : World} {base g cap : Nat} {l : List (Int × Int)} (h : w.ownsRow base 87 2 (.slice (some ⟨g, 0, none⟩) l.length cap) l.length (flat2 l)) :
    HoldsK encR 2 w g 0 l.toArray := by
  intro j hj
  rw [size_flatK] at hj
  have hj' : j < l.length * 2 := by simpa using hj
  rw [get_flatK _ _ _ _ hj, Nat.zero_add]
  refine ⟨?_, h.frozenAt j⟩
  rw [h.cellAt j hj', flatR_get l j hj']
  simp
theorem sort_is : SortIs := fun base A c l W hown hbase hlen => by
  rcases own_form2 hown with ⟨h1, h2⟩ | ⟨g, cap, h1, hb, hg⟩
  · have hl : l = [] := List.length_eq_zero_iff.1 h2
    subst hl
    exact (sort53_none A c _ W).mono fun e w' ⟨he, hw⟩ => ⟨he, [], .refl _, .nil, (fun (h : 0 < ([] : List (Int × Int)).length) => absurd h (by simp)), by rw [← hw]; exact RowKit.Below.refl _ _⟩
  · injection h1 with h1 _ h3
    subst h1 h3
    have hH := holds_of_own hown
    have h := sort53 g c l.toArray W hH hg (by simp; omega)
    rw [List.size_toArray] at h
    refine h.mono ?_
    rintro e w' ⟨rfl, d', n, os, hp, hs, rfl⟩
    have hsz : d'.size = l.length := by simpa using hp.1
    have hK : HoldsK encR 2 (sortWorldK encR 2 W g 0 n d' os) g 0 d' := holdsK_sortWorldK_c _ _ _ _ _ _ _ _ _ hH hg (by simpa using hp.1)
    have hz := (sortWorldK_frm W g 0 n d' os).size
    refine ⟨rfl, d'.toList, ?_, ?_, fun h0 => ⟨g, 0, rfl, by omega, fun k hk => ?_⟩, (sortWorldK_frm W g 0 n d' os).below (by omega) (fun k hk e => by omega)⟩
    · have := hp.2.2
      rw [show d'.extract 0 l.length = d' by rw [← hsz]; simp] at this
      simpa using this
    · rw [List.pairwise_iff_getElem]
      intro i j hi hj hij
      have := hs i j (Nat.zero_le _) hij (by simp at hj; omega)
      rw [ltR] at this
      simp only [Array.length_toList] at hi hj
      simp [hi, hj] at this
      simpa using this
    · have hk' : k < d'.size := by simpa using hk
      have c0 := (hK.cell hk' (c := 0) (by omega)).1
      have c1 := (hK.cell hk' (c := 1) (by omega)).1
      simp only [encR, getElem!_pos d' k hk'] at c0 c1
      exact ⟨by simpa using c0, by simpa using c1⟩
theorem runs51 (x : Prk) (P : Nat) (A : Option Addr) (c : Nat) (v0 : Value) (S : Nat) (w : World) (hx : PrkOk x) (hP : ParkAt w P x A c v0) (hS : S < 64) :
    Calls Try.prog 51 #[.pointer (some ⟨P, 0, none⟩), I S] w fun e w' => ∃ (bq : Nat) (l : List (Int × Int)), e = .returned (.func (.func 60) #[] #[.pointer (some ⟨bq, 0, none⟩)]) ∧ l.Perm (runsL x S x.n) ∧ l.Pairwise (fun a b => a.1 ≤ b.1) ∧ RunsAt w' w.heap.size bq l ∧ RowKit.Below w.heap.size w w' := runs51_of sort_is x P A c v0 S w hx hP hS
end Go.Proofs.Ytfebhofihioaoaa
