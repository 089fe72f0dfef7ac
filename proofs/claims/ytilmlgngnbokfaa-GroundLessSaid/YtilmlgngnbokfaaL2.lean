/- largest, at a slice that owns its row. -/
import Derived.Test.YtilmlgngnbokfaaL
namespace Go.Proofs.Ytilmlgngnbokfaa
set_option linter.unusedVariables false
set_option linter.unusedSimpArgs false
open Go.RowKit Go.Sort

def geI (a b : Int) : Bool := decide (b ≤ a)
/-- The sum of the k greatest. -/
def topS (k : Nat) (l : List Int) : Int := ((l.mergeSort geI).take k).sum
theorem sort_desc (l : List Int) : (l.mergeSort geI).Pairwise (fun a b => b ≤ a) := by
  have := List.pairwise_mergeSort (le := geI) (fun a b c h1 h2 => by simp [geI] at *; omega) (fun a b => by simp [geI]; omega) l
  exact this.imp (fun h => by simpa [geI] using h)
theorem eq_sort {l m : List Int} (hp : m.Perm l) (hm : m.Pairwise (fun a b => b ≤ a)) : m = l.mergeSort geI :=
  List.Perm.eq_of_pairwise (le := fun a b => b ≤ a) (fun _ _ _ _ h1 h2 => Int.le_antisymm h2 h1) hm (sort_desc l) (hp.trans (List.mergeSort_perm l geI).symm)
theorem topS_nil (k : Nat) : topS k [] = 0 := by simp [topS]
theorem topS_min (k : Nat) (l : List Int) : topS (min k l.length) l = topS k l := by
  unfold topS
  rcases Nat.le_total k l.length with h | h
  · rw [Nat.min_eq_left h]
  · rw [Nat.min_eq_right h, List.take_of_length_le (by simp), List.take_of_length_le (by simpa using h)]

theorem sumTo_top {C : Int} (d d' : Array (RT C)) (hp : PermIn 0 d.size d d') (hs : SortedIn (ltOf (cfR (C := C))) 0 d.size d') (k : Nat) : sumTo d' k = topS k (d.toList.map vOf) := by
  unfold sumTo topS
  have hsz : d'.size = d.size := hp.1
  have h1 : (d'.toList.map vOf).Perm (d.toList.map vOf) := by
    have h := hp.2.2
    rw [Array.extract_eq_self_of_le (by omega), Array.extract_eq_self_of_le (by omega)] at h
    exact h.map _
  have h2 : (d'.toList.map vOf).Pairwise (fun a b => b ≤ a) := by
    rw [List.pairwise_map, List.pairwise_iff_getElem]
    intro i j hi hj hij
    have := hs i j (Nat.zero_le _) hij (by simpa [hsz] using hj)
    rw [ltR] at this
    simp only [Array.length_toList] at hi hj
    rw [getElem!_pos d' i hi, getElem!_pos d' j hj] at this
    simp at this
    simpa using this
  rw [← eq_sort h1 h2, List.map_take]

set_option maxHeartbeats 400000 in
theorem largest_none (p : Option Addr) (cap : Nat) (hcap' : cap ≤ 9223372036854775807) (pe : Int) (w : World) (hpe : 0 ≤ pe ∧ pe ≤ 100) :
    Calls Try.prog 63 #[.slice p 0 cap, I pe, .func (.func 64) #[] #[], Rat2 0 1, .func (.func 65) #[] #[]] w fun e w' => e = .returned (Rat2 0 1) ∧ Below w.heap.size w w' := by
  have hm : min pe 0 = 0 := by omega
  have hm2 : max (0 : Int) 0 = 0 := by omega
  go_enter Try.func63, Try.ntmps63
  go_wp2_with (go_at_call 78; refine (sort78_none _ _ _ _).mono ?_; rintro e w2 ⟨rfl, rfl⟩)
  go_loopw [23] (fun s wr => s = I 0 ∧ wr = ((w.alloc (.cells #[.func (.func 64) #[] #[]] 102)).alloc (.cells #[I 0, I 1] 67)).alloc (.cells #[I 0, I 0] 67)) (fun _ _ => 0)
  case atStart => exact ⟨rfl, rfl⟩
  case round =>
    obtain ⟨rfl, rfl⟩ := hrel
    go_wp2
    refine bodyPost_ret (v := Rat2 0 1) ?_ rfl ⟨rfl, ?_⟩
    · simp [results, Try.results63, go_sem]
    · (repeat' (first | assumption | exact Below.refl _ _ | refine Below.drew ?_ | refine below_drewN ?_ _ | refine Below.setCell ?_ (by first | omega | (simp; done) | (simp; omega)) _ | refine Below.alloc ?_ (by first | omega | (simp; done) | (simp; omega)) _ | refine Below.trans ?_ (Below.mono (by assumption) (by first | omega | (simp; done) | (simp; omega)))))

def flatR {C : Int} (l : List (RT C)) : List Value := l.flatMap encR
theorem flatR_length {C : Int} (l : List (RT C)) : (flatR l).length = l.length * 2 := by
  induction l with
  | nil => rfl
  | cons x l ih => simp only [flatR, List.flatMap_cons, List.length_append] at *; rw [ih]; simp [encR]; omega

theorem flatR_get {C : Int} : ∀ (l : List (RT C)) (j : Nat), j < l.length * 2 → (flatR l)[j]? = some (encR l[j / 2]!)[j % 2]!
  | [], j, h => by simp at h
  | x :: l, 0, _ => by simp [flatR, encR]
  | x :: l, 1, _ => by simp [flatR, encR]
  | x :: l, j + 2, h => by
    have ih := flatR_get l j (by simp at h; omega)
    have e1 : (j + 2) / 2 = j / 2 + 1 := by omega
    have e2 : (j + 2) % 2 = j % 2 := by omega
    rw [e1, e2]
    simp only [List.getElem!_cons_succ]
    rw [← ih]
    simp [flatR, encR]

theorem holds_of_own {C : Int} {w : World} {base g cap : Nat} {l : List (RT C)} (h : w.ownsRow base 67 2 (.slice (some ⟨g, 0, none⟩) l.length cap) l.length (flatR l)) :
    HoldsK encR 2 w g 0 l.toArray := by
  intro j hj
  rw [size_flatK] at hj
  have hj' : j < l.length * 2 := by simpa using hj
  rw [get_flatK _ _ _ _ hj, Nat.zero_add]
  refine ⟨?_, h.frozenAt j⟩
  rw [h.cellAt j hj', flatR_get l j hj']
  simp

/-- **largest.** -/
theorem largest_any {C : Int} (hC : 0 < C) (hC' : C ≤ 80000) (v : Value) (l : List (RT C)) (base : Nat) (pe : Int) (w : World) (hl : l.length < 1000000) (hpe : 0 ≤ pe ∧ pe ≤ 100) (hown : w.ownsRow base 67 2 v l.length (flatR l)) :
    Calls Try.prog 63 #[v, I pe, .func (.func 64) #[] #[], Rat2 0 1, .func (.func 65) #[] #[]] w fun e w' =>
      (∃ a b, Rep C (a, b) (topS pe.toNat (l.map vOf)) ∧ e = .returned (Rat2 a b)) ∧ Frm w.heap.size (fun k => v.ownBlock = some k) w w' := by
  have h1 : (v = .slice none 0 0 ∧ l.length = 0) ∨ _ := hown.2
  by_cases h0 : l.length = 0
  · have hl0 : l = [] := List.length_eq_zero_iff.1 h0
    subst hl0
    obtain ⟨p, cap, rfl, hcap⟩ : ∃ p cap, v = .slice p 0 cap ∧ cap ≤ 9223372036854775807 := by
      rcases h1 with ⟨rfl, _⟩ | ⟨g, cap, cur, rfl, _, _, _, hm, _⟩
      · exact ⟨_, _, rfl, by omega⟩
      · exact ⟨_, _, rfl, by simpa [maxLen] using hm⟩
    refine (largest_none p cap hcap pe w hpe).mono ?_
    rintro e w' ⟨rfl, hb⟩
    exact ⟨⟨0, 1, ⟨by simp, by simp, by simp, by simp [topS_nil]⟩, rfl⟩, Frm.of_below hb (Nat.le_refl _)⟩
  · rcases h1 with ⟨_, h2⟩ | ⟨g, cap, cur, rfl, hb, hg, hcap, hm, _⟩
    · exact absurd h2 h0
    · have hlt : g < w.heap.size := (hown.lt g rfl).2
      have := largest_some hC hC' g cap l.toArray pe w (by simp; omega) (by simpa using hl) (by simpa using hcap) (by simpa [maxLen] using hm) hpe (holds_of_own hown) hlt
      rw [List.size_toArray] at this
      refine this.mono ?_
      rintro e w' ⟨⟨d', a, b, hp, hs, hR, rfl⟩, hF⟩
      refine ⟨⟨a, b, ?_, rfl⟩, hF.mono (Nat.le_refl _) (fun k _ h => by simp [Value.ownBlock, h])⟩
      have e1 := sumTo_top l.toArray d' (by simpa using hp) (by simpa using hs) (min pe.toNat l.length)
      rw [e1] at hR
      simp only at hR
      have e2 := topS_min pe.toNat (l.map vOf)
      rw [List.length_map] at e2
      rwa [e2] at hR
end Go.Proofs.Ytilmlgngnbokfaa
