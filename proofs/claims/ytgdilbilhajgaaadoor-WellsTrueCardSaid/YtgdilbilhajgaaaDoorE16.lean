/- Sets of readings: compared, and sorted. -/
import Derived.Test.YtgdilbilhajgaaaDoorE15
import Derived.Shelf.SlSortCmp.Whole1
namespace Go.Proofs.YtgdilbilhajgaaaDoor
set_option linter.unusedVariables false
set_option linter.unusedSimpArgs false
open Go Go.RowKit Go.Shelf Go.Sort Go.Lib

def cmpC (x y : Int) : Int := if x < y then -1 else if y < x then 1 else 0
theorem isNaN98 (x : Int) (w : World) : Calls Tryd.prog 98 #[I x] w fun e w' => e = .returned (.bool false) ∧ w = w' := by
  go_enter Tryd.func98, Tryd.ntmps98
  go_wp2
  go_ret
  exact ⟨by simp, rfl⟩
theorem cmp85 (x y : Int) (w : World) : Calls Tryd.prog 85 #[I x, I y] w fun e w' => e = .returned (I (cmpC x y)) ∧ w = w' := by
  by_cases h1 : x < y
  · go_enter Tryd.func85, Tryd.ntmps85
    go_wp2_with (first | (go_at_call 98; refine (isNaN98 _ _).mono ?_; rintro e w1 ⟨rfl, rfl⟩) | fail)
    go_ret
    exact ⟨by simp [cmpC, h1], rfl⟩
  · by_cases h2 : y < x
    · go_enter Tryd.func85, Tryd.ntmps85
      go_wp2_with (first | (go_at_call 98; refine (isNaN98 _ _).mono ?_; rintro e w1 ⟨rfl, rfl⟩) | fail)
      go_ret
      exact ⟨by simp [cmpC, h1, h2], rfl⟩
    · go_enter Tryd.func85, Tryd.ntmps85
      go_wp2_with (first | (go_at_call 98; refine (isNaN98 _ _).mono ?_; rintro e w1 ⟨rfl, rfl⟩) | fail)
      go_ret
      exact ⟨ret_int (show (0 : Int) = cmpC x y by rw [cmpC, if_neg (by omega), if_neg (by omega)]), rfl⟩
def cmpL : List Int → List Int → Int
  | x :: xs, y :: ys => if x < y then -1 else if y < x then 1 else cmpL xs ys
  | _, _ => 0

set_option maxRecDepth 100000 in
set_option maxHeartbeats 1000000 in
theorem compare57 (A B : Option Addr) (c d n : Nat) (xs ys : List Int) (w : World) (hx : Ints w w.heap.size A xs) (hy : Ints w w.heap.size B ys) (hxl : xs.length = n) (hyl : ys.length = n) (hn : n ≤ 1000) :
    Calls Tryd.prog 57 #[.slice A n c, .slice B n d] w fun e w' => e = .returned (I (cmpL xs ys)) ∧ w = w' := by
  have HXL := Lib.hid hxl
  have HYL := Lib.hid hyl
  clear hxl hyl
  go_enter Tryd.func57, Tryd.ntmps57
  go_wp2
  go_loop [11] (fun s => ∃ k : Nat, k ≤ n ∧ s = I k ∧ Hid (cmpL xs ys = cmpL (xs.drop k) (ys.drop k))) (fun s => n - (intOf s).toNat)
  case atStart => exact ⟨0, Nat.zero_le _, rfl, Lib.hid (by simp)⟩
  case round =>
    obtain ⟨k, hk, rfl, HC⟩ := hrel
    by_cases hlt : k < n
    · have hkx : k < xs.length := by rw [HXL.out]; exact hlt
      have hky : k < ys.length := by rw [HYL.out]; exact hlt
      obtain ⟨b, off, rfl, hb, hcs⟩ := hx (by omega)
      obtain ⟨b', off', rfl, hb', hcs'⟩ := hy (by omega)
      have hc1 := hcs k hkx
      have hc2 := hcs' k hky
      have HD : Hid (cmpL (xs.drop k) (ys.drop k) = if xs[k] < ys[k] then -1 else if ys[k] < xs[k] then 1 else cmpL (xs.drop (k + 1)) (ys.drop (k + 1))) := Lib.hid (by rw [List.drop_eq_getElem_cons hkx, List.drop_eq_getElem_cons hky]; rfl)
      have hge : decide (n ≤ k) = false := by simp; omega
      clear hcs hcs'
      generalize xs[k] = x at *
      generalize ys[k] = y at *
      have HCM := Lib.hid (fun W => cmp85 x y W)
      cases h0 : (cmpC x y != 0) with
      | true =>
        have HE : Hid (cmpL xs ys = cmpC x y) := Lib.hid (by
          rw [HC.out, HD.out]
          unfold cmpC at h0 ⊢
          by_cases h1 : x < y
          · simp [h1]
          · by_cases h2 : y < x
            · simp [h1, h2]
            · simp [h1, h2] at h0)
        generalize cmpC x y = cv at *
        go_wp2_with (go_at_call 85; refine (HCM.out _).mono ?_; rintro e w1 ⟨rfl, rfl⟩)
        go_ret
        exact ⟨ret_int HE.out.symm, rfl⟩
      | false =>
        have HE : Hid (cmpL xs ys = cmpL (xs.drop (k + 1)) (ys.drop (k + 1))) := Lib.hid (by
          rw [HC.out, HD.out]
          unfold cmpC at h0
          by_cases h1 : x < y
          · simp [h1] at h0
          · by_cases h2 : y < x
            · simp [h1, h2] at h0
            · simp [h1, h2])
        generalize cmpC x y = cv at *
        go_wp2_with (go_at_call 85; refine (HCM.out _).mono ?_; rintro e w1 ⟨rfl, rfl⟩)
        go_round
        case rel => exact ⟨k + 1, by omega, by go_num, HE⟩
        case measure => simp [intOf]; omega
    · obtain rfl : n = k := by omega
      go_wp2
      go_ret
      exact ⟨by rw [HC.out, List.drop_of_length_le (by rw [HXL.out]; omega)]; simp [cmpL], rfl⟩

def natI (l : List Nat) : List Int := l.map fun k : Nat => (k : Int)
/-- How two sets compare. -/
def cmpS (x y : Nat) : Int := if (bitsL x).length = (bitsL y).length then cmpL (natI (bitsL x)) (natI (bitsL y)) else ((bitsL x).length : Int) - ((bitsL y).length : Int)
theorem cmpL_lt : ∀ (xs ys : List Nat), xs.length = ys.length → (cmpL (natI xs) (natI ys) < 0 ↔ xs < ys)
  | [], [], _ => by simp [natI, cmpL]
  | x :: xs, y :: ys, h => by
    have ih := cmpL_lt xs ys (by simpa using h)
    rw [List.cons_lt_cons_iff]
    simp only [natI, List.map_cons, cmpL] at ih ⊢
    by_cases h1 : x < y
    · rw [if_pos (by omega)]
      simp [h1]
    · rw [if_neg (by omega)]
      by_cases h2 : y < x
      · rw [if_pos (by omega)]
        constructor
        · intro h; omega
        · rintro (h | ⟨h, _⟩) <;> omega
      · rw [if_neg (by omega), ih]
        have : x = y := by omega
        simp [this]
def keyLt (x y : Nat) : Prop := (bitsL x).length < (bitsL y).length ∨ ((bitsL x).length = (bitsL y).length ∧ bitsL x < bitsL y)
theorem cmpS_lt (x y : Nat) : cmpS x y < 0 ↔ keyLt x y := by
  unfold cmpS keyLt
  by_cases h : (bitsL x).length = (bitsL y).length
  · rw [if_pos h, cmpL_lt _ _ h]
    constructor
    · exact fun h1 => .inr ⟨h, h1⟩
    · rintro (h1 | h1)
      · omega
      · exact h1.2
  · rw [if_neg h]
    constructor
    · intro h1; exact .inl (by omega)
    · rintro (h1 | h1)
      · omega
      · exact absurd h1.1 h
abbrev Set12 := { s : Nat // s < 4096 }
instance : Inhabited Set12 := ⟨⟨0, by decide⟩⟩
def encS (x : Set12) : Value := .int .u64 (x.1 : Int)
def cfS (x y : Set12) : Int := cmpS x.1 y.1
theorem ltS (x y : Set12) : ltOf cfS x y = true ↔ keyLt x.1 y.1 := by
  unfold ltOf cfS
  rw [decide_eq_true_iff, cmpS_lt]
theorem ltS_f (x y : Set12) : ltOf cfS x y = false ↔ ¬ keyLt x.1 y.1 := by rw [← ltS]; simp
theorem swoS : SWO (ltOf cfS) where
  irrefl x := by
    rw [ltS_f]
    rintro (h | ⟨_, h⟩)
    · omega
    · exact List.lt_irrefl _ h
  trans x y z h1 h2 := by
    rw [ltS] at *
    rcases h1 with h1 | ⟨e1, h1⟩ <;> rcases h2 with h2 | ⟨e2, h2⟩
    · exact .inl (by omega)
    · exact .inl (by omega)
    · exact .inl (by omega)
    · exact .inr ⟨by omega, List.lt_trans h1 h2⟩
  ntrans x y z h1 h2 := by
    rw [ltS_f] at *
    rintro h3
    have a1 : (bitsL y.1).length ≤ (bitsL x.1).length := by
      rcases Nat.lt_or_ge (bitsL x.1).length (bitsL y.1).length with h | h
      · exact absurd (.inl h) h1
      · exact h
    have a2 : (bitsL z.1).length ≤ (bitsL y.1).length := by
      rcases Nat.lt_or_ge (bitsL y.1).length (bitsL z.1).length with h | h
      · exact absurd (.inl h) h2
      · exact h
    rcases h3 with h3 | ⟨e3, h3⟩
    · omega
    · have b1 : ¬ bitsL x.1 < bitsL y.1 := fun h => h1 (.inr ⟨by omega, h⟩)
      have b2 : ¬ bitsL y.1 < bitsL z.1 := fun h => h2 (.inr ⟨by omega, h⟩)
      rw [List.not_lt] at b1 b2
      exact absurd h3 (List.not_lt.2 (List.le_trans b2 b1))

theorem slice_own {w : World} {base : Nat} {e : TypeId} {v : Value} {n : Nat} {xs : List Int} (hn : xs.length = n) (h : w.ownsRow base e 1 v n (xs.map I)) : ∃ A c, v = .slice A n c ∧ Ints w w.heap.size A xs := by
  subst hn
  obtain ⟨A, c, h1, _, _, h2⟩ := ints_own h
  exact ⟨A, c, h1, h2⟩
set_option maxRecDepth 100000 in
set_option maxHeartbeats 2000000 in
theorem compare36 (x y : Nat) (hx : x < 4096) (hy : y < 4096) (w : World) (hT : TabOk w) :
    Calls Tryd.prog 36 #[.int .u64 x, .int .u64 y] w fun e w' => e = .returned (I (cmpS x y)) ∧ Lays w w' := by
  have HT := Lib.hid hT
  have HX := Lib.hid (list39 x hx w hT)
  have HY : Hid (∀ W, Below w.heap.size w W → Calls Tryd.prog 39 #[.int .u64 y] W fun e w' => ∃ v, e = .returned v ∧ w'.ownsRow W.heap.size 3 1 v (bitsL y).length ((bitsL y).map fun k : Nat => I (k : Int)) ∧ Lays W w') := Lib.hid fun W hB => list39 y hy W (hT.below hB)
  have HCS : Hid (cmpS x y = if (bitsL x).length = (bitsL y).length then cmpL (natI (bitsL x)) (natI (bitsL y)) else ((bitsL x).length : Int) - ((bitsL y).length : Int)) := rfl
  have hlx := bitsL_len x
  have hly := bitsL_len y
  have hnx : (natI (bitsL x)).length = (bitsL x).length := by simp [natI]
  have hny : (natI (bitsL y)).length = (bitsL y).length := by simp [natI]
  have hmx : (natI (bitsL x)).map I = (bitsL x).map fun k : Nat => I (k : Int) := by simp [natI]
  have hmy : (natI (bitsL y)).map I = (bitsL y).map fun k : Nat => I (k : Int) := by simp [natI]
  rw [← hmx] at HX
  rw [← hmy] at HY
  have HNX := Lib.hid hnx
  have HNY := Lib.hid hny
  clear hmx hmy hnx hny hT
  generalize natI (bitsL x) = nx at *
  generalize natI (bitsL y) = ny at *
  generalize (bitsL x).length = lx at *
  generalize (bitsL y).length = ly at *
  generalize cmpS x y = cs at *
  by_cases hll : lx = ly
  · subst hll
    rw [if_pos rfl] at HCS
    have tok1 : True := trivial
    have hne : ((lx : Int) != (lx : Int)) = false := by simp
    go_enter Tryd.func36, Tryd.ntmps36
    go_wp2_with (first
      | (go_at_call 39; have _t := tok1; refine HX.out.mono ?_; rintro e w1 ⟨v, rfl, hO, hL⟩; obtain ⟨A1, c1, rfl, hI⟩ := (slice_own HNX.out hO); have HL1 := Lib.hid hL; have HI1 := Lib.hid hI; clear hO hL hI tok1)
      | (go_at_call 39; refine (HY.out _ HL1.out.1).mono ?_; rintro e w2 ⟨v, rfl, hO, hL⟩; obtain ⟨A2, c2, rfl, hI⟩ := (slice_own HNY.out hO); have HL2 := Lib.hid (HL1.out.trans hL); have HI2 := Lib.hid hI; have HI12 := Lib.hid ((HI1.out.below hL.1).more hL.1.size); clear hO hL hI)
      | (go_at_call 57; refine (compare57 _ _ _ _ _ nx ny _ HI12.out HI2.out HNX.out HNY.out (by omega)).mono ?_; rintro e w3 ⟨rfl, rfl⟩)
      | fail)
    go_ret
    exact ⟨ret_int HCS.out.symm, HL2.out⟩
  · rw [if_neg hll] at HCS
    have tok1 : True := trivial
    have hne : ((lx : Int) != (ly : Int)) = true := by simp; omega
    have hne2 : (lx != ly) = true := by simp; omega
    clear hll
    go_enter Tryd.func36, Tryd.ntmps36
    go_wp2_with (first
      | (go_at_call 39; have _t := tok1; refine HX.out.mono ?_; rintro e w1 ⟨v, rfl, hO, hL⟩; obtain ⟨A1, c1, rfl, hI⟩ := (slice_own HNX.out hO); have HL1 := Lib.hid hL; have HI1 := Lib.hid hI; clear hO hL hI tok1)
      | (go_at_call 39; refine (HY.out _ HL1.out.1).mono ?_; rintro e w2 ⟨v, rfl, hO, hL⟩; obtain ⟨A2, c2, rfl, hI⟩ := (slice_own HNY.out hO); have HL2 := Lib.hid (HL1.out.trans hL); have HI2 := Lib.hid hI; have HI12 := Lib.hid ((HI1.out.below hL.1).more hL.1.size); clear hO hL hI)
      | (go_at_call 57; refine (compare57 _ _ _ _ _ nx ny _ HI12.out HI2.out HNX.out HNY.out (by omega)).mono ?_; rintro e w3 ⟨rfl, rfl⟩)
      | fail)
    go_ret
    exact ⟨ret_int HCS.out.symm, HL2.out⟩

theorem oneCellS : OneCell encS := fun _ => rfl
theorem sortWorld_old (w : World) (blk off n : Nat) (dk : Array Set12) (os : Array Obj) (g : Nat) (hg : g < w.heap.size) (hne : g ≠ blk) : (sortWorld encS w blk off n dk os).heap[g]? = w.heap[g]? := by
  have h1 : (putRow encS (Sort.ahead w n) blk off dk).heap[g]? = w.heap[g]? := by
    simp only [putRow, mapBlock, Sort.ahead, Array.getElem?_modify]
    rw [if_neg (fun h => hne h.symm)]
  unfold sortWorld Sort.grow
  rw [← h1]
  simp only
  rw [Array.getElem?_append_left (by simp [putRow, mapBlock, Sort.ahead]; exact hg)]
theorem sortWorld_size (w : World) (blk off n : Nat) (dk : Array Set12) (os : Array Obj) : w.heap.size ≤ (sortWorld encS w blk off n dk os).heap.size := by
  unfold sortWorld Sort.grow
  simp [putRow, mapBlock, Sort.ahead]
theorem sortWorld_frm (w : World) (blk off n : Nat) (d : Array Set12) (os : Array Obj) : Frm w.heap.size (· = blk) w (sortWorld encS w blk off n d os) :=
  ⟨by simp [sortWorld, Sort.grow, putRow, mapBlock, Sort.ahead], by simp [sortWorld, Sort.grow, putRow, mapBlock, Sort.ahead], by simp [sortWorld, Sort.grow, putRow, mapBlock, Sort.ahead], sortWorld_size _ _ _ _ _ _, fun k hk hne => sortWorld_old w blk off n d os k hk hne⟩
theorem cmpLays36 (blk size : Nat) (w : World) (hT : TabOk w) (hne : Proofs.Tryd.ctzL_ren.g 1 ≠ blk) : Proofs.CmpLays1 Tryd.prog 36 #[] encS cfS blk 0 size w := by
  intro m os dk _ x y
  have hT' : TabOk (sortWorld encS w blk 0 m dk os) := ⟨fun j hj => by
    rw [World.cell?_of_block (sortWorld_old w blk 0 m dk os _ hT.2 hne)]
    exact hT.1 j hj, Nat.lt_of_lt_of_le hT.2 (sortWorld_size _ _ _ _ _ _)⟩
  refine (compare36 x.1 y.1 x.2 y.2 _ hT').mono ?_
  rintro e w' ⟨rfl, hL⟩
  exact ⟨rfl, hL.grow⟩
/-- The sort of the sets. -/
theorem sort35 (blk cap : Nat) (d : Array Set12) (w : World) (hT : TabOk w) (hne : Proofs.Tryd.ctzL_ren.g 1 ≠ blk) (hH : Holds encS w blk 0 d) (hblk : blk < w.heap.size) (hsz : d.size < 1000000) :
    Calls Tryd.prog 35 #[.slice (some ⟨blk, 0, none⟩) d.size cap, .func (.func 36) #[] #[]] w fun e w' =>
      e = .returned (.tuple #[]) ∧ ∃ d', PermIn 0 d.size d d' ∧ SortedIn (ltOf cfS) 0 d.size d' ∧ Holds encS w' blk 0 d' ∧ Frm w.heap.size (· = blk) w w' :=
  (show Calls Tryd.prog 35 _ w _ from Proofs.Any.slices_SortFunc Proofs.Tryd.sortL encS oneCellS cfS swoS 36 #[] blk 0 cap d w (enters_of Tryd.func36 (by kernel_rfl) rfl) (cmpLays36 blk d.size w hT hne) hH hblk (by omega)).mono fun e w' ⟨h1, d', n, os, h2, h3, h4⟩ =>
    ⟨h1, d', h2, h3, by rw [h4]; exact holds_sortWorld encS w blk 0 n d d' os hblk hH h2.1, by rw [h4]; exact sortWorld_frm w blk 0 n d' os⟩
end Go.Proofs.YtgdilbilhajgaaaDoor
