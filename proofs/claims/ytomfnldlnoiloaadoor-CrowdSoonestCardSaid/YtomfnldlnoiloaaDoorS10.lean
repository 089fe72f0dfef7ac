/- The sort of stands. -/
import Derived.Test.YtomfnldlnoiloaaDoorS9
import Derived.Test.YtomfnldlnoiloaaDoorSh
import Derived.Test.YtomfnldlnoiloaaDoorTw
import Derived.Shelf.SlSortCmp.WholeK
import Derived.Shelf.SlSortCmp.NoneTotal
namespace Go.Proofs.YtomfnldlnoiloaaDoor
set_option linter.unusedVariables false
set_option linter.unusedSimpArgs false
open Go Go.RowKit Go.Sort

theorem own_formS {w : World} {base n : Nat} {e : TypeId} {v : Value} {xs : List Value} {size : Nat} (h : w.ownsRow base e size v n xs) :
    (v = .slice none 0 0 ∧ n = 0) ∨ ∃ g cap, v = .slice (some ⟨g, 0, none⟩) n cap ∧ base ≤ g ∧ g < w.heap.size := by
  rcases h.2 with h1 | ⟨g, cap, cur, rfl, hb, hc, h3, h4, _⟩
  · exact .inl ⟨h1.1, h1.2⟩
  · exact .inr ⟨g, cap, rfl, (h.lt g rfl).1, (h.lt g rfl).2⟩
def flat2 (cr : List (Int × Int)) : List Value := cr.flatMap fun s => [I s.1, I s.2]
theorem flat2_len : ∀ cr : List (Int × Int), (flat2 cr).length = cr.length * 2
  | [] => rfl
  | s :: cr => by
    have := flat2_len cr
    simp only [flat2, List.flatMap_cons, List.length_append, List.length_cons, List.length_nil] at this ⊢
    omega
theorem flat2_app (a b : List (Int × Int)) : flat2 (a ++ b) = flat2 a ++ flat2 b := by simp [flat2]
theorem flat2_one (cr : List (Int × Int)) : ∀ u ∈ flat2 cr, u.oneCell' = true := fun u hu => by
  obtain ⟨s, _, h⟩ := List.mem_flatMap.1 hu
  simp only [List.mem_cons, List.not_mem_nil, or_false] at h
  rcases h with rfl | rfl <;> rfl
theorem flat2_get : ∀ (cr : List (Int × Int)) (k : Nat) (h : k < cr.length), (flat2 cr)[k * 2]? = some (I cr[k].1) ∧ (flat2 cr)[k * 2 + 1]? = some (I cr[k].2)
  | [], k, h => by simp at h
  | s :: cr, 0, _ => by simp [flat2]
  | s :: cr, k + 1, h => by
    have ih := flat2_get cr k (by simpa using h)
    have e1 : (k + 1) * 2 = k * 2 + 2 := by omega
    rw [e1]
    have e2 : flat2 (s :: cr) = I s.1 :: I s.2 :: flat2 cr := by simp [flat2]
    rw [e2]
    simpa using ih
theorem twos_own {W : World} {base n : Nat} {v : Value} {xs : List (Int × Int)} {e : TypeId} (h : W.ownsRow base e 2 v n (flat2 xs)) (hn : xs.length = n) :
    ∃ A c, v = .slice A n c ∧ Twos W W.heap.size A xs ∧ (∀ b off, A = some ⟨b, off, none⟩ → base ≤ b) := by
  rcases own_formS h with ⟨rfl, h0⟩ | ⟨g, cap, rfl, h1, h2⟩
  · exact ⟨none, 0, by rw [h0], fun h => by omega, fun b off h => by cases h⟩
  · refine ⟨_, _, rfl, fun _ => ⟨g, 0, rfl, h2, fun k hk => ?_⟩, fun b off h => by cases h; exact h1⟩
    obtain ⟨e1, e2⟩ := flat2_get xs k hk
    rw [Nat.zero_add]
    exact ⟨(h.cellAt (k * 2) (by omega)).trans e1, (h.cellAt (k * 2 + 1) (by omega)).trans e2⟩
theorem isNaN58 (a : Int) (w : World) : Calls Tryd.prog 58 #[I a] w fun e w' => e = .returned (.bool false) ∧ w = w' := by
  go_enter Tryd.func58, Tryd.ntmps58
  go_wp2
  go_ret
  exact ⟨rfl, rfl⟩
def cmpI (a b : Int) : Int := if a < b then -1 else if b < a then 1 else 0
theorem cmp47 (a b : Int) (w : World) : Calls Tryd.prog 47 #[I a, I b] w fun e w' => e = .returned (I (cmpI a b)) ∧ w = w' := by
  have HN : Hid (∀ (x : Int) (W : World), Calls Tryd.prog 58 #[I x] W fun e w' => e = .returned (.bool false) ∧ W = w') := Lib.hid isNaN58
  have HC : Hid (∀ v : Int, (a < b → v = -1) → (b < a → v = 1) → (a = b → v = 0) → v = cmpI a b) := Lib.hid fun v h1 h2 h3 => by
    unfold cmpI
    split
    · exact h1 ‹_›
    · split
      · exact h2 ‹_›
      · exact h3 (by omega)
  generalize cmpI a b = z at *
  rcases Int.lt_trichotomy a b with h | h | h
  all_goals
    go_enter Tryd.func47, Tryd.ntmps47
    go_wp2_with (first
      | (go_at_call 58; refine (HN.out _ _).mono ?_; rintro e w1 ⟨rfl, rfl⟩)
      | fail)
    go_ret
    exact ⟨ret_int (HC.out _ (by omega) (by omega) (by omega)), rfl⟩
def orI (a b : Int) : Int := if a = 0 then b else a
set_option maxRecDepth 100000 in
theorem or46 (g : Nat) (a b : Int) (w : World) (h0 : w.cell? ⟨g, 0, none⟩ = some (I a)) (h1 : w.cell? ⟨g, 1, none⟩ = some (I b)) : Calls Tryd.prog 46 #[.slice (some ⟨g, 0, none⟩) 2 2] w fun e w' => e = .returned (I (orI a b)) ∧ w = w' := by
  have HOR : Hid (orI a b = if a = 0 then b else a) := Lib.hid rfl
  generalize orI a b = z at *
  go_enter Tryd.func46, Tryd.ntmps46
  go_wp2_with (fail)
  go_loopw [8] (fun s8 wr => ∃ k : Nat, k ≤ 2 ∧ s8 = I k ∧ wr = w ∧ (1 ≤ k → a = 0) ∧ (2 ≤ k → b = 0)) (fun s _ => 2 - (intOf s).toNat)
  case atStart => exact ⟨0, by omega, rfl, rfl, fun h => by omega, fun h => by omega⟩
  case round =>
    obtain ⟨k, hk, rfl, rfl, ha, hb⟩ := hrel
    match k, hk with
    | 0, _ =>
      by_cases h : a = 0
      · have HZ : Hid (z = b) := Lib.hid (by rw [HOR.out, if_pos h])
        subst h
        go_wp2_with (fail)
        go_roundw
        case rel => exact ⟨1, by omega, by trivial, by trivial, fun _ => by trivial, fun h => by omega⟩
        case measure => simp [intOf]
      · have HZ : Hid (z = a) := Lib.hid (by rw [HOR.out, if_neg h])
        go_wp2_with (fail)
        refine bodyPost_ret (v := I a) (by simp [results, Tryd.results46, go_sem]) rfl ⟨by rw [HZ.out], rfl⟩
    | 1, _ =>
      have HZ : Hid (z = b) := Lib.hid (by rw [HOR.out, if_pos (ha (by omega))])
      by_cases h : b = 0
      · subst h
        go_wp2_with (fail)
        go_roundw
        case rel => exact ⟨2, by omega, by trivial, by trivial, fun _ => by first | trivial | exact ha (by omega), fun _ => by trivial⟩
        case measure => simp [intOf]
      · go_wp2_with (fail)
        refine bodyPost_ret (v := I b) (by simp [results, Tryd.results46, go_sem]) rfl ⟨by rw [HZ.out], rfl⟩
    | 2, _ =>
      have HZ : Hid (z = 0) := Lib.hid (by rw [HOR.out, if_pos (ha (by omega)), hb (by omega)])
      go_wp2_with (fail)
      refine bodyPost_ret (v := I 0) (by simp [results, Tryd.results46, go_sem]) rfl ⟨by rw [HZ.out], rfl⟩
/-- A world that has laid blocks and drawn. -/
def GrewD (w w' : World) : Prop := ∃ q os, w' = grow (w.drewN q) os
theorem GrewD.refl (w : World) : GrewD w w := ⟨0, #[], by rw [grow_empty]; rfl⟩
theorem GrewD.alloc {w a : World} (h : GrewD w a) (o : Obj) : GrewD w (a.alloc o) := by
  obtain ⟨q, os, rfl⟩ := h
  exact ⟨q, os ++ #[o], by rw [alloc_eq_grow, grow_grow]⟩
theorem GrewD.drew {w a : World} (h : GrewD w a) : GrewD w a.drew := by
  obtain ⟨q, os, rfl⟩ := h
  exact ⟨q + 1, os, rfl⟩
set_option maxRecDepth 100000 in
set_option maxHeartbeats 2000000 in
theorem compare45 (a b c d : Int) (w : World) : Calls Tryd.prog 45 #[.agg #[I a, I b], .agg #[I c, I d]] w fun e w' => e = .returned (I (orI (cmpI a c) (cmpI b d))) ∧ GrewD w w' := by
  have H47 : Hid (∀ (x y : Int) (W : World), Calls Tryd.prog 47 #[I x, I y] W fun e w' => e = .returned (I (cmpI x y)) ∧ W = w') := Lib.hid cmp47
  go_enter Tryd.func45, Tryd.ntmps45
  go_wp2_with (fail)
  refine (wpIn_wide (n := 9)).1 ?_
  refine wpIn_region_plan (Plan.ons [0, 1, 2, 3, 5, 6, 7, 8, 4, 9, 10, 11, 12] .fin) [5, 6, 7, 8] (fun W' => W'.cell? ⟨w.heap.size, 1, none⟩ = some (I b) ∧ W'.cell? ⟨w.heap.size + 1, 1, none⟩ = some (I d)) [] rfl (by kernel_rfl) (by kernel_rfl) (fun _ d _ _ _ h => by cases d <;> exact h) ⟨by simp [go_sem], by simp [go_sem]⟩ ?_
  iterate 4 (refine ordQ_li rfl rfl rfl (fun K hK => ?_); go_simp; refine hK _ ?_; clear hK K)
  (refine ordQ_held (.pointer (some ⟨w.heap.size, 1, none⟩)) rfl rfl rfl rfl (fun W' hC' => ?_) (fun K hK => ?_); (focus (obtain ⟨g0, g1⟩ := hC'; go_simp; try exact ⟨rfl, rfl⟩)); go_simp; refine hK _ ?_; clear hK K)
  (refine ordQ_held (I b) rfl rfl rfl rfl (fun W' hC' => ?_) (fun K hK => ?_); (focus (obtain ⟨g0, g1⟩ := hC'; go_simp; try exact ⟨rfl, rfl⟩)); go_simp; refine hK _ ?_; clear hK K)
  (refine ordQ_held (.pointer (some ⟨w.heap.size + 1, 1, none⟩)) rfl rfl rfl rfl (fun W' hC' => ?_) (fun K hK => ?_); (focus (obtain ⟨g0, g1⟩ := hC'; go_simp; try exact ⟨rfl, rfl⟩)); go_simp; refine hK _ ?_; clear hK K)
  (refine ordQ_held (I d) rfl rfl rfl rfl (fun W' hC' => ?_) (fun K hK => ?_); (focus (obtain ⟨g0, g1⟩ := hC'; go_simp; try exact ⟨rfl, rfl⟩)); go_simp; refine hK _ ?_; clear hK K)
  refine ordQ_hv rfl rfl rfl (fun K hK => ?_)
  gi_wp2_with (first | (refine And.intro trivial ?_; gi_at_call 47; refine (callsIn_wide.2 (H47.out _ _ _)).mono ?_; rintro e w6 ⟨rfl, rfl⟩) | fail)
  refine hK _ _ (fun _ => ⟨by simp [go_sem], by simp [go_sem]⟩) ?_
  clear hK K
  refine ordQ_hv rfl rfl rfl (fun K hK => ?_)
  gi_wp2_with (first | (refine And.intro trivial ?_; gi_at_call 47; refine (callsIn_wide.2 (H47.out _ _ _)).mono ?_; rintro e w6 ⟨rfl, rfl⟩) | fail)
  refine hK _ _ (fun _ => ⟨by simp [go_sem], by simp [go_sem]⟩) ?_
  clear hK K
  obtain ⟨z1, hz1⟩ : ∃ z, cmpI a c = z := ⟨_, rfl⟩
  obtain ⟨z2, hz2⟩ : ∃ z, cmpI b d = z := ⟨_, rfl⟩
  rw [hz1, hz2]
  have HZ1 := Lib.hid hz1
  have HZ2 := Lib.hid hz2
  clear hz1 hz2
  refine ordQ_hv rfl rfl rfl (fun K hK => ?_)
  gi_wp2
  refine hK _ _ (fun _ => ⟨by simp [go_sem], by simp [go_sem]⟩) ?_
  clear hK K
  refine ordQ_hv rfl rfl rfl (fun K hK => ?_)
  gi_wp2_with (first | (refine And.intro trivial ?_; gi_at_call 46; refine (callsIn_wide.2 (or46 _ z1 z2 _ (by simp [go_sem]) (by simp [go_sem]))).mono ?_; rintro e w6 ⟨rfl, rfl⟩) | fail)
  refine hK _ _ (fun _ => ⟨by simp [go_sem], by simp [go_sem]⟩) ?_
  clear hK K
  (refine ordQ_li rfl rfl rfl (fun K hK => ?_); go_simp; refine hK _ ?_; clear hK K)
  refine ordQ_fin ?_
  go_wp2_with (fail)
  refine bodyPost_ret (v := I (orI z1 z2)) (by simp [results, Tryd.results45, go_sem]) rfl ⟨by rw [HZ1.out, HZ2.out], ?_⟩
  exact (((((GrewD.refl w).alloc _).alloc _).drew).alloc _)
def encT (x : Int × Int) : List Value := [I x.1, I x.2]
def cfR (x y : Int × Int) : Int := orI (cmpI x.1 y.1) (cmpI x.2 y.2)
theorem ltR (x y : Int × Int) : ltOf cfR x y = decide (x.1 < y.1 ∨ (x.1 = y.1 ∧ x.2 < y.2)) := by
  unfold ltOf cfR orI cmpI
  by_cases h : x.1 < y.1
  · simp [h]
  · by_cases h2 : y.1 < x.1
    · have h3 : ¬ x.1 = y.1 := by omega
      simp [h, h2, h3]
    · have h3 : x.1 = y.1 := by omega
      by_cases h4 : x.2 < y.2
      · simp [h3, h4]
      · by_cases h5 : y.2 < x.2 <;> simp [h3, h4, h5]
theorem swoR : SWO (ltOf cfR) where
  irrefl x := by rw [ltR]; simp
  trans x y z h1 h2 := by rw [ltR] at *; simp at *; omega
  ntrans x y z h1 h2 := by rw [ltR] at *; simp at *; omega
theorem cmpLays45 (blk off size : Nat) (w : World) : Proofs.CmpLays Tryd.prog 45 #[] encT 2 cfR blk off size w := by
  intro m os dk _ x y
  refine (compare45 x.1 x.2 y.1 y.2 _).mono ?_
  rintro e w' ⟨rfl, q, os, rfl⟩
  exact ⟨rfl, q, os, rfl⟩
theorem isAgg46 (w : World) : (isAgg 46).run Tryd.prog w = .ok true w := by kernel_rfl
theorem sizeOf46 (w : World) : (Go.sizeOf 46).run Tryd.prog w = .ok 2 w := by kernel_rfl
theorem sort44 (blk cap : Nat) (d : Array (Int × Int)) (w : World) (hH : HoldsK encT 2 w blk 0 d) (hblk : blk < w.heap.size) (hsz : d.size < 1000000) :
    Calls Tryd.prog 44 #[.slice (some ⟨blk, 0, none⟩) d.size cap, .func (.func 45) #[] #[]] w fun e w' =>
      e = .returned (.tuple #[]) ∧ ∃ d' n os, PermIn 0 d.size d d' ∧ SortedIn (ltOf cfR) 0 d.size d' ∧ w' = sortWorldK encT 2 w blk 0 n d' os :=
  Proofs.AnyQ.slices_SortFunc Proofs.Tryd.sortR 2 isAgg46 sizeOf46 encT (fun _ => rfl) (fun x v hv => by simp [encT] at hv; rcases hv with rfl | rfl <;> rfl) cfR swoR 45 #[] blk 0 cap d w
    (enters_of Tryd.func45 (by kernel_rfl) rfl) (cmpLays45 blk 0 d.size w) hH hblk (by omega)
theorem sort44_none (p : Option Addr) (cap : Nat) (fv : Value) (w : World) : Calls Tryd.prog 44 #[.slice p 0 cap, fv] w fun e w' => e = .returned (.tuple #[]) ∧ w = w' :=
  (Proofs.AnyF.slices_SortFunc_none { Proofs.Tryd.sortR with } p cap fv w).mono fun _ _ ⟨h1, h2⟩ => ⟨h1, h2.symm⟩
theorem grow_below (w : World) (os : Array Obj) : RowKit.Below w.heap.size w (grow w os) :=
  ⟨rfl, rfl, rfl, by simp [grow], fun k hk => heap_grow_old w os hk⟩
theorem sortWorldK_frm (w : World) (blk off n : Nat) (d : Array (Int × Int)) (os : Array Obj) : Frm w.heap.size (· = blk) w (sortWorldK encT 2 w blk off n d os) := by
  unfold sortWorldK
  refine Frm.then_ (b := putRowK encT 2 (Sort.ahead w n) blk off d) ?_ (grow_below _ _) (by simp [putRowK, putRow, mapBlock, Sort.ahead])
  refine ⟨rfl, rfl, rfl, by simp [putRowK, putRow, mapBlock, Sort.ahead], fun j hj hne => ?_⟩
  simp only [putRowK, putRow, mapBlock, Sort.ahead, Array.getElem?_modify]
  rw [if_neg (fun h => hne h.symm)]
theorem flatR_get : ∀ (l : List (Int × Int)) (j : Nat), j < l.length * 2 → (flat2 l)[j]? = some (encT l[j / 2]!)[j % 2]!
  | [], j, h => by simp at h
  | x :: l, 0, _ => by simp [flat2, encT]
  | x :: l, 1, _ => by simp [flat2, encT]
  | x :: l, j + 2, h => by
    have ih := flatR_get l j (by simp at h; omega)
    have e1 : (j + 2) / 2 = j / 2 + 1 := by omega
    have e2 : (j + 2) % 2 = j % 2 := by omega
    rw [e1, e2]
    simp only [List.getElem!_cons_succ]
    rw [← ih]
    simp [flat2]
theorem holds_of_own {w : World} {base g cap : Nat} {l : List (Int × Int)} (h : w.ownsRow base 46 2 (.slice (some ⟨g, 0, none⟩) l.length cap) l.length (flat2 l)) :
    HoldsK encT 2 w g 0 l.toArray := by
  intro j hj
  rw [size_flatK] at hj
  have hj' : j < l.length * 2 := by simpa using hj
  rw [get_flatK _ _ _ _ hj, Nat.zero_add]
  refine ⟨?_, h.frozenAt j⟩
  rw [h.cellAt j hj', flatR_get l j hj']
  simp
def leR (a b : Int × Int) : Prop := a.1 < b.1 ∨ (a.1 = b.1 ∧ a.2 ≤ b.2)
theorem sort_is (base : Nat) (v : Value) (l : List (Int × Int)) (W : World) (hown : W.ownsRow base 46 2 v l.length (flat2 l)) (hbase : base ≤ W.heap.size) (hlen : l.length ≤ 1000) :
    ∃ A c, v = .slice A l.length c ∧ Calls Tryd.prog 44 #[.slice A l.length c, .func (.func 45) #[] #[]] W fun e w' => e = .returned (.tuple #[]) ∧ ∃ l' : List (Int × Int), l'.Perm l ∧ l'.Pairwise leR ∧ Twos w' w'.heap.size A l' ∧ RowKit.Below base W w' ∧ Frm W.heap.size (fun j => v.ownBlock = some j) W w' ∧ (∀ b off, A = some ⟨b, off, none⟩ → off = 0 ∧ base ≤ b ∧ ∀ j, j < l.length * 2 → w'.frozen? ⟨b, j, none⟩ = false) := by
  rcases own_formS hown with ⟨rfl, h2⟩ | ⟨g, cap, rfl, hb, hg⟩
  · have hl : l = [] := List.length_eq_zero_iff.1 h2
    subst hl
    exact ⟨none, 0, rfl, (sort44_none none 0 _ W).mono fun e w' ⟨he, hw⟩ => ⟨he, [], .refl _, .nil, (fun (h : 0 < ([] : List (Int × Int)).length) => absurd h (by simp)), by rw [← hw]; exact RowKit.Below.refl _ _, by rw [← hw]; exact Frm.refl _ _ _, fun b off h => by cases h⟩⟩
  · refine ⟨_, _, rfl, ?_⟩
    have hH := holds_of_own hown
    have h := sort44 g cap l.toArray W hH hg (by simp; omega)
    rw [List.size_toArray] at h
    refine h.mono ?_
    rintro e w' ⟨rfl, d', n, os, hp, hs, rfl⟩
    have hsz : d'.size = l.length := by simpa using hp.1
    have hK : HoldsK encT 2 (sortWorldK encT 2 W g 0 n d' os) g 0 d' := holdsK_sortWorldK_c _ _ _ _ _ _ _ _ _ hH hg (by simpa using hp.1)
    have hz := (sortWorldK_frm W g 0 n d' os).size
    refine ⟨rfl, d'.toList, ?_, ?_, fun h0 => ⟨g, 0, rfl, by omega, fun k hk => ?_⟩, (sortWorldK_frm W g 0 n d' os).below (by omega) (fun k hk e => by omega), (sortWorldK_frm W g 0 n d' os).mono (Nat.le_refl _) (fun k _ e => by simp [Value.ownBlock, e]), fun b off h => by
      cases h
      refine ⟨rfl, hb, fun j hj => ?_⟩
      have := (hK j (by rw [size_flatK, hsz]; exact hj)).2
      rwa [Nat.zero_add] at this⟩
    · have := hp.2.2
      rw [show d'.extract 0 l.length = d' by rw [← hsz]; simp] at this
      simpa using this
    · rw [List.pairwise_iff_getElem]
      intro i j hi hj hij
      have := hs i j (Nat.zero_le _) hij (by simp at hj; omega)
      rw [ltR] at this
      simp only [Array.length_toList] at hi hj
      simp [hi, hj] at this
      unfold leR
      simp only [Array.getElem_toList]
      omega
    · have hk' : k < d'.size := by simpa using hk
      have c0 := (hK.cell hk' (c := 0) (by omega)).1
      have c1 := (hK.cell hk' (c := 1) (by omega)).1
      simp only [encT, getElem!_pos d' k hk'] at c0 c1
      exact ⟨by simpa using c0, by simpa using c1⟩
end Go.Proofs.YtomfnldlnoiloaaDoor
