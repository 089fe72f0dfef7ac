/- Law 6, the walk of a valid watch. -/
import Derived.Test.YtijgfdncocjncaaG14
namespace Go.Proofs.Ytijgfdncocjncaa
set_option linter.unusedVariables false
set_option linter.unusedSimpArgs false
open Go Go.RowKit

def inU (l : List (Int × Int)) (p : Int × Int) (k : Nat) : Bool := (l.take k).any fun q => decide (q.1 = p.1 ∧ q.2 = p.2)
theorem inU_succ {l : List (Int × Int)} {p : Int × Int} {k : Nat} (h : k < l.length) : inU l p (k + 1) = (inU l p k || decide (l[k].1 = p.1 ∧ l[k].2 = p.2)) := by
  unfold inU
  rw [List.take_succ_eq_append_getElem h, List.any_append]
  simp
theorem inU_mem {l : List (Int × Int)} {p : Int × Int} (h : p ∈ l) : inU l p l.length = true := by
  unfold inU
  rw [List.take_length]
  exact List.any_eq_true.2 ⟨p, h, by simp⟩
def trE (x : Wat) (r i : Nat) : List (Int × Int) := (x.er.take i).map fun p => (((sg x.hb.length r p.1.toNat : Nat) : Int), p.2)
theorem trE_succ {x : Wat} {r i q : Nat} (h : i < x.er.length) (hq : x.sp i = (q : Int)) : flat2 (trE x r (i + 1)) = flat2 (trE x r i) ++ [I (sg x.hb.length r q : Nat), I (x.tm i)] := by
  unfold trE
  rw [List.take_succ_eq_append_getElem h, List.map_append, flat2_app, er_get x h]
  simp [flat2, hq]
theorem trE_len (x : Wat) (r : Nat) : (trE x r x.er.length).length = x.er.length := by
  unfold trE
  rw [List.length_map, List.take_length]
theorem trE_turn {x : Wat} {r : Nat} {ml : List (Int × Int × Int × Int)} (hml : ml.length = x.hb.length) (hM : ∀ j, j < x.hb.length → ml.getD (sg x.hb.length r j) (0, 0, 0, 0) = x.hb.getD j (0, 0, 0, 0)) : IsTurn x ⟨ml, trE x r x.er.length, x.en⟩ r := by
  have he : ∀ i, (trE x r x.er.length).getD i (0, 0) = (x.er[i]?.map fun p => ((((sg x.hb.length r p.1.toNat : Nat) : Int), p.2) : Int × Int)).getD (0, 0) := fun i => by
    unfold trE
    rw [List.take_length, List.getD_eq_getElem?_getD, List.getElem?_map]
  refine ⟨hml, hM, trE_len x r, fun i k hi hs hk => ?_, fun i hi => ?_, rfl⟩
  · have hi' : i < x.er.length := hi
    show ((trE x r x.er.length).getD i (0, 0)).1 = _
    rw [he, List.getElem?_eq_getElem hi', er_get x hi']
    simp [hs, Wat.n]
  · have hi' : i < x.er.length := hi
    show ((trE x r x.er.length).getD i (0, 0)).2 = _
    rw [he, List.getElem?_eq_getElem hi', er_get x hi']
    simp
theorem turn_in64 {x y : Wat} {r : Nat} (h : IsTurn x y r) (hx : WatOk x) (h64 : Wat64 x) (hn : 0 < x.n) : Wat64 y := by
  have hy := h.ok hx hn
  have hl : y.hb.length = x.hb.length := h.n
  have hl2 : y.er.length = x.er.length := h.m
  refine ⟨by rw [h.en]; exact h64.en, fun k hk => ?_, fun i hi => ?_, by rw [hl]; exact h64.hlen, by rw [hl2]; exact h64.elen⟩
  · have hk2 : k < x.n := by rw [← h.n]; exact hk
    have hj := sg_lt (r := x.n - r % x.n) (k := k) hn
    have e := h.hb _ hj
    rw [sg_back2 hk2] at e
    have e1 : y.hb.getD k (0, 0, 0, 0) = y.hb[k] := by simp [List.getD_eq_getElem?_getD, hk]
    have hj2 : sg x.n (x.n - r % x.n) k < x.hb.length := hj
    have e2 : x.hb.getD (sg x.n (x.n - r % x.n) k) (0, 0, 0, 0) = x.hb[sg x.n (x.n - r % x.n) k] := by simp [List.getD_eq_getElem?_getD, hj2]
    rw [← e1, e, e2]
    exact h64.hb _ hj2
  · rw [er_get y hi]
    have h1 := hy.eru i hi
    have h2 := hy.en
    have h3 := hy.n6
    unfold In64
    have h4 := h1.sp
    have h5 := h1.tm
    exact ⟨⟨by show _ ≤ y.sp i; omega, by show y.sp i ≤ _; omega⟩, ⟨by show _ ≤ y.tm i; omega, by show y.tm i ≤ _; omega⟩⟩
theorem info54s : (Try.prog.info? 54).map (fun i => (i.zero, i.size, i.bytes)) = some (some (.agg #[I 0, I 0, I 0, I 0]), 4, 32) := by kernel_rfl
theorem made_flat4 {n : Nat} (h : n ≤ 6) : (madeCells (Value.agg #[I 0, I 0, I 0, I 0]).cells (n * 4)).toList = flat4 (List.replicate n (0, 0, 0, 0)) := by
  obtain rfl | rfl | rfl | rfl | rfl | rfl | rfl : n = 0 ∨ n = 1 ∨ n = 2 ∨ n = 3 ∨ n = 4 ∨ n = 5 ∨ n = 6 := by omega
  all_goals (simp [madeCells, Value.cells, flat4, List.replicate]; try rfl)
theorem flat4_setAll : ∀ (l : List (Int × Int × Int × Int)) (k : Nat) (p : Int × Int × Int × Int) (h : k < l.length), flat4 (l.set k p) = ((((flat4 l).set (k * 4) (I p.1)).set (k * 4 + 1) (I p.2.1)).set (k * 4 + 2) (I p.2.2.1)).set (k * 4 + 3) (I p.2.2.2)
  | s :: l, 0, p, _ => by simp [flat4]
  | s :: l, k + 1, p, h => by
    have ih := flat4_setAll l k p (by simpa using h)
    have e2 : ∀ (s : Int × Int × Int × Int) (l : List (Int × Int × Int × Int)), flat4 (s :: l) = I s.1 :: I s.2.1 :: I s.2.2.1 :: I s.2.2.2 :: flat4 l := fun s l => by simp [flat4]
    simp only [List.set_cons_succ]
    rw [e2, e2, ih, show (k + 1) * 4 = k * 4 + 1 + 1 + 1 + 1 by omega, show k * 4 + 1 + 1 + 1 + 1 + 1 = (k * 4 + 1) + 1 + 1 + 1 + 1 by omega, show k * 4 + 1 + 1 + 1 + 1 + 2 = (k * 4 + 2) + 1 + 1 + 1 + 1 by omega, show k * 4 + 1 + 1 + 1 + 1 + 3 = (k * 4 + 3) + 1 + 1 + 1 + 1 by omega]
    simp only [List.set_cons_succ]
theorem turn_set {hb ml : List (Int × Int × Int × Int)} {i k r : Nat} (h1 : i < ml.length) (h2 : ml.length = hb.length) (hM : ∀ j, j < i → ml.getD (sg ml.length r j) (0, 0, 0, 0) = hb.getD j (0, 0, 0, 0)) (hk : sg ml.length r i = k) (j : Nat) (hj : j < i + 1) : (ml.set k (hb[i]'(by omega))).getD (sg ml.length r j) (0, 0, 0, 0) = hb.getD j (0, 0, 0, 0) := by
  have hkl : k < ml.length := by rw [← hk]; exact sg_lt (by omega)
  by_cases e : j = i
  · subst e
    rw [hk]
    have h3 : j < hb.length := by omega
    simp [List.getD_eq_getElem?_getD, hkl, h3]
  · have hne : sg ml.length r j ≠ k := fun h => e (sg_inj (by omega) h1 (h.trans hk.symm))
    rw [← hM j (by omega)]
    simp only [List.getD_eq_getElem?_getD]
    rw [List.getElem?_set_ne (Ne.symm hne)]
theorem grown_setC2 (W : World) (p : Addr) (v : Value) : W.grownBy (W.setCell p v) (some p.block) :=
  ⟨rfl, rfl, rfl, by simp [World.setCell], fun k hk hne => Below.heap_setCell _ _ _ _ (fun e => hne (by rw [e]))⟩
theorem own_lenT {w : World} {base n k c size : Nat} {e : TypeId} {A : Option Addr} {v : Value} {xs : List Value} (h : w.ownsRow base e size v n xs) (hv : v = .slice A k c) : n = k := by
  rcases h.2 with ⟨h1, h2⟩ | ⟨g, cap, cur, h1, _⟩
  · rw [h1] at hv; cases hv; exact h2
  · rw [h1] at hv; cases hv; rfl
theorem shift_in64 {x : Wat} {L : Int} (hx : WatOk x) (h : ∀ k (h : k < x.er.length), In64 x.er[k].1 ∧ In64 x.er[k].2) (h2 : 0 ≤ L ∧ L ≤ 100000000) {k : Nat} (hk : k < (x.er.map fun p => (p.1, p.2 + L)).length) : In64 (x.er.map fun p => (p.1, p.2 + L))[k].1 ∧ In64 (x.er.map fun p => (p.1, p.2 + L))[k].2 := by
  have hk' : k < x.er.length := by rwa [List.length_map] at hk
  rw [List.getElem_map]
  refine ⟨(h k hk').1, ?_⟩
  have h3 := (hx.eru k hk').tm
  have h4 := hx.en
  rw [er_get x hk']
  unfold In64
  exact ⟨by show _ ≤ x.tm k + L; omega, by show x.tm k + L ≤ _; omega⟩
theorem sq_few (x : Wat) : (fewR x).1.length ≤ 36 := by
  unfold fewR
  cases hw : watB x
  · simp
  · have hn := (watB_iff.1 hw).n6
    cases hf : fewTo x x.n with
    | none => simp
    | some o =>
      have h := (fewTo_ok x x.n o hn hn hf).1
      show o.length ≤ 36
      omega
theorem sq_ned (x : Wat) : (nedR x).1.length ≤ 36 := by
  unfold nedR
  cases hw : watB x
  · simp
  · have hn := (watB_iff.1 hw).n6
    cases hf : nedTo x x.n with
    | none => simp
    | some o =>
      have h := (nedTo_ok x x.n o hn hn hf).1
      show o.length ≤ 36
      omega
theorem ned_lnk {x : Wat} (hw : watB x = true) : LnkOk x (nedR x).1 := by
  cases ho : nedTo x x.n with
  | none => rw [nedR_none hw ho]; exact fun p hp => by cases hp
  | some o => rw [nedR_of hw ho]; exact ned_ok ho
def shE (x : Wat) (L : Int) (i : Nat) : List (Int × Int) := (x.er.take i).map fun p => (p.1, p.2 + L)
theorem shE_succ {x : Wat} {L : Int} {i : Nat} (h : i < x.er.length) : flat2 (shE x L (i + 1)) = flat2 (shE x L i) ++ [I (x.sp i), I (x.tm i + L)] := by
  unfold shE
  rw [List.take_succ_eq_append_getElem h, List.map_append, flat2_app, er_get x h]
  simp [flat2]
theorem shE_all (x : Wat) (L : Int) : shE x L x.er.length = (shiftW x L).er := by
  unfold shE shiftW
  rw [List.take_length]
set_option maxRecDepth 100000 in
set_option maxHeartbeats 8000000 in
theorem any6_ok (x : Wat) (A B : Option Addr) (c d : Nat) (f t : Int) (la tu : Nat) (w : World) (h64 : Wat64 x) (hW : WatAt w x A B) (hla : la < 65536) (htu : tu < 256) (hlg : lrgB x 40 = false) (hwb : watB x = true) (hov : x.en + la ≤ 1048576) :
    Calls Try.prog 6 #[x.val A c B d, .agg #[I f, I t], .int .u16 la, .int .u8 tu] w fun e w' => e = .returned (.bool true) ∧ Below w.heap.size w w' := by
  have HWA : Hid (∀ W, Below w.heap.size w W → WatAt W x A B) := Lib.hid fun W h => hW.below h
  have H8 : Hid (∀ W, Calls Try.prog 8 #[x.val A c B d, I 40] W fun e w' => e = .returned (.bool false) ∧ Below W.heap.size W w') := Lib.hid fun W => by have h := large8b x A B c d 40 W h64; rw [hlg] at h; exact h
  obtain ⟨b1, z3, z4, hh⟩ : ∃ b1 z3 z4, hldR x f t = (b1, z3, z4) := ⟨_, _, _, rfl⟩
  have hx := watB_iff.1 hwb
  have HXX := Lib.hid hx
  have hen := hx.en
  have hm64 : x.er.length ≤ 64 := hx.m64
  have hn6 : x.hb.length ≤ 6 := hx.n6
  obtain ⟨fs, z1, hfs⟩ : ∃ fs z1, fewR x = (fs, z1) := ⟨_, _, rfl⟩
  obtain ⟨ns, z2, hns⟩ : ∃ ns z2, nedR x = (ns, z2) := ⟨_, _, rfl⟩
  have hz1 : (z1 == 1) = false := by
    have h : (fewR x).2 = 0 ∨ (fewR x).2 = 4 := by
      cases ho : fewTo x x.n with
      | none => rw [fewR_none hwb ho]; exact .inr rfl
      | some o => rw [fewR_of hwb ho]; exact .inl rfl
    rw [hfs] at h
    rcases h with h | h
    · show (z1 == 1) = false
      rw [show z1 = 0 from h]; rfl
    · show (z1 == 1) = false
      rw [show z1 = 4 from h]; rfl
  have hfl : fs.length ≤ 36 := by have h := (sq_few x); rw [hfs] at h; exact h
  have hnl : ns.length ≤ 36 := by have h := (sq_ned x); rw [hns] at h; exact h
  have hcv : IntKind.i64.wrap (la : Int) = (la : Int) := IntWalk.i64_in _ (by omega)
  have hcu : IntKind.i64.wrap (tu : Int) = (tu : Int) := IntWalk.i64_in _ (by omega)
  have hcw : IntKind.i64.wrap (x.en + la) = x.en + la := IntWalk.i64_in _ (by omega)
  have hovb : decide (1048576 < x.en + la) = false := decide_eq_false (by omega)
  obtain ⟨s1, s2, s3⟩ := shiftW_all (L := (la : Int)) hx (by omega) hov f t
  have hs64 : Wat64 (shiftW x la) := ⟨by unfold In64; show -9223372036854775808 ≤ x.en + la ∧ x.en + la ≤ 9223372036854775807; omega, h64.hb, fun k h => shift_in64 hx h64.er (by omega) h, h64.hlen, by show (x.er.map _).length ≤ _; rw [List.length_map]; exact h64.elen⟩
  have hsv : ∀ (Ai : Option Addr) (ci : Nat), (shiftW x la).val A c Ai ci = .agg #[.slice A x.hb.length c, .slice Ai x.er.length ci, I (x.en + la)] := fun Ai ci => by
    unfold Wat.val
    rw [show (shiftW x la).er.length = x.er.length from List.length_map _]
    rfl
  have HS15 : Hid (∀ (Ai : Option Addr) (ci : Nat) W, WatAt W (shiftW x la) A Ai → Calls Try.prog 15 #[.agg #[.slice A x.hb.length c, .slice Ai x.er.length ci, I (x.en + la)]] W fun e w' => ∃ A' c', e = .returned (.tuple #[.slice A' fs.length c', I z1]) ∧ Twos w' w'.heap.size A' fs ∧ Below W.heap.size W w') := Lib.hid fun Ai ci W h => by have := fewest15 (shiftW x la) A Ai c ci W hs64 h; rw [s1, hfs, hsv] at this; exact this
  have HS17 : Hid (∀ (Ai : Option Addr) (ci : Nat) W, WatAt W (shiftW x la) A Ai → Calls Try.prog 17 #[.agg #[.slice A x.hb.length c, .slice Ai x.er.length ci, I (x.en + la)]] W fun e w' => ∃ A' c', e = .returned (.tuple #[.slice A' ns.length c', I z2]) ∧ Twos w' w'.heap.size A' ns ∧ Below W.heap.size W w') := Lib.hid fun Ai ci W h => by have := needed17 (shiftW x la) A Ai c ci W hs64 h; rw [s2, hns, hsv] at this; exact this
  have HS10 : Hid (∀ (Ai : Option Addr) (ci : Nat) W, WatAt W (shiftW x la) A Ai → Calls Try.prog 10 #[.agg #[.slice A x.hb.length c, .slice Ai x.er.length ci, I (x.en + la)], .agg #[I f, I t]] W fun e w' => e = .returned (.tuple #[.bool b1, I z3, I z4]) ∧ Below W.heap.size W w') := Lib.hid fun Ai ci W h => by have := holds10 (shiftW x la) A Ai c ci f t W hs64 h; rw [s3, hh, hsv] at this; exact this
  have H15 : Hid (∀ W, WatAt W x A B → Calls Try.prog 15 #[x.val A c B d] W fun e w' => ∃ A' c', e = .returned (.tuple #[.slice A' fs.length c', I z1]) ∧ Twos w' w'.heap.size A' fs ∧ Below W.heap.size W w') := Lib.hid fun W h => by have := fewest15 x A B c d W h64 h; rw [hfs] at this; exact this
  have H17 : Hid (∀ W, WatAt W x A B → Calls Try.prog 17 #[x.val A c B d] W fun e w' => ∃ A' c', e = .returned (.tuple #[.slice A' ns.length c', I z2]) ∧ Twos w' w'.heap.size A' ns ∧ Below W.heap.size W w') := Lib.hid fun W h => by have := needed17 x A B c d W h64 h; rw [hns] at this; exact this
  have H10 : Hid (∀ W, WatAt W x A B → Calls Try.prog 10 #[x.val A c B d, .agg #[I f, I t]] W fun e w' => e = .returned (.tuple #[.bool b1, I z3, I z4]) ∧ Below W.heap.size W w') := Lib.hid fun W h => by have := holds10 x A B c d f t W h64 h; rw [hh] at this; exact this
  have H20 : Hid (∀ W, WatAt W x A B → Calls Try.prog 20 #[x.val A c B d] W fun e w' => e = .returned (.bool true) ∧ Below W.heap.size W w') := Lib.hid fun W h => by have h := watch20 x A B c d W h64 h; rw [hwb] at h; exact h
  have H19f : Hid (∀ A A' c c' W, Twos W W.heap.size A fs → Twos W W.heap.size A' fs → Calls Try.prog 19 #[.slice A fs.length c, .slice A' fs.length c'] W fun e w' => e = .returned (.bool true) ∧ Below W.heap.size W w') := Lib.hid fun A A' c c' W h h' => by have := links19 A A' c c' fs fs W h h' (by omega) (by omega); simpa using this
  have H19n : Hid (∀ A A' c c' W, Twos W W.heap.size A ns → Twos W W.heap.size A' ns → Calls Try.prog 19 #[.slice A ns.length c, .slice A' ns.length c'] W fun e w' => e = .returned (.bool true) ∧ Below W.heap.size W w') := Lib.hid fun A A' c c' W h h' => by have := links19 A A' c c' ns ns W h h' (by omega) (by omega); simpa using this
  have HTURN : Hid (∀ y, IsTurn x y tu → 0 < x.n → (fewR y).2 = z1 ∧ (nedR y).2 = z2 ∧ (fewR y).1.length = fs.length ∧ (nedR y).1.length = ns.length ∧ ∀ p, p ∈ ns → sg2 x.n tu p ∈ (nedR y).1) := Lib.hid fun y h h0 => by
    have h1 := h.all hx h0
    rw [hfs, hns] at h1
    exact h1
  have HNOK : Hid (∀ p, p ∈ ns → ∃ f t : Nat, p = ((f : Int), (t : Int)) ∧ f < x.hb.length ∧ t < x.hb.length) := Lib.hid fun p hp => by
    have h := ned_lnk hwb
    rw [hns] at h
    obtain ⟨f, t, h1, h2, h3, _⟩ := h p hp
    exact ⟨f, t, h1, h2, h3⟩
  have HER : Hid (∀ k (h : k < x.er.length), x.er[k].1 = x.sp k ∧ x.er[k].2 = x.tm k) := Lib.hid fun k h => by rw [er_get x h]; exact ⟨rfl, rfl⟩
  have HTM : Hid (∀ k, k < x.er.length → 0 ≤ x.tm k ∧ x.tm k ≤ x.en) := Lib.hid fun k hk => (hx.eru k hk).tm
  have HSE : Hid (∀ i, i < x.er.length → flat2 (shE x la (i + 1)) = flat2 (shE x la i) ++ [I (x.sp i), I (x.tm i + la)]) := Lib.hid fun i h => shE_succ h
  obtain ⟨i0, hi0, hi1, hi2, hi3⟩ := info_parts info50
  clear hh hfs hns hx s1 s2 s3 hsv hs64
  have H9 := Lib.hid awake9
  have hv : x.val A c B d = .agg #[.slice A x.hb.length c, .slice B x.er.length d, I x.en] := rfl
  rw [hv] at H8 H15 H17 H10 H20 ⊢
  clear hv
  have HX0 : Hid (Box ((w.alloc (.cells #[.slice A x.hb.length c, .slice B x.er.length d, I x.en] 25)).alloc (.cells #[I f, I t] 27)) w.heap.size [.slice A x.hb.length c, .slice B x.er.length d, I x.en]) := Lib.hid ((Box.new w [.slice A x.hb.length c, .slice B x.er.length d, I x.en] 25).alloc _)
  have HL0 : Hid (Box ((w.alloc (.cells #[.slice A x.hb.length c, .slice B x.er.length d, I x.en] 25)).alloc (.cells #[I f, I t] 27)) (w.heap.size + 1) [I f, I t]) := Lib.hid (by have := Box.new (w.alloc (.cells #[.slice A x.hb.length c, .slice B x.er.length d, I x.en] 25)) [I f, I t] 27; rw [World.size_alloc] at this; exact this)
  have HB0 : Hid (Below w.heap.size w ((w.alloc (.cells #[.slice A x.hb.length c, .slice B x.er.length d, I x.en] 25)).alloc (.cells #[I f, I t] 27))) := Lib.hid (by (repeat' (first | assumption | exact Below.refl _ _ | refine Below.drew ?_ | refine below_drewN ?_ _ | refine Below.setCell ?_ (by first | omega | (simp; done) | (simp; omega)) _ | refine Below.alloc ?_ (by first | omega | (simp; done) | (simp; omega)) _ | refine Below.trans ?_ (Below.mono (by assumption) (by first | omega | (simp; done) | (simp; omega))))))
  have HZ0 : Hid (((w.alloc (.cells #[.slice A x.hb.length c, .slice B x.er.length d, I x.en] 25)).alloc (.cells #[I f, I t] 27)).heap.size = w.heap.size + 2) := Lib.hid (by simp)
  go_enter Try.func6, Try.ntmps6
  go_upto_region 1 with (fail)
  generalize ((w.alloc (.cells #[.slice A x.hb.length c, .slice B x.er.length d, I x.en] 25)).alloc (.cells #[I f, I t] 27)) = w0 at *
  have hz0 := HZ0.out
  have HCP : Hid (∀ W, Below (w.heap.size + 2) w0 W → W.cell? ⟨w.heap.size, 0, none⟩ = some (.slice A x.hb.length c) ∧ W.cell? ⟨w.heap.size, 1, none⟩ = some (.slice B x.er.length d) ∧ W.cell? ⟨w.heap.size, 2, none⟩ = some (I x.en) ∧ W.cell? ⟨w.heap.size + 1, 0, none⟩ = some (I f) ∧ W.cell? ⟨w.heap.size + 1, 1, none⟩ = some (I t) ∧ w.heap.size + 2 ≤ W.heap.size ∧ WatAt W x A B ∧ Below w.heap.size w W) := Lib.hid fun W hB => by
    have h1 := HX0.out.below hB (by omega)
    have h2 := HL0.out.below hB (by omega)
    have h3 := HB0.out.trans (hB.mono (by omega))
    exact ⟨(h1.at_ 0 _ rfl).1, (h1.at_ 1 _ rfl).1, (h1.at_ 2 _ rfl).1, (h2.at_ 0 _ rfl).1, (h2.at_ 1 _ rfl).1, by have := hB.size; omega, HWA.out W h3, h3⟩
  have HN : Hid (Below (w.heap.size + 2) w0 w0) := Lib.hid (Below.refl _ _)
  obtain ⟨m0, m1, m2, l0, l1, hzN, hWN, hBN⟩ := HCP.out _ HN.out
  clear HX0 HL0 HB0
  go_upto_region 8 with (first
    | (go_at_call 8; refine (H8.out _).mono ?_; rintro e w1 ⟨rfl, hB⟩; clear H8; replace HN := Lib.hid (HN.out.trans (hB.mono hzN)); clear m0 m1 m2 l0 l1 hzN hWN hBN; obtain ⟨m0, m1, m2, l0, l1, hzN, hWN, hBN⟩ := HCP.out _ HN.out; clear hB)
    | (go_at_call 15; refine (H15.out _ hWN).mono ?_; rintro e w1 ⟨A15, c15, rfl, ht, hB⟩; clear H15; have HT15 := Lib.hid ht; clear ht; replace HN := Lib.hid (HN.out.trans (hB.mono hzN)); clear m0 m1 m2 l0 l1 hzN hWN hBN; obtain ⟨m0, m1, m2, l0, l1, hzN, hWN, hBN⟩ := HCP.out _ HN.out; clear hB)
    | (go_at_call 17; refine (H17.out _ hWN).mono ?_; rintro e w1 ⟨A17, c17, rfl, ht, hB⟩; clear H17; have HT17 := Lib.hid ht; clear ht; replace HT15 := Lib.hid ((HT15.out.below hB).more hB.size); replace HN := Lib.hid (HN.out.trans (hB.mono hzN)); clear m0 m1 m2 l0 l1 hzN hWN hBN; obtain ⟨m0, m1, m2, l0, l1, hzN, hWN, hBN⟩ := HCP.out _ HN.out; clear hB)
    | (go_at_call 10; refine (H10.out _ hWN).mono ?_; rintro e w1 ⟨rfl, hB⟩; clear H10; replace HT15 := Lib.hid ((HT15.out.below hB).more hB.size); replace HT17 := Lib.hid ((HT17.out.below hB).more hB.size); replace HN := Lib.hid (HN.out.trans (hB.mono hzN)); clear m0 m1 m2 l0 l1 hzN hWN hBN; obtain ⟨m0, m1, m2, l0, l1, hzN, hWN, hBN⟩ := HCP.out _ HN.out; clear hB)
    | (go_at_call 20; refine (H20.out _ hWN).mono ?_; rintro e w1 ⟨rfl, hB⟩; clear H20; replace HT15 := Lib.hid ((HT15.out.below hB).more hB.size); replace HT17 := Lib.hid ((HT17.out.below hB).more hB.size); replace HN := Lib.hid (HN.out.trans (hB.mono hzN)); clear m0 m1 m2 l0 l1 hzN hWN hBN; obtain ⟨m0, m1, m2, l0, l1, hzN, hWN, hBN⟩ := HCP.out _ HN.out; clear hB)
    | fail)
  go_upto_region 9 with (fail)
  obtain ⟨PL, hPL⟩ : ∃ PL, w1.heap.size = PL := ⟨_, rfl⟩
  obtain ⟨w5, hw5⟩ : ∃ w5, w1.alloc (.cells #[.slice A x.hb.length c, .slice B x.er.length d, I x.en] 25) = w5 := ⟨_, rfl⟩
  have hL5 : Box w5 PL [.slice A x.hb.length c, .slice B x.er.length d, I x.en] := by rw [← hw5, ← hPL]; exact Box.new w1 _ 25
  have hN5 : Below (w.heap.size + 2) w0 w5 := by rw [← hw5]; exact HN.out.alloc hzN _
  have HT5 : Hid (Twos w5 PL A15 fs) := Lib.hid (by rw [← hw5, ← hPL]; exact HT15.out.below (below1 w1 _))
  have HT7 : Hid (Twos w5 PL A17 ns) := Lib.hid (by rw [← hw5, ← hPL]; exact HT17.out.below (below1 w1 _))
  rw [hw5]
  rw [hPL] at hzN ⊢
  have hPN : w.heap.size + 2 ≤ PL := hzN
  have hz5 : PL < w5.heap.size := hL5.1
  clear hw5 hPL m0 m1 m2 l0 l1 hzN hWN hBN HN HT15 HT17
  obtain ⟨m0, m1, m2, l0, l1, hzN, hWN, hBN⟩ := HCP.out _ hN5
  obtain ⟨q2, qf2⟩ := hL5.at_ 2 _ rfl
  go_upto_region 10 with (fail)
  obtain ⟨w6, hw6⟩ : ∃ w6, w5.setCell ⟨PL, 2, none⟩ (I (x.en + la)) = w6 := ⟨_, rfl⟩
  have hL6 : Box w6 PL [.slice A x.hb.length c, .slice B x.er.length d, I (x.en + la)] := by rw [← hw6]; exact hL5.set 2 _
  have hB56 : Below PL w5 w6 := by rw [← hw6]; exact (Below.refl _ w5).setCell (p := ⟨PL, 2, none⟩) (show PL ≤ PL from Nat.le_refl _) _
  rw [hw6]
  clear hw6 q2 qf2 m0 m1 m2 l0 l1 hzN hWN hBN
  obtain ⟨q1, qf1⟩ := hL6.at_ 1 _ rfl
  go_upto_region 11 with (fail)
  obtain ⟨w7, hw7⟩ : ∃ w7, w6.setCell ⟨PL, 1, none⟩ (.slice none 0 0) = w7 := ⟨_, rfl⟩
  have HL7 : Hid (Box w7 PL [.slice A x.hb.length c, .slice none 0 0, I (x.en + la)]) := Lib.hid (by rw [← hw7]; exact hL6.set 1 _)
  have hB57 : Below PL w5 w7 := hB56.trans (by rw [← hw7]; exact (Below.refl _ w6).setCell (p := ⟨PL, 1, none⟩) (show PL ≤ PL from Nat.le_refl _) _)
  have HN7 : Hid (Below (w.heap.size + 2) w0 w7) := Lib.hid (hN5.trans (hB57.mono hPN))
  replace HT5 := Lib.hid (HT5.out.below hB57)
  replace HT7 := Lib.hid (HT7.out.below hB57)
  have hz7 : PL < w7.heap.size := HL7.out.1
  rw [hw7]
  clear hw7 q1 qf1 hL5 hL6 hB56 hB57 hN5 hz5
  go_wp2_with (fail)
  go_loopw [17] (fun s wr => ∃ (i : Nat) (v : Value), i ≤ x.er.length ∧ s = I i ∧ Below PL w7 wr ∧ Hid (Box wr PL [.slice A x.hb.length c, v, I (x.en + la)]) ∧ Hid (wr.ownsRow (PL + 1) 50 2 v i (flat2 (shE x la i)))) (fun s _ => x.er.length - (intOf s).toNat)
  case atStart => exact ⟨0, .slice none 0 0, by omega, rfl, Below.refl _ _, HL7, Lib.hid (World.ownsRow_nil _ _ _ _)⟩
  case round =>
    obtain ⟨i, v, hi, rfl, hB, HL, HO⟩ := hrel
    obtain ⟨m0, m1, m2, l0, l1, hzN, hWN, hBN⟩ := HCP.out _ (HN7.out.trans (hB.mono hPN))
    have hzL := HL.out.1
    by_cases hlt : i < x.er.length
    ·
      obtain ⟨eb, eo, rfl, hez, hec⟩ := hWN.er (by omega)
      obtain ⟨e0, e1⟩ := hec i hlt
      rw [(HER.out i hlt).1] at e0
      rw [(HER.out i hlt).2] at e1
      have hti := HTM.out i hlt
      have HSi := Lib.hid (HSE.out i hlt)
      have p0 : (0 : Int) ≤ (i : Int) := by omega
      have p1 : (i : Int) < (x.er.length : Int) := by omega
      generalize x.sp i = spi at *
      generalize x.tm i = tmi at *
      have hwt : IntKind.i64.wrap (tmi + la) = tmi + la := IntWalk.i64_in _ (by omega)
      have HOa := Lib.hid ((HO.out.alloc (.cells #[I spi, I tmi] 50)).alloc (.cells #[I spi, I (tmi + la)] 50))
      have hs4 := HO.out.lt
      have hbi := (HL.out.alloc (.cells #[I spi, I tmi] 50)).alloc (.cells #[I spi, I (tmi + la)] 50)
      have HBI := Lib.hid hbi
      obtain ⟨q1, qf1⟩ := (HL.out.alloc (.cells #[I spi, I tmi] 50)).at_ 1 _ rfl
      have HCN : Hid (∀ j u, [I spi, I (tmi + la)][j]? = some u → ((wr.alloc (.cells #[I spi, I tmi] 50)).alloc (.cells #[I spi, I (tmi + la)] 50)).cell? ((⟨wr.heap.size + 1, 0, none⟩ : Addr).add j) = some u) := Lib.hid fun j u h => by
        have := cells_new (wr.alloc (.cells #[I spi, I tmi] 50)) [I spi, I (tmi + la)] 50 j u h
        rwa [World.size_alloc] at this
      clear hec hWN
      go_wp2_with (first
        | (at_builtin; go_must (refine wpList_append_own _ rfl _ _ 23 rfl (PL + 1) 50 i0 (.agg #[I 0, I 0]) 2 16 Try.underlying23 hi0 hi1 hi2 hi3 rfl (by decide) v i (flat2 (shE x la i)) (by go_simp) HOa.out ⟨wr.heap.size + 1, 0, none⟩ 1 1 [I spi, I (tmi + la)] (by go_simp) rfl HCN.out (by simp [Value.oneCell']) (by unfold maxLen; omega) (by omega) (by simp; omega) ?_); intro v' w6_ hown6 hg6 _; obtain ⟨Av, kv, cv, hvv⟩ := own_slice hown6; obtain rfl := own_lenT hown6 hvv; subst hvv; have hL6 := HBI.out.grown hg6 (by intro e; have := (hs4 PL e).1; omega); obtain ⟨q1', qf1'⟩ := hL6.at_ 1 _ rfl)
        | fail)
      have HF1 : Hid (Below PL w7 (w6_.setCell ⟨PL, 1, none⟩ (.slice Av (i + 1) cv))) := Lib.hid ((((hB.alloc (by omega) _).alloc (by simp; omega) _).grown hg6 (by simp; omega) (fun g e => by have := (hs4 g e).1; omega)).setCell (p := ⟨PL, 1, none⟩) (show PL ≤ PL from Nat.le_refl _) _)
      have HF2 : Hid (Box (w6_.setCell ⟨PL, 1, none⟩ (.slice Av (i + 1) cv)) PL [.slice A x.hb.length c, .slice Av (i + 1) cv, I (x.en + la)]) := Lib.hid (hL6.set 1 _)
      have HF3 : Hid ((w6_.setCell ⟨PL, 1, none⟩ (.slice Av (i + 1) cv)).ownsRow (PL + 1) 50 2 (.slice Av (i + 1) cv) (i + 1) (flat2 (shE x la (i + 1)))) := Lib.hid (by
        rw [HSi.out]
        exact hown6.kept (grown_setC2 w6_ ⟨PL, 1, none⟩ _) (.inr (fun e => by have := (hown6.lt PL e).1; omega)))
      clear hown6 hg6 hL6 q1' qf1' q1 qf1 hbi HBI HOa
      go_roundw
      case rel => first | exact ⟨i + 1, _, by omega, by go_num, HF1.out, HF2, HF3⟩ | ((repeat apply Exists.intro); refine ⟨?_, rfl⟩; exact ⟨i + 1, _, by omega, by go_num, HF1.out, HF2, HF3⟩)
      case measure => first | (simp [intOf]; done) | (simp [intOf]; omega)
    · obtain rfl : i = x.er.length := by omega
      have hown := HO.out
      rw [shE_all] at hown
      obtain ⟨Ai, ci, hv, hTi, _⟩ := twos_own hown (show (x.er.map _).length = x.er.length from List.length_map _)
      subst hv
      have HWS : Hid (WatAt wr (shiftW x la) A Ai) := Lib.hid ⟨hWN.hb, hTi⟩
      have HBP := Lib.hid hB
      have HLL := HL
      have HT15 : Hid (Twos wr wr.heap.size A15 fs) := Lib.hid ((HT5.out.below hB).more (by omega))
      have HT17 : Hid (Twos wr wr.heap.size A17 ns) := Lib.hid ((HT7.out.below hB).more (by omega))
      obtain ⟨q0, qf0⟩ := HLL.out.at_ 0 _ rfl
      obtain ⟨q1, qf1⟩ := HLL.out.at_ 1 _ rfl
      obtain ⟨q2, qf2⟩ := HLL.out.at_ 2 _ rfl
      clear hown hTi hWN HO HL HT5 HT7 hB
      have tok1 : True := trivial
      go_upto_region 22 with (first
        | (go_at_call 15; refine (HS15.out Ai ci _ HWS.out).mono ?_; rintro e w21 ⟨A19, c19, rfl, ht, hB⟩; clear HS15; have HT19 := Lib.hid ht; clear ht; replace HT15 := Lib.hid ((HT15.out.below hB).more hB.size); replace HT17 := Lib.hid ((HT17.out.below hB).more hB.size); replace HWS := Lib.hid (HWS.out.below hB); replace HLL := Lib.hid (HLL.out.call hB); replace HBP := Lib.hid (HBP.out.trans (hB.mono (by omega))); clear m0 m1 m2 l0 l1 hzN hBN q0 qf0 q1 qf1 q2 qf2; obtain ⟨m0, m1, m2, l0, l1, hzN, _, hBN⟩ := HCP.out _ (HN7.out.trans (HBP.out.mono hPN)); obtain ⟨q0, qf0⟩ := HLL.out.at_ 0 _ rfl; obtain ⟨q1, qf1⟩ := HLL.out.at_ 1 _ rfl; obtain ⟨q2, qf2⟩ := HLL.out.at_ 2 _ rfl; replace hzL := HLL.out.1; clear hB)
        | (go_at_call 17; refine (HS17.out Ai ci _ HWS.out).mono ?_; rintro e w21 ⟨A21, c21, rfl, ht, hB⟩; clear HS17; have HT21 := Lib.hid ht; clear ht; replace HT15 := Lib.hid ((HT15.out.below hB).more hB.size); replace HT17 := Lib.hid ((HT17.out.below hB).more hB.size); replace HT19 := Lib.hid ((HT19.out.below hB).more hB.size); replace HWS := Lib.hid (HWS.out.below hB); replace HLL := Lib.hid (HLL.out.call hB); replace HBP := Lib.hid (HBP.out.trans (hB.mono (by omega))); clear m0 m1 m2 l0 l1 hzN hBN q0 qf0 q1 qf1 q2 qf2; obtain ⟨m0, m1, m2, l0, l1, hzN, _, hBN⟩ := HCP.out _ (HN7.out.trans (HBP.out.mono hPN)); obtain ⟨q0, qf0⟩ := HLL.out.at_ 0 _ rfl; obtain ⟨q1, qf1⟩ := HLL.out.at_ 1 _ rfl; obtain ⟨q2, qf2⟩ := HLL.out.at_ 2 _ rfl; replace hzL := HLL.out.1; clear hB)
        | (go_at_call 10; refine (HS10.out Ai ci _ HWS.out).mono ?_; rintro e w21 ⟨rfl, hB⟩; clear HS10; replace HT15 := Lib.hid ((HT15.out.below hB).more hB.size); replace HT17 := Lib.hid ((HT17.out.below hB).more hB.size); replace HT19 := Lib.hid ((HT19.out.below hB).more hB.size); replace HT21 := Lib.hid ((HT21.out.below hB).more hB.size); replace HWS := Lib.hid (HWS.out.below hB); replace HLL := Lib.hid (HLL.out.call hB); replace HBP := Lib.hid (HBP.out.trans (hB.mono (by omega))); clear m0 m1 m2 l0 l1 hzN hBN q0 qf0 q1 qf1 q2 qf2; obtain ⟨m0, m1, m2, l0, l1, hzN, _, hBN⟩ := HCP.out _ (HN7.out.trans (HBP.out.mono hPN)); obtain ⟨q0, qf0⟩ := HLL.out.at_ 0 _ rfl; obtain ⟨q1, qf1⟩ := HLL.out.at_ 1 _ rfl; obtain ⟨q2, qf2⟩ := HLL.out.at_ 2 _ rfl; replace hzL := HLL.out.1; clear hB)
        | (go_at_call 19; have _t := tok1; clear _t tok1; refine (H19f.out _ _ _ _ _ HT15.out HT19.out).mono ?_; rintro e w21 ⟨rfl, hB⟩; clear H19f HT19; replace HT15 := Lib.hid ((HT15.out.below hB).more hB.size); replace HT17 := Lib.hid ((HT17.out.below hB).more hB.size); replace HT21 := Lib.hid ((HT21.out.below hB).more hB.size); replace HWS := Lib.hid (HWS.out.below hB); replace HLL := Lib.hid (HLL.out.call hB); replace HBP := Lib.hid (HBP.out.trans (hB.mono (by omega))); clear m0 m1 m2 l0 l1 hzN hBN q0 qf0 q1 qf1 q2 qf2; obtain ⟨m0, m1, m2, l0, l1, hzN, _, hBN⟩ := HCP.out _ (HN7.out.trans (HBP.out.mono hPN)); obtain ⟨q0, qf0⟩ := HLL.out.at_ 0 _ rfl; obtain ⟨q1, qf1⟩ := HLL.out.at_ 1 _ rfl; obtain ⟨q2, qf2⟩ := HLL.out.at_ 2 _ rfl; replace hzL := HLL.out.1; clear hB)
        | (go_at_call 19; refine (H19n.out _ _ _ _ _ HT17.out HT21.out).mono ?_; rintro e w21 ⟨rfl, hB⟩; clear H19n HT21; replace HT15 := Lib.hid ((HT15.out.below hB).more hB.size); replace HT17 := Lib.hid ((HT17.out.below hB).more hB.size); replace HWS := Lib.hid (HWS.out.below hB); replace HLL := Lib.hid (HLL.out.call hB); replace HBP := Lib.hid (HBP.out.trans (hB.mono (by omega))); clear m0 m1 m2 l0 l1 hzN hBN q0 qf0 q1 qf1 q2 qf2; obtain ⟨m0, m1, m2, l0, l1, hzN, _, hBN⟩ := HCP.out _ (HN7.out.trans (HBP.out.mono hPN)); obtain ⟨q0, qf0⟩ := HLL.out.at_ 0 _ rfl; obtain ⟨q1, qf1⟩ := HLL.out.at_ 1 _ rfl; obtain ⟨q2, qf2⟩ := HLL.out.at_ 2 _ rfl; replace hzL := HLL.out.1; clear hB)
        | fail)
      clear q0 qf0 q1 qf1 q2 qf2 HWS HLL
      by_cases hn0 : x.hb.length = 0
      · have hn0b : ((x.hb.length : Int) == 0) = true := by rw [hn0]; rfl
        go_wp2_with (first
          | (go_at_call 9; refine (H9.out _).mono ?_; rintro e w9 ⟨rfl, hB9⟩)
          | fail)
        exact bodyPost_ret (v := .bool true) (by simp [results, Try.results6, go_sem]) rfl ⟨rfl, hBN.trans (hB9.mono hBN.size)⟩
      · have hn0b : ((x.hb.length : Int) == 0) = false := beq_eq_false_iff_ne.2 (by omega)
        have hnil : ¬ x.hb = [] := by intro h; rw [h] at hn0; exact hn0 rfl
        go_upto_region 24 with (fail)
        have hN21 := HN7.out.trans (HBP.out.mono hPN)
        go_upto_region 25 with (fail)
        obtain ⟨PO, hPO⟩ : ∃ PO, w21.heap.size = PO := ⟨_, rfl⟩
        obtain ⟨w30, hw30⟩ : ∃ w30, w21.alloc (.cells #[.slice A x.hb.length c, .slice B x.er.length d, I x.en] 25) = w30 := ⟨_, rfl⟩
        have hL30 : Box w30 PO [.slice A x.hb.length c, .slice B x.er.length d, I x.en] := by rw [← hw30, ← hPO]; exact Box.new w21 _ 25
        have hN30 : Below (w.heap.size + 2) w0 w30 := by rw [← hw30]; exact hN21.alloc hzN _
        have HT5 : Hid (Twos w30 PO A15 fs) := Lib.hid (by rw [← hw30, ← hPO]; exact HT15.out.below (below1 w21 _))
        have HT7 : Hid (Twos w30 PO A17 ns) := Lib.hid (by rw [← hw30, ← hPO]; exact HT17.out.below (below1 w21 _))
        have hz30 : w30.heap.size = PO + 1 := by rw [← hw30, ← hPO]; simp
        rw [hw30]
        rw [hPO] at hzN ⊢
        have hPON : w.heap.size + 2 ≤ PO := hzN
        clear hw30 hPO m0 m1 m2 l0 l1 hzN hBN HT15 HT17 hN21 HBP
        obtain ⟨j0, hj0, hj1, hj2, hj3⟩ := info_parts info54s
        go_upto_region 26 with (first
          | (at_make; go_must (refine wpList_make_full _ rfl _ _ 22 rfl w30.heap.size 54 j0 (.agg #[I 0, I 0, I 0, I 0]) 4 Try.underlying22 hj0 hj1 hj2 .i64 .i64 x.hb.length x.hb.length x.hb.length (by go_simp) (by go_simp) rfl rfl (by rw [hj3]; omega) (by unfold maxLen; omega) (Nat.le_refl _) ?_); intro w31 hown hg; have hL31 := hL30.grown hg (by simp); obtain ⟨q0, qf0⟩ := hL31.at_ 0 _ rfl)
          | fail)
        obtain ⟨gM, hgM⟩ : ∃ gM, PO + 1 = gM := ⟨_, rfl⟩
        rw [hz30] at hown
        rw [hgM] at hown ⊢
        have hgP : gM = PO + 1 := hgM.symm
        obtain ⟨w32, hw32⟩ : ∃ w32, w31.setCell ⟨PO, 0, none⟩ (.slice (some ⟨gM, 0, none⟩) x.hb.length x.hb.length) = w32 := ⟨_, rfl⟩
        have hL32 : Box w32 PO [.slice (some ⟨gM, 0, none⟩) x.hb.length x.hb.length, .slice B x.er.length d, I x.en] := by rw [← hw32]; exact hL31.set 0 _
        have ho32 : w32.ownsRow gM 54 4 (.slice (some ⟨gM, 0, none⟩) x.hb.length x.hb.length) x.hb.length (madeCells (Value.agg #[I 0, I 0, I 0, I 0]).cells (x.hb.length * 4)).toList := by
          rw [← hw32]
          exact hown.kept (grown_setC2 w31 ⟨PO, 0, none⟩ _) (.inr (fun e => by simp [Value.ownBlock] at e; omega))
        have hB32 : Below PO w30 w32 := by rw [← hw32]; exact ((Below.refl PO w30).grown hg (by omega) (fun k e => by cases e)).setCell (p := ⟨PO, 0, none⟩) (show PO ≤ PO from Nat.le_refl _) _
        rw [hw32]
        clear hw32 hown hg hL31 hL30 q0 qf0
        obtain ⟨q1, qf1⟩ := hL32.at_ 1 _ rfl
        go_upto_region 27 with (fail)
        obtain ⟨w33, hw33⟩ : ∃ w33, w32.setCell ⟨PO, 1, none⟩ (.slice none 0 0) = w33 := ⟨_, rfl⟩
        have HL33 : Hid (Box w33 PO [.slice (some ⟨gM, 0, none⟩) x.hb.length x.hb.length, .slice none 0 0, I x.en]) := Lib.hid (by rw [← hw33]; exact hL32.set 1 _)
        have HO33 : Hid (w33.ownsRow gM 54 4 (.slice (some ⟨gM, 0, none⟩) x.hb.length x.hb.length) x.hb.length (flat4 (List.replicate x.hb.length (0, 0, 0, 0)))) := Lib.hid (by
          rw [← made_flat4 hn6, ← hw33]
          exact ho32.kept (grown_setC2 w32 ⟨PO, 1, none⟩ _) (.inr (fun e => by simp [Value.ownBlock] at e; omega)))
        have hB33 : Below PO w30 w33 := hB32.trans (by rw [← hw33]; exact (Below.refl PO w32).setCell (p := ⟨PO, 1, none⟩) (show PO ≤ PO from Nat.le_refl _) _)
        have HN33 : Hid (Below (w.heap.size + 2) w0 w33) := Lib.hid (hN30.trans (hB33.mono hPON))
        replace HT5 := Lib.hid (HT5.out.below hB33)
        replace HT7 := Lib.hid (HT7.out.below hB33)
        rw [hw33]
        clear hw33 q1 qf1 hL32 ho32 hB32 hB33 hN30 hz30
        go_wp2_with (fail)
        go_loopw [28] (fun s wr => ∃ (i : Nat) (ml : List (Int × Int × Int × Int)), i ≤ x.hb.length ∧ s = I i ∧ Below PO w33 wr ∧ Hid (Box wr PO [.slice (some ⟨gM, 0, none⟩) x.hb.length x.hb.length, .slice none 0 0, I x.en]) ∧ Hid (wr.ownsRow gM 54 4 (.slice (some ⟨gM, 0, none⟩) x.hb.length x.hb.length) x.hb.length (flat4 ml)) ∧ ml.length = x.hb.length ∧ Hid (∀ j, j < i → ml.getD (sg x.hb.length tu j) (0, 0, 0, 0) = x.hb.getD j (0, 0, 0, 0))) (fun s _ => x.hb.length - (intOf s).toNat)
        case atStart => exact ⟨0, _, by omega, rfl, Below.refl _ _, HL33, HO33, by simp, Lib.hid fun j h => by omega⟩
        case round =>
          obtain ⟨i, ml, hi, rfl, hB, HL, HO, hml, HM⟩ := hrel
          obtain ⟨m0, m1, m2, l0, l1, hzN, hWN, hBN⟩ := HCP.out _ (HN33.out.trans (hB.mono hPON))
          have hzL := HL.out.1
          by_cases hlt : i < x.hb.length
          ·
            obtain ⟨hb_, ho, rfl, hhz, hhc⟩ := hWN.hb (by omega)
            obtain ⟨c0, c1, c2, c3⟩ := hhc i hlt
            obtain ⟨q0, qf0⟩ := HL.out.at_ 0 _ rfl
            obtain ⟨k, hk⟩ : ∃ k, sg x.hb.length tu i = k := ⟨_, rfl⟩
            have hkn : k < x.hb.length := by rw [← hk]; exact sg_lt (by omega)
            have hrem : ((i : Int) + (tu : Int)) % (x.hb.length : Int) = (k : Int) := by rw [← hk]; rfl
            have hrem2 : ((i : Int) + (tu : Int)).tmod (x.hb.length : Int) = (k : Int) := by rw [Int.tmod_eq_emod_of_nonneg (by omega)]; exact hrem
            have hcx : IntKind.i64.wrap ((i : Int) + (tu : Int)) = (i : Int) + (tu : Int) := IntWalk.i64_in _ (by omega)
            have hcy : IntKind.i64.wrap (k : Int) = (k : Int) := IntWalk.i64_in _ (by omega)
            have p0 : (0 : Int) ≤ (i : Int) := by omega
            have p1 : (i : Int) < (x.hb.length : Int) := by omega
            have r0 : (0 : Int) ≤ (k : Int) := by omega
            have r1 : (k : Int) < (x.hb.length : Int) := by omega
            have HMN : Hid (∀ j, j < i + 1 → (ml.set k x.hb[i]).getD (sg x.hb.length tu j) (0, 0, 0, 0) = x.hb.getD j (0, 0, 0, 0)) := Lib.hid fun j hj => by
              have h := turn_set (hb := x.hb) (ml := ml) (k := k) (r := tu) (by rw [hml]; exact hlt) hml (by rw [hml]; exact HM.out) (by rw [hml, hk]) j hj
              have e : sg x.hb.length tu j = sg ml.length tu j := by rw [hml]
              rw [e]
              exact h
            have HF4 := Lib.hid (flat4_setAll ml k x.hb[i] (by omega))
            have hfg := flat4_get ml k (by omega)
            obtain ⟨f0, f1, f2, f3⟩ := hfg
            have o0 := (HO.out.cellAt _ (show k * 4 < x.hb.length * 4 by omega)).trans f0
            have o1 := (HO.out.cellAt _ (show k * 4 + 1 < x.hb.length * 4 by omega)).trans f1
            have o2 := (HO.out.cellAt _ (show k * 4 + 2 < x.hb.length * 4 by omega)).trans f2
            have o3 := (HO.out.cellAt _ (show k * 4 + 3 < x.hb.length * 4 by omega)).trans f3
            have z0_ := HO.out.frozenAt (k * 4)
            have z1_ := HO.out.frozenAt (k * 4 + 1)
            have z2_ := HO.out.frozenAt (k * 4 + 2)
            have z3_ := HO.out.frozenAt (k * 4 + 3)
            clear hhc hWN f0 f1 f2 f3 HM
            generalize x.hb[i] = hbi at *
            obtain ⟨ho1, ho2, ho3, ho4⟩ := hbi
            dsimp only at c0 c1 c2 c3 HF4
            have hgL : PO < gM := by omega
            clear hk hgP
            go_wp2_with (fail)
            refine (wpIn_wide (n := 9)).1 ?_
            refine wpIn_region_text [0, 1, 2, 3, 4, 5, 6, 7, 8, 9, 10, 11, 12, 13, 14] rfl (by kernel_rfl) (by kernel_rfl) (fun _ d _ _ _ h => by cases d <;> exact h) ?_
            (refine ordT_li rfl rfl (fun K hK => ?_); go_simp; refine hK _ ?_; clear hK K)
            (refine ordT_li rfl rfl (fun K hK => ?_); go_simp; refine hK _ ?_; clear hK K)
            (refine ordT_li rfl rfl (fun K hK => ?_); go_simp; refine hK _ ?_; clear hK K)
            (refine ordT_li rfl rfl (fun K hK => ?_); go_simp; refine hK _ ?_; clear hK K)
            (refine ordT_li rfl rfl (fun K hK => ?_); go_simp; refine hK _ ?_; clear hK K)
            (refine ordT_li rfl rfl (fun K hK => ?_); go_simp; refine hK _ ?_; clear hK K)
            (refine ordT_li rfl rfl (fun K hK => ?_); go_simp; refine hK _ ?_; clear hK K)
            (refine ordT_li rfl rfl (fun K hK => ?_); go_simp; refine hK _ ?_; clear hK K)
            (refine ordT_li rfl rfl (fun K hK => ?_); go_simp; refine hK _ ?_; clear hK K)
            (refine ordT_li rfl rfl (fun K hK => ?_); go_simp; refine hK _ ?_; clear hK K)
            (refine ordT_li rfl rfl (fun K hK => ?_); go_simp; refine hK _ ?_; clear hK K)
            (refine ordT_li rfl rfl (fun K hK => ?_); go_simp; refine hK _ ?_; clear hK K)
            (refine ordT_li rfl rfl (fun K hK => ?_); go_simp; refine hK _ ?_; clear hK K)
            (refine ordT_li rfl rfl (fun K hK => ?_); go_simp; refine hK _ ?_; clear hK K)
            (refine ordT_hv rfl rfl rfl (fun K hK => ?_))
            gi_wp2
            refine ordT_nil ?_
            have hgN : PO ≤ gM := by omega
            have HF1 : Hid (Below PO w33 ((((wr.drew.setCell ⟨gM, k * 4, none⟩ (I ho1)).setCell ⟨gM, k * 4 + 1, none⟩ (I ho2)).setCell ⟨gM, k * 4 + 2, none⟩ (I ho3)).setCell ⟨gM, k * 4 + 3, none⟩ (I ho4))) := Lib.hid ((((hB.drew.setCell (p := ⟨gM, k * 4, none⟩) hgN _).setCell (p := ⟨gM, k * 4 + 1, none⟩) hgN _).setCell (p := ⟨gM, k * 4 + 2, none⟩) hgN _).setCell (p := ⟨gM, k * 4 + 3, none⟩) hgN _)
            have hne : gM ≠ PO := by omega
            have HF2 : Hid (Box ((((wr.drew.setCell ⟨gM, k * 4, none⟩ (I ho1)).setCell ⟨gM, k * 4 + 1, none⟩ (I ho2)).setCell ⟨gM, k * 4 + 2, none⟩ (I ho3)).setCell ⟨gM, k * 4 + 3, none⟩ (I ho4)) PO [.slice (some ⟨gM, 0, none⟩) x.hb.length x.hb.length, .slice none 0 0, I x.en]) := Lib.hid ((((HL.out.drew.far (p := ⟨gM, k * 4, none⟩) hne _).far (p := ⟨gM, k * 4 + 1, none⟩) hne _).far (p := ⟨gM, k * 4 + 2, none⟩) hne _).far (p := ⟨gM, k * 4 + 3, none⟩) hne _)
            have HF3 : Hid (((((wr.drew.setCell ⟨gM, k * 4, none⟩ (I ho1)).setCell ⟨gM, k * 4 + 1, none⟩ (I ho2)).setCell ⟨gM, k * 4 + 2, none⟩ (I ho3)).setCell ⟨gM, k * 4 + 3, none⟩ (I ho4)).ownsRow gM 54 4 (.slice (some ⟨gM, 0, none⟩) x.hb.length x.hb.length) x.hb.length (flat4 (ml.set k (ho1, ho2, ho3, ho4)))) := Lib.hid (by
              rw [HF4.out]
              exact ((((HO.out.drew.stored (k * 4) _).1.stored (k * 4 + 1) _).1.stored (k * 4 + 2) _).1.stored (k * 4 + 3) _).1)
            have hml2 : (ml.set k (ho1, ho2, ho3, ho4)).length = x.hb.length := by rw [List.length_set]; exact hml
            clear q0 qf0 c0 c1 c2 c3 o0 o1 o2 o3 z0_ z1_ z2_ z3_ HF4
            go_wp2_with (fail)
            go_roundw
            case rel => first | exact ⟨i + 1, _, by omega, by go_num, HF1.out, HF2, HF3, hml2, HMN⟩ | ((repeat apply Exists.intro); refine ⟨?_, rfl⟩; exact ⟨i + 1, _, by omega, by go_num, HF1.out, HF2, HF3, hml2, HMN⟩)
            case measure => first | (simp [intOf]; done) | (simp [intOf]; omega)
          · obtain rfl : i = x.hb.length := by omega
            have HMA := HM
            have HB3 := Lib.hid hB
            have HL3 := HL
            have HO3 := HO
            clear hWN hB HL HO HM
            go_wp2_with (fail)
            go_loopw [29] (fun s wi => ∃ (i : Nat) (v : Value), i ≤ x.er.length ∧ s = I i ∧ Below PO w33 wi ∧ Hid (Box wi PO [.slice (some ⟨gM, 0, none⟩) x.hb.length x.hb.length, v, I x.en]) ∧ Hid (wi.ownsRow gM 54 4 (.slice (some ⟨gM, 0, none⟩) x.hb.length x.hb.length) x.hb.length (flat4 ml)) ∧ Hid (wi.ownsRow (gM + 1) 50 2 v i (flat2 (trE x tu i)))) (fun s _ => x.er.length - (intOf s).toNat)
            case atStart => exact ⟨0, .slice none 0 0, by omega, rfl, HB3.out, HL3, HO3, Lib.hid (World.ownsRow_nil _ _ _ _)⟩
            case round =>
              clear HB3 HL3 HO3 m0 m1 m2 l0 l1 hzN hBN hzL
              obtain ⟨i, v, hi, rfl, hB, HL, HO, HV⟩ := hrel
              obtain ⟨m0, m1, m2, l0, l1, hzN, hWN, hBN⟩ := HCP.out _ (HN33.out.trans (hB.mono hPON))
              have hzL := HL.out.1
              have hgZ : gM < wr.heap.size := (HO.out.lt gM rfl).2
              by_cases hlt : i < x.er.length
              ·
                obtain ⟨eb, eo, rfl, hez, hec⟩ := hWN.er (by omega)
                obtain ⟨e0, e1⟩ := hec i hlt
                rw [(HER.out i hlt).1] at e0
                rw [(HER.out i hlt).2] at e1
                have hti := HTM.out i hlt
                obtain ⟨q, hq, hqn⟩ := sp_nat HXX.out hlt
                have HSi := Lib.hid (trE_succ (r := tu) hlt hq)
                rw [hq] at e0
                obtain ⟨k, hk⟩ : ∃ k, sg x.hb.length tu q = k := ⟨_, rfl⟩
                rw [hk] at HSi
                have hrem : ((q : Int) + (tu : Int)) % (x.hb.length : Int) = (k : Int) := by rw [← hk]; rfl
                have hqn' : q < x.hb.length := hqn
                have hrem2 : ((q : Int) + (tu : Int)).tmod (x.hb.length : Int) = (k : Int) := by rw [Int.tmod_eq_emod_of_nonneg (by omega)]; exact hrem
                have hcx : IntKind.i64.wrap ((q : Int) + (tu : Int)) = (q : Int) + (tu : Int) := IntWalk.i64_in _ (by omega)
                have hkn : k < x.hb.length := by rw [← hk]; exact sg_lt (by omega)
                have hcy : IntKind.i64.wrap (k : Int) = (k : Int) := IntWalk.i64_in _ (by omega)
                have p0 : (0 : Int) ≤ (i : Int) := by omega
                have p1 : (i : Int) < (x.er.length : Int) := by omega
                generalize x.tm i = tmi at *
                have hgL : PO < gM := by omega
                clear hk hgP hec hWN hq
                go_wp2_with (fail)
                obtain ⟨PY, hPY⟩ : ∃ PY, wr.heap.size = PY := ⟨_, rfl⟩
                obtain ⟨wy, hwy⟩ : ∃ wy, wr.alloc (.cells #[I q, I tmi] 50) = wy := ⟨_, rfl⟩
                have hY : Box wy PY [I q, I tmi] := by rw [← hwy, ← hPY]; exact Box.new wr _ 50
                have hLy : Box wy PO [.slice (some ⟨gM, 0, none⟩) x.hb.length x.hb.length, v, I x.en] := by rw [← hwy]; exact HL.out.alloc _
                have HOy : Hid (wy.ownsRow gM 54 4 (.slice (some ⟨gM, 0, none⟩) x.hb.length x.hb.length) x.hb.length (flat4 ml)) := Lib.hid (by rw [← hwy]; exact HO.out.alloc _)
                have HVy : Hid (wy.ownsRow (gM + 1) 50 2 v i (flat2 (trE x tu i))) := Lib.hid (by rw [← hwy]; exact HV.out.alloc _)
                have HBy : Hid (Below PO w33 wy) := Lib.hid (by rw [← hwy]; exact hB.alloc (by omega) _)
                have hzy : wy.heap.size = PY + 1 := by rw [← hwy, ← hPY]; simp
                have hs4 := HVy.out.lt
                rw [hwy]
                rw [hPY] at hgZ hzL ⊢
                clear hwy hPY e0 e1 m0 m1 m2 l0 l1 hzN hBN HL HO HV hB
                have HCY : Hid (∀ W, Below wy.heap.size wy W → W.cell? ⟨PO, 1, none⟩ = some v ∧ W.cell? ⟨PY, 0, none⟩ = some (I q) ∧ W.cell? ⟨PY, 1, none⟩ = some (I tmi)) := Lib.hid fun W hW => ⟨((hLy.call hW).at_ 1 _ rfl).1, ((hY.call hW).at_ 0 _ rfl).1, ((hY.call hW).at_ 1 _ rfl).1⟩
                have HLy := Lib.hid hLy
                clear hLy hY
                refine (wpIn_wide (n := 9)).1 ?_
                refine wpIn_region_plan (Plan.ons [0, 1, 2, 3, 4, 5, 6, 7, 8, 9, 10, 11, 12, 13, 14, 15] .fin) [0, 1, 2, 3, 4, 5, 6, 7, 8, 9, 10, 11] (fun W => Below wy.heap.size wy W) [13, 15] rfl (by kernel_rfl) (by kernel_rfl) (fun _ d _ _ _ h => by cases d <;> exact h) (Below.refl _ _).drew ?_
                (refine ordQ_held (.pointer (some ⟨PO, 1, none⟩)) rfl rfl rfl rfl (fun W' hC' => ?_) (fun K hK => ?_); (focus (obtain _ := hC'; go_simp; try exact ⟨rfl, rfl⟩)); go_simp; refine hK _ ?_; clear hK K)
                (refine ordQ_held (v) rfl rfl rfl rfl (fun W' hC' => ?_) (fun K hK => ?_); (focus (obtain ⟨g0, g1, g2⟩ := HCY.out _ hC'; go_simp; try exact ⟨rfl, rfl⟩)); go_simp; refine hK _ ?_; clear hK K)
                (refine ordQ_held (.pointer (some ⟨PY, 0, none⟩)) rfl rfl rfl rfl (fun W' hC' => ?_) (fun K hK => ?_); (focus (obtain _ := hC'; go_simp; try exact ⟨rfl, rfl⟩)); go_simp; refine hK _ ?_; clear hK K)
                (refine ordQ_held (I q) rfl rfl rfl rfl (fun W' hC' => ?_) (fun K hK => ?_); (focus (obtain ⟨g0, g1, g2⟩ := HCY.out _ hC'; go_simp; try exact ⟨rfl, rfl⟩)); go_simp; refine hK _ ?_; clear hK K)
                (refine ordQ_held (.int .u8 tu) rfl rfl rfl rfl (fun W' hC' => ?_) (fun K hK => ?_); (focus (obtain _ := hC'; go_simp; try exact ⟨rfl, rfl⟩)); go_simp; refine hK _ ?_; clear hK K)
                (refine ordQ_held (I tu) rfl rfl rfl rfl (fun W' hC' => ?_) (fun K hK => ?_); (focus (obtain _ := hC'; go_simp; try exact ⟨rfl, rfl⟩)); go_simp; refine hK _ ?_; clear hK K)
                (refine ordQ_held (I ((q : Int) + (tu : Int))) rfl rfl rfl rfl (fun W' hC' => ?_) (fun K hK => ?_); (focus (obtain _ := hC'; go_simp; try exact ⟨rfl, rfl⟩)); go_simp; refine hK _ ?_; clear hK K)
                (refine ordQ_held (I x.hb.length) rfl rfl rfl rfl (fun W' hC' => ?_) (fun K hK => ?_); (focus (obtain _ := hC'; go_simp; try exact ⟨rfl, rfl⟩)); go_simp; refine hK _ ?_; clear hK K)
                (refine ordQ_held (I k) rfl rfl rfl rfl (fun W' hC' => ?_) (fun K hK => ?_); (focus (obtain _ := hC'; go_simp; try exact ⟨rfl, rfl⟩)); go_simp; refine hK _ ?_; clear hK K)
                (refine ordQ_held (.pointer (some ⟨PY, 1, none⟩)) rfl rfl rfl rfl (fun W' hC' => ?_) (fun K hK => ?_); (focus (obtain _ := hC'; go_simp; try exact ⟨rfl, rfl⟩)); go_simp; refine hK _ ?_; clear hK K)
                (refine ordQ_held (I tmi) rfl rfl rfl rfl (fun W' hC' => ?_) (fun K hK => ?_); (focus (obtain ⟨g0, g1, g2⟩ := HCY.out _ hC'; go_simp; try exact ⟨rfl, rfl⟩)); go_simp; refine hK _ ?_; clear hK K)
                (refine ordQ_held (.agg #[I k, I tmi]) rfl rfl rfl rfl (fun W' hC' => ?_) (fun K hK => ?_); (focus (obtain _ := hC'; go_simp; try exact ⟨rfl, rfl⟩)); go_simp; refine hK _ ?_; clear hK K)
                refine ordQ_hv rfl rfl rfl (fun K hK => ?_)
                gi_wp2
                have hBa : Below wy.heap.size wy (wy.drew.alloc (.cells #[I k, I tmi] 50)) := ((Below.refl _ wy).drew).alloc (Nat.le_refl _) _
                refine hK _ _ (fun _ => hBa) ?_
                clear hK K
                have H30 : (wy.drew.alloc (.cells #[I k, I tmi] 50)).ownsRow (gM + 1) 50 2 v i (flat2 (trE x tu i)) := HVy.out.drew.alloc _
                have H35 : ∀ j u, [I k, I tmi][j]? = some u → (wy.drew.alloc (.cells #[I k, I tmi] 50)).cell? ((⟨PY + 1, 0, none⟩ : Addr).add j) = some u := by
                  have h := cells_new wy.drew [I k, I tmi] 50
                  rwa [show wy.drew.heap.size = PY + 1 from hzy] at h
                refine ordQ_hv rfl rfl rfl (fun K hK => ?_)
                refine opIn_append_own rfl _ _ _ 23 rfl (gM + 1) 50 i0 (.agg #[I 0, I 0]) 2 16 Try.underlying23 hi0 hi1 hi2 hi3 rfl (by decide) v i (flat2 (trE x tu i)) (by go_simp) H30 ⟨PY + 1, 0, none⟩ 1 1 [I k, I tmi] (by go_simp) rfl H35 (by simp [Value.oneCell']) (by unfold maxLen; omega) (by omega) (by simp; omega) ?_
                intro v36 w36 hown36 hg36 _
                have hB36 : Below (gM + 1) wy w36 := (hBa.mono (by omega)).grown hg36 (by simp; omega) (fun g e => (hs4 g e).1)
                have hL36 : Box w36 PO [.slice (some ⟨gM, 0, none⟩) x.hb.length x.hb.length, v, I x.en] := HLy.out.below hB36 (by omega)
                obtain ⟨Av, kv, cv, hvv⟩ := own_slice hown36
                obtain rfl := own_lenT hown36 hvv
                subst hvv
                refine hK _ _ (fun h => by cases h) ?_
                clear hK K
                obtain ⟨q1, qf1⟩ := hL36.at_ 1 _ rfl
                (refine ordQ_li rfl rfl rfl (fun K hK => ?_); go_simp; refine hK _ ?_; clear hK K)
                refine ordQ_hv rfl rfl rfl (fun K hK => ?_)
                gi_wp2
                refine hK _ _ (fun h => by cases h) ?_
                clear hK K
                refine ordQ_fin ?_
                have hPG : PO ≤ gM + 1 := by omega
                have HF1 : Hid (Below PO w33 (w36.setCell ⟨PO, 1, none⟩ (.slice Av (i + 1) cv))) := Lib.hid ((HBy.out.trans (hB36.mono hPG)).setCell (p := ⟨PO, 1, none⟩) (show PO ≤ PO from Nat.le_refl _) _)
                have HF2 : Hid (Box (w36.setCell ⟨PO, 1, none⟩ (.slice Av (i + 1) cv)) PO [.slice (some ⟨gM, 0, none⟩) x.hb.length x.hb.length, .slice Av (i + 1) cv, I x.en]) := Lib.hid (hL36.set 1 _)
                have HF3 : Hid ((w36.setCell ⟨PO, 1, none⟩ (.slice Av (i + 1) cv)).ownsRow gM 54 4 (.slice (some ⟨gM, 0, none⟩) x.hb.length x.hb.length) x.hb.length (flat4 ml)) := Lib.hid (((HOy.out.drew.alloc (.cells #[I k, I tmi] 50)).kept hg36 (.inr (fun e => by have h := (hs4 gM (by rw [← e]; rfl)).1; omega))).kept (grown_setC2 w36 ⟨PO, 1, none⟩ _) (.inr (fun e => by simp [Value.ownBlock] at e; omega)))
                have HF4 : Hid ((w36.setCell ⟨PO, 1, none⟩ (.slice Av (i + 1) cv)).ownsRow (gM + 1) 50 2 (.slice Av (i + 1) cv) (i + 1) (flat2 (trE x tu (i + 1)))) := Lib.hid (by
                  rw [HSi.out]
                  exact hown36.kept (grown_setC2 w36 ⟨PO, 1, none⟩ _) (.inr (fun e => by have := (hown36.lt PO e).1; omega)))
                clear hown36 hg36 hB36 hL36 H30 H35 hBa q1 qf1 HCY HLy HOy HVy HBy
                go_wp2_with (fail)
                go_roundw
                case rel => first | exact ⟨i + 1, _, by omega, by go_num, HF1.out, HF2, HF3, HF4⟩ | ((repeat apply Exists.intro); refine ⟨?_, rfl⟩; exact ⟨i + 1, _, by omega, by go_num, HF1.out, HF2, HF3, HF4⟩)
                case measure => first | (simp [intOf]; done) | (simp [intOf]; omega)
              · obtain rfl : i = x.er.length := by omega
                obtain ⟨Ay, cy, hv, hTy, _⟩ := twos_own HV.out (trE_len x tu)
                subst hv
                have hT := trE_turn (r := tu) hml HMA.out
                have hn0' : 0 < x.n := by show 0 < x.hb.length; omega
                obtain ⟨t1, t2, t3, t4, t5⟩ := HTURN.out _ hT hn0'
                have hy64 := turn_in64 hT HXX.out h64 hn0'
                have HWY : Hid (WatAt wr ⟨ml, trE x tu x.er.length, x.en⟩ (some ⟨gM, 0, none⟩) Ay) := Lib.hid ⟨fours_own HO.out, hTy⟩
                have hyv : (⟨ml, trE x tu x.er.length, x.en⟩ : Wat).val (some ⟨gM, 0, none⟩) x.hb.length Ay cy = .agg #[.slice (some ⟨gM, 0, none⟩) x.hb.length x.hb.length, .slice Ay x.er.length cy, I x.en] := by
                  unfold Wat.val
                  rw [show (⟨ml, trE x tu x.er.length, x.en⟩ : Wat).hb.length = x.hb.length from hml, show (⟨ml, trE x tu x.er.length, x.en⟩ : Wat).er.length = x.er.length from trE_len x tu]
                obtain ⟨fy, zy, hfy⟩ : ∃ fy zy, fewR ⟨ml, trE x tu x.er.length, x.en⟩ = (fy, zy) := ⟨_, _, rfl⟩
                obtain ⟨ny, zz, hny⟩ : ∃ ny zz, nedR ⟨ml, trE x tu x.er.length, x.en⟩ = (ny, zz) := ⟨_, _, rfl⟩
                rw [hfy] at t1 t3
                rw [hny] at t2 t4 t5
                dsimp only at t1 t2 t3 t4 t5
                subst t1 t2
                have HY15 : Hid (∀ W, WatAt W ⟨ml, trE x tu x.er.length, x.en⟩ (some ⟨gM, 0, none⟩) Ay → Calls Try.prog 15 #[.agg #[.slice (some ⟨gM, 0, none⟩) x.hb.length x.hb.length, .slice Ay x.er.length cy, I x.en]] W fun e w' => ∃ A' c', e = .returned (.tuple #[.slice A' fs.length c', I zy]) ∧ Twos w' w'.heap.size A' fy ∧ Below W.heap.size W w') := Lib.hid fun W h => by have := fewest15 ⟨ml, trE x tu x.er.length, x.en⟩ (some ⟨gM, 0, none⟩) Ay x.hb.length cy W hy64 h; rw [hfy, hyv, t3] at this; exact this
                have HY17 : Hid (∀ W, WatAt W ⟨ml, trE x tu x.er.length, x.en⟩ (some ⟨gM, 0, none⟩) Ay → Calls Try.prog 17 #[.agg #[.slice (some ⟨gM, 0, none⟩) x.hb.length x.hb.length, .slice Ay x.er.length cy, I x.en]] W fun e w' => ∃ A' c', e = .returned (.tuple #[.slice A' ns.length c', I zz]) ∧ Twos w' w'.heap.size A' ny ∧ Below W.heap.size W w') := Lib.hid fun W h => by have := needed17 ⟨ml, trE x tu x.er.length, x.en⟩ (some ⟨gM, 0, none⟩) Ay x.hb.length cy W hy64 h; rw [hny, hyv, t4] at this; exact this
                have HSUB := Lib.hid t5
                have HTN : Hid (Twos wr wr.heap.size A17 ns) := Lib.hid ((HT7.out.below hB).more (by omega))
                have HNC : Hid (Below wr.heap.size wr wr) := Lib.hid (Below.refl _ _)
                have HLC := HL
                have HNY : Hid (ny.length = ns.length) := Lib.hid t4
                have hgL : PO < gM := by omega
                obtain ⟨q0, qf0⟩ := HLC.out.at_ 0 _ rfl
                obtain ⟨q1, qf1⟩ := HLC.out.at_ 1 _ rfl
                obtain ⟨q2, qf2⟩ := HLC.out.at_ 2 _ rfl
                clear t3 t4 t5 hfy hny hyv hy64 hT hTy HMA HV HO HL hWN HT5 HT7 hgP hml hn0'
                go_wp2_with (first
                  | (go_at_call 15; refine (HY15.out _ HWY.out).mono ?_; rintro e w61 ⟨A31, c31, rfl, _, hB6⟩; clear HY15; replace HWY := Lib.hid (HWY.out.below hB6); replace HTN := Lib.hid ((HTN.out.below hB6).more hB6.size); replace HLC := Lib.hid (HLC.out.call hB6); replace HNC := Lib.hid (HNC.out.trans (hB6.mono HNC.out.size)); clear q0 qf0 q1 qf1 q2 qf2 hB6; obtain ⟨q0, qf0⟩ := HLC.out.at_ 0 _ rfl; obtain ⟨q1, qf1⟩ := HLC.out.at_ 1 _ rfl; obtain ⟨q2, qf2⟩ := HLC.out.at_ 2 _ rfl)
                  | (go_at_call 17; refine (HY17.out _ HWY.out).mono ?_; rintro e w61 ⟨A33, c33, rfl, ht33, hB6⟩; clear HY17; have HT33 := Lib.hid ht33; clear ht33; replace HTN := Lib.hid ((HTN.out.below hB6).more hB6.size); replace HNC := Lib.hid (HNC.out.trans (hB6.mono HNC.out.size)); clear q0 qf0 q1 qf1 q2 qf2 hB6)
                  | fail)
                have hz61 := HNC.out.size
                clear HWY HLC
                clear hn0 hn0b hgL hgZ
                go_loopw [35] (fun s wi => ∃ i : Nat, i ≤ ns.length ∧ s = I i ∧ Below w61.heap.size w61 wi) (fun s _ => ns.length - (intOf s).toNat)
                case atStart => exact ⟨0, by omega, rfl, Below.refl _ _⟩
                case round =>
                  obtain ⟨i, hi, rfl, hB⟩ := hrel
                  by_cases hlt : i < ns.length
                  ·
                    obtain ⟨rb, ro, rfl, hrz, hrc⟩ := HTN.out (by omega)
                    obtain ⟨q0, q1⟩ := hrc i hlt
                    obtain ⟨pf, pt, hp, hpf, hpt⟩ := HNOK.out ns[i] (List.getElem_mem hlt)
                    have hin := inU_mem (HSUB.out ns[i] (List.getElem_mem hlt))
                    rw [hp] at hin q0 q1
                    dsimp only at q0 q1
                    obtain ⟨kf, hkf⟩ : ∃ k, sg x.hb.length tu pf = k := ⟨_, rfl⟩
                    obtain ⟨kt, hkt⟩ : ∃ k, sg x.hb.length tu pt = k := ⟨_, rfl⟩
                    have hsg : sg2 x.n tu ((pf : Int), (pt : Int)) = ((kf : Int), (kt : Int)) := by rw [← hkf, ← hkt]; rfl
                    rw [hsg] at hin
                    have HIN := Lib.hid hin
                    have HRC : Hid (∀ W, Below w61.heap.size w61 W → W.cell? ⟨rb, ro + i * 2, none⟩ = some (I pf) ∧ W.cell? ⟨rb, ro + i * 2 + 1, none⟩ = some (I pt)) := Lib.hid fun W h => ⟨(h.cell (p := ⟨rb, _, none⟩) hrz).trans q0, (h.cell (p := ⟨rb, _, none⟩) hrz).trans q1⟩
                    have hrf : ((pf : Int) + (tu : Int)) % (x.hb.length : Int) = (kf : Int) := by rw [← hkf]; rfl
                    have hrf2 : ((pf : Int) + (tu : Int)).tmod (x.hb.length : Int) = (kf : Int) := by rw [Int.tmod_eq_emod_of_nonneg (by omega)]; exact hrf
                    have hrt : ((pt : Int) + (tu : Int)) % (x.hb.length : Int) = (kt : Int) := by rw [← hkt]; rfl
                    have hrt2 : ((pt : Int) + (tu : Int)).tmod (x.hb.length : Int) = (kt : Int) := by rw [Int.tmod_eq_emod_of_nonneg (by omega)]; exact hrt
                    have hcf : IntKind.i64.wrap ((pf : Int) + (tu : Int)) = (pf : Int) + (tu : Int) := IntWalk.i64_in _ (by omega)
                    have hct : IntKind.i64.wrap ((pt : Int) + (tu : Int)) = (pt : Int) + (tu : Int) := IntWalk.i64_in _ (by omega)
                    have hkfn : kf < x.hb.length := by rw [← hkf]; exact sg_lt (by omega)
                    have hktn : kt < x.hb.length := by rw [← hkt]; exact sg_lt (by omega)
                    have hwf : IntKind.i64.wrap (kf : Int) = (kf : Int) := IntWalk.i64_in _ (by omega)
                    have hwt : IntKind.i64.wrap (kt : Int) = (kt : Int) := IntWalk.i64_in _ (by omega)
                    have p0 : (0 : Int) ≤ (i : Int) := by omega
                    have p1 : (i : Int) < (ns.length : Int) := by omega
                    clear q0 q1 hrc hp hin hsg hkf hkt
                    go_wp2_with (fail)
                    have HB1 := Lib.hid hB
                    clear hB
                    go_loopw [36, 37] (fun s14 s16 wi => ∃ k : Nat, k ≤ ns.length ∧ s16 = I k ∧ s14 = .bool (inU ny ((kf : Int), (kt : Int)) k) ∧ Below w61.heap.size w61 wi) (fun _ s _ => ns.length - (intOf s).toNat)
                    case atStart => exact ⟨0, by omega, rfl, rfl, HB1.out⟩
                    case round =>
                      clear HB1
                      obtain ⟨k, hk, rfl, rfl, hB⟩ := hrel
                      by_cases hlk : k < ns.length
                      · have hlk2 : k < ny.length := by rw [HNY.out]; exact hlk
                        obtain ⟨ob, oo, rfl, hoz, hoc⟩ := HT33.out (by omega)
                        obtain ⟨q0, q1⟩ := hoc k hlk2
                        replace q0 := (hB.cell (p := ⟨ob, _, none⟩) hoz).trans q0
                        replace q1 := (hB.cell (p := ⟨ob, _, none⟩) hoz).trans q1
                        obtain ⟨r0, r1⟩ := HRC.out _ hB
                        have HNX := Lib.hid (inU_succ (p := ((kf : Int), (kt : Int))) hlk2)
                        dsimp only at HNX
                        have heq := fun W => eq27 ny[k].1 ny[k].2 kf kt W
                        obtain ⟨bq, hbq⟩ : ∃ b, decide (ny[k].1 = (kf : Int) ∧ ny[k].2 = (kt : Int)) = b := ⟨_, rfl⟩
                        rw [hbq] at HNX
                        simp only [hbq] at heq
                        clear hbq hoc
                        generalize ny[k].1 = of_ at *
                        generalize ny[k].2 = ot_ at *
                        clear hlk2
                        have s0 : (0 : Int) ≤ (k : Int) := by omega
                        have s1 : (k : Int) < (ns.length : Int) := by omega
                        obtain ⟨fo, hfo⟩ : ∃ fo, inU ny ((kf : Int), (kt : Int)) k = fo := ⟨_, rfl⟩
                        rw [hfo] at HNX ⊢
                        clear hfo
                        cases fo
                        · go_wp2_with (fail)
                          refine (wpIn_wide (n := 9)).1 ?_
                          refine wpIn_region_text [0, 1, 2, 3, 4, 5, 6, 7, 8, 9, 10, 11, 12, 13, 14, 15, 16, 17, 18, 19, 20, 21, 22, 23, 24, 25, 26, 27, 28, 29] rfl (by kernel_rfl) (by kernel_rfl) (fun _ d _ _ _ h => by cases d <;> exact h) ?_
                          iterate 30 (refine ordT_li rfl rfl (fun K hK => ?_); go_simp; refine hK _ ?_; clear hK K)
                          refine ordT_nil ?_
                          clear q0 q1 r0 r1
                          go_wp2_with (fail)
                          go_roundw
                          case rel => first | exact ⟨k + 1, by omega, by go_num, by rw [HNX.out]; first | rfl | simp, (by first | exact hB.drew | exact (below_drewN hB _).drew | exact below_drewN hB _)⟩ | ((repeat apply Exists.intro); refine ⟨?_, rfl⟩; exact ⟨k + 1, by omega, by go_num, by rw [HNX.out]; first | rfl | simp, (by first | exact hB.drew | exact (below_drewN hB _).drew | exact below_drewN hB _)⟩)
                          case measure => first | (simp [intOf]; done) | (simp [intOf]; omega)
                        · go_wp2_with (fail)
                          refine (wpIn_wide (n := 9)).1 ?_
                          refine wpIn_region_text [0, 1, 2, 3, 4, 5, 6, 7, 8, 9, 10, 11, 12, 13, 14, 15, 16, 17, 18, 19, 20, 21, 22, 23, 24, 25, 26, 27, 28, 29] rfl (by kernel_rfl) (by kernel_rfl) (fun _ d _ _ _ h => by cases d <;> exact h) ?_
                          iterate 30 (refine ordT_li rfl rfl (fun K hK => ?_); go_simp; refine hK _ ?_; clear hK K)
                          refine ordT_nil ?_
                          clear q0 q1 r0 r1
                          go_wp2_with (fail)
                          go_roundw
                          case rel => first | exact ⟨k + 1, by omega, by go_num, by rw [HNX.out]; first | rfl | simp, (by first | exact hB.drew | exact (below_drewN hB _).drew | exact below_drewN hB _)⟩ | ((repeat apply Exists.intro); refine ⟨?_, rfl⟩; exact ⟨k + 1, by omega, by go_num, by rw [HNX.out]; first | rfl | simp, (by first | exact hB.drew | exact (below_drewN hB _).drew | exact below_drewN hB _)⟩)
                          case measure => first | (simp [intOf]; done) | (simp [intOf]; omega)
                      · obtain rfl : k = ns.length := by omega
                        have hinn := HIN.out
                        rw [HNY.out] at hinn
                        rw [hinn]
                        clear hinn
                        go_wp2_with (fail)
                        go_roundw
                        case rel => first | exact ⟨i + 1, by omega, by go_num, hB⟩ | ((repeat apply Exists.intro); refine ⟨?_, rfl⟩; exact ⟨i + 1, by omega, by go_num, hB⟩)
                        case measure => first | (simp [intOf]; done) | (simp [intOf]; omega)
                  · go_wp2_with (first
                      | (go_at_call 9; refine (H9.out _).mono ?_; rintro e w9 ⟨rfl, hB9⟩)
                      | fail)
                    have hBF := hBN.trans ((HNC.out.trans (hB.mono hz61)).mono hBN.size)
                    exact bodyPost_ret (v := .bool true) (by simp [results, Try.results6, go_sem]) rfl ⟨rfl, hBF.trans (hB9.mono hBF.size)⟩
end Go.Proofs.Ytijgfdncocjncaa
