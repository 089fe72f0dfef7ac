/- The program's search for the fewest posts. -/
import Derived.Test.YtfebhofihioaoaaS22
import Derived.Test.YtfebhofihioaoaaA10
namespace Go.Proofs.Ytfebhofihioaoaa
set_option linter.unusedVariables false
set_option linter.unusedSimpArgs false
open Go Go.RowKit

def updF (f : Nat → Int) (s : Nat) (u : Int) : Nat → Int := fun i => if i = s then u else f i
theorem six_upd (f : Nat → Int) (k : Nat) (u : Int) : (six f).set k (I u) = six (updF f k u) := six_set f k u
theorem updF_upd (f : Nat → Int) (s : Nat) (u v : Int) : updF (updF f s u) s v = updF f s v := by
  funext i
  unfold updF
  by_cases h : i = s <;> simp [h]
theorem postF_app (p : List Nat) (v : Nat) : postF (p ++ [v]) = updF (postF p) p.length v := by
  funext i
  unfold postF updF
  rcases Nat.lt_trichotomy i p.length with h | h | h
  · rw [if_neg (by omega)]
    simp [List.getD, List.getElem?_append, h]
  · subst h
    simp [List.getD]
  · rw [if_neg (by omega)]
    simp [List.getD, List.getElem?_append, show ¬ i < p.length by omega, show i - p.length ≠ 0 by omega]
theorem updF_zero (p : List Nat) : updF (postF p) p.length 0 = postF p := by
  funext i
  unfold postF updF
  by_cases h : i = p.length
  · subst h; simp
  · rw [if_neg h]
theorem mem_le_sum : ∀ {q : List Nat} {a : Nat}, a ∈ q → a ≤ q.sum
  | b :: q, a, h => by
    rw [List.sum_cons]
    rcases List.mem_cons.1 h with rfl | h
    · omega
    · have := mem_le_sum h
      omega
theorem postF_bd {q : List Nat} (h : q.sum ≤ 12) (i : Nat) : 0 ≤ postF q i ∧ postF q i ≤ 12 := by
  unfold postF
  refine ⟨by omega, ?_⟩
  by_cases hi : i < q.length
  · have h1 : q[i] ≤ q.sum := mem_le_sum (List.getElem_mem hi)
    simp [List.getD, hi]
    omega
  · simp [List.getD, hi]
/-- What the search holds on to. -/
structure TryCtx (W : World) (x : Prk) (A : Option Addr) (c : Nat) (B : Option Addr) (d P Lb Pb Fd Tb : Nat) : Prop where
  lb : Box W Lb [I ((x.n : Int) - 1)]
  pb : Box W Pb [.pointer (some ⟨P, 0, none⟩)]
  park : ParkAt W P x A c (.slice B (2 ^ x.n) d)
  row : Fours W Fd A x.sp
  ints : Ints W Fd B (needsTo x (2 ^ x.n))
  tb : Box W Tb [.func (.func 42) #[] #[.pointer (some ⟨Lb, 0, none⟩), .pointer (some ⟨Pb, 0, none⟩), .pointer (some ⟨Fd, 0, none⟩), .pointer (some ⟨Tb, 0, none⟩)]]
  hl : Lb < Fd
  hp : Pb < Fd
  hP : P < Fd
  ht : Fd < Tb
theorem TryCtx.frm {W W' : World} {x : Prk} {A B : Option Addr} {c d P Lb Pb Fd Tb : Nat} (h : TryCtx W x A c B d P Lb Pb Fd Tb) (hF : Frm W.heap.size (· = Fd) W W') : TryCtx W' x A c B d P Lb Pb Fd Tb := by
  have htz := h.tb.1
  have ht := h.ht
  have hB : Below Fd W W' := hF.below (by omega) (fun k hk e => by omega)
  refine ⟨h.lb.below hB h.hl, h.pb.below hB h.hp, ?_, h.row.below hB, h.ints.below hB, ?_, h.hl, h.hp, h.hP, h.ht⟩
  · have hP := h.hP
    have hp := h.park
    exact ⟨Nat.lt_of_lt_of_le hp.lt hF.size, (hB.cell (p := ⟨P, 0, none⟩) hP).trans hp.sp, (hB.cell (p := ⟨P, 1, none⟩) hP).trans hp.alo, (hB.cell (p := ⟨P, 2, none⟩) hP).trans hp.ahi, (hB.cell (p := ⟨P, 3, none⟩) hP).trans hp.needs, fun s hs => (hB.cell (p := ⟨P, 4 + s, none⟩) hP).trans (hp.from_ s hs), (h.row.below hB).more (by have := hF.size; omega)⟩
  · exact h.tb.keep hF.size (fun o => hF.cell htz (by omega)) (fun o => hF.frozen htz (by omega))
theorem TryCtx.frm_below {W W' : World} {x : Prk} {A B : Option Addr} {c d P Lb Pb Fd Tb : Nat} (h : TryCtx W x A c B d P Lb Pb Fd Tb) (hB : Below W.heap.size W W') : TryCtx W' x A c B d P Lb Pb Fd Tb := h.frm (.of_below hB (Nat.le_refl _))
def fdOf (fv : Nat → Int) : Option (List Nat) → Nat → Int
  | some m => postF m
  | none => fv
theorem six_six (f g : Nat → Int) : ((((((six f).set 0 (I (g 0))).set 1 (I (g 1))).set 2 (I (g 2))).set 3 (I (g 3))).set 4 (I (g 4))).set 5 (I (g 5)) = six g := rfl
abbrev aggF (f : Nat → Int) : Value := .agg #[I (f 0), I (f 1), I (f 2), I (f 3), I (f 4), I (f 5)]
set_option maxRecDepth 100000 in
set_option maxHeartbeats 2000000 in
theorem try42_one (x : Prk) (A B : Option Addr) (c d P Lb Pb Fd Tb : Nat) (hx : PrkOk x) (left : Nat) (p : List Nat) (fv : Nat → Int) (w : World) (hk : p.length + 1 = x.n) (hsum : p.sum + left ≤ 12) (hC : TryCtx w x A c B d P Lb Pb Fd Tb) (hF : Box w Fd (six fv)) :
    Calls Try.prog 42 #[aggF (postF p), I p.length, I left, .pointer (some ⟨Lb, 0, none⟩), .pointer (some ⟨Pb, 0, none⟩), .pointer (some ⟨Fd, 0, none⟩), .pointer (some ⟨Tb, 0, none⟩)] w fun e w' =>
      e = .returned (.bool (fnd (enoughB x) p 1 left).isSome) ∧ Frm w.heap.size (· = Fd) w w' ∧ Box w' Fd (six (fdOf fv (fnd (enoughB x) p 1 left))) := by
  have HX := Lib.hid hx
  have hn6 : x.sp.length ≤ 6 := hx.n6
  have HCX := Lib.hid hC
  have HF := Lib.hid hF
  have hFz := hF.1
  have hlt := hC.hl
  have hpt := hC.hp
  have hPt := hC.hP
  have htt := hC.ht
  have htz := hC.tb.1
  have HW : Hid (Below w.heap.size w (w.alloc (.cells #[I (postF p 0), I (postF p 1), I (postF p 2), I (postF p 3), I (postF p 4), I (postF p 5)] 65))) := Lib.hid (below1 _ _)
  have HT : Hid (Box (w.alloc (.cells #[I (postF p 0), I (postF p 1), I (postF p 2), I (postF p 3), I (postF p 4), I (postF p 5)] 65)) w.heap.size (six (postF p))) := Lib.hid (Box.new w (six (postF p)) 65)
  have HC1 := Lib.hid (hC.frm_below HW.out)
  have HF1 : Hid (Box (w.alloc (.cells #[I (postF p 0), I (postF p 1), I (postF p 2), I (postF p 3), I (postF p 4), I (postF p 5)] 65)) Fd (six fv)) := Lib.hid (hF.call HW.out)
  have hsz : (w.alloc (.cells #[I (postF p 0), I (postF p 1), I (postF p 2), I (postF p 3), I (postF p 4), I (postF p 5)] 65)).heap.size = w.heap.size + 1 := by simp
  clear hx hC hF
  have hp6 : p.length < 6 := by have : x.n ≤ 6 := hn6; omega
  have HFN := Lib.hid (fnd_one (enoughB x) p left)
  have HQ : Hid (six (postF (p ++ [left])) = (six (postF p)).set p.length (I left)) := Lib.hid (by rw [postF_app, six_upd])
  obtain ⟨q, hq⟩ : ∃ q, p ++ [left] = q := ⟨_, rfl⟩
  rw [hq] at HFN HQ
  have HQS : Hid (q.sum ≤ 12) := Lib.hid (by rw [← hq]; simpa using hsum)
  have H39 : Hid (∀ W : World, TryCtx W x A c B d P Lb Pb Fd Tb → Calls Try.prog 39 #[.pointer (some ⟨P, 0, none⟩), aggF (postF q)] W fun e w' => e = .returned (.tuple #[I ((lackTo (needV x) (forX x (postF q)) (2 ^ x.n)).1 : Nat), I (lackTo (needV x) (forX x (postF q)) (2 ^ x.n)).2]) ∧ Below W.heap.size W w') := Lib.hid fun W hW => lacking39N x P A B c d (postF q) W HX.out hW.park (hW.ints.more (by have := hW.tb.1; have := hW.ht; omega)) (fun i _ => postF_bd HQS.out i)
  have HZ : Hid ((lackTo (needV x) (forX x (postF q)) (2 ^ x.n)).1 = 0 ↔ enoughB x q = true) := Lib.hid ((lack_zero HX.out _).trans enoughB_iff.symm)
  generalize fnd (enoughB x) p 1 left = fn at *
  generalize enoughB x q = eb at *
  generalize lackTo (needV x) (forX x (postF q)) (2 ^ x.n) = la at *
  obtain ⟨ls, lm⟩ := la
  simp only at H39 HZ
  obtain ⟨l0, _⟩ := HC1.out.lb.at_ 0 _ rfl
  have hkx : (x.n : Int) - 1 = (p.length : Int) := by omega
  rw [hkx] at l0
  have HB2 : Hid (Below w.heap.size w (w.alloc (.cells ([I (postF p 0), I (postF p 1), I (postF p 2), I (postF p 3), I (postF p 4), I (postF p 5)].set p.length (I left)).toArray 65))) := Lib.hid (below1 _ _)
  have HT2 : Hid (Box (w.alloc (.cells ([I (postF p 0), I (postF p 1), I (postF p 2), I (postF p 3), I (postF p 4), I (postF p 5)].set p.length (I left)).toArray 65)) w.heap.size (six (postF q))) := Lib.hid (by rw [HQ.out]; exact Box.new w _ 65)
  have HC2 := Lib.hid (HCX.out.frm_below HB2.out)
  have HF2 := Lib.hid (HF.out.call HB2.out)
  have hz2 : (w.alloc (.cells ([I (postF p 0), I (postF p 1), I (postF p 2), I (postF p 3), I (postF p 4), I (postF p 5)].set p.length (I left)).toArray 65)).heap.size = w.heap.size + 1 := by simp
  obtain ⟨t0, t1⟩ := HT.out.at_ p.length _ (six_at _ hp6)
  obtain ⟨m0, _⟩ := HT2.out.at_ 0 _ (six_at _ (by omega))
  obtain ⟨m1, _⟩ := HT2.out.at_ 1 _ (six_at _ (by omega))
  obtain ⟨m2, _⟩ := HT2.out.at_ 2 _ (six_at _ (by omega))
  obtain ⟨m3, _⟩ := HT2.out.at_ 3 _ (six_at _ (by omega))
  obtain ⟨m4, _⟩ := HT2.out.at_ 4 _ (six_at _ (by omega))
  obtain ⟨m5, _⟩ := HT2.out.at_ 5 _ (six_at _ (by omega))
  obtain ⟨b0, _⟩ := HC2.out.pb.at_ 0 _ rfl
  have p0 : (0 : Int) ≤ (p.length : Int) := by omega
  have p1 : (p.length : Int) < 6 := by omega
  by_cases hls : ls = 0
  · subst hls
    have HEB : Hid (eb = true) := Lib.hid (HZ.out.1 rfl)
    have HFS : Hid (fn = some q) := Lib.hid (by rw [HFN.out, HEB.out]; rfl)
    clear HFN HZ HEB
    go_enter Try.func42, Try.ntmps42
    go_wp2_with (first
      | (go_at_call 39; refine (H39.out _ HC2.out).mono ?_; rintro e w4 ⟨rfl, hB4⟩; have HT4 := Lib.hid (HT2.out.call hB4); have HF4 := Lib.hid (HF2.out.call hB4); obtain ⟨r0, _⟩ := HT4.out.at_ 0 _ (six_at _ (by omega)); obtain ⟨r1, _⟩ := HT4.out.at_ 1 _ (six_at _ (by omega)); obtain ⟨r2, _⟩ := HT4.out.at_ 2 _ (six_at _ (by omega)); obtain ⟨r3, _⟩ := HT4.out.at_ 3 _ (six_at _ (by omega)); obtain ⟨r4, _⟩ := HT4.out.at_ 4 _ (six_at _ (by omega)); obtain ⟨r5, _⟩ := HT4.out.at_ 5 _ (six_at _ (by omega)); obtain ⟨y0, z0⟩ := HF4.out.at_ 0 _ (six_at _ (by omega)); obtain ⟨y1, z1⟩ := HF4.out.at_ 1 _ (six_at _ (by omega)); obtain ⟨y2, z2⟩ := HF4.out.at_ 2 _ (six_at _ (by omega)); obtain ⟨y3, z3⟩ := HF4.out.at_ 3 _ (six_at _ (by omega)); obtain ⟨y4, z4⟩ := HF4.out.at_ 4 _ (six_at _ (by omega)); obtain ⟨y5, z5⟩ := HF4.out.at_ 5 _ (six_at _ (by omega)))
      | fail)
    have HB4 : Hid (Frm w.heap.size (· = Fd) w w4) := Lib.hid (.of_below (HB2.out.trans (hB4.mono (by omega))) (Nat.le_refl _))
    have HG : Hid (Box ((((((w4.setCell ⟨Fd, 0, none⟩ (I (postF q 0))).setCell ⟨Fd, 1, none⟩ (I (postF q 1))).setCell ⟨Fd, 2, none⟩ (I (postF q 2))).setCell ⟨Fd, 3, none⟩ (I (postF q 3))).setCell ⟨Fd, 4, none⟩ (I (postF q 4))).setCell ⟨Fd, 5, none⟩ (I (postF q 5))) Fd (six (postF q)) ∧ Frm w.heap.size (· = Fd) w ((((((w4.setCell ⟨Fd, 0, none⟩ (I (postF q 0))).setCell ⟨Fd, 1, none⟩ (I (postF q 1))).setCell ⟨Fd, 2, none⟩ (I (postF q 2))).setCell ⟨Fd, 3, none⟩ (I (postF q 3))).setCell ⟨Fd, 4, none⟩ (I (postF q 4))).setCell ⟨Fd, 5, none⟩ (I (postF q 5)))) := Lib.hid ⟨by rw [← six_six fv]; exact (((((HF4.out.set 0 _).set 1 _).set 2 _).set 3 _).set 4 _).set 5 _, (((((HB4.out.setCell (.inr rfl) _).setCell (.inr rfl) _).setCell (.inr rfl) _).setCell (.inr rfl) _).setCell (.inr rfl) _).setCell (.inr rfl) _⟩
    refine bodyPost_ret (v := .bool true) (by simp [results, Try.results42, go_sem]) rfl ⟨by rw [HFS.out]; rfl, HG.out.2, by rw [HFS.out]; exact HG.out.1⟩
  · have HEB : Hid (eb = false) := Lib.hid (bool_false fun h => hls (HZ.out.2 h))
    have HFS : Hid (fn = none) := Lib.hid (by rw [HFN.out, HEB.out]; rfl)
    have e0 : ((ls : Int) != 0) = true := by simp; omega
    have e0' : (ls != 0) = true := by simp; omega
    clear HFN HZ HEB
    go_enter Try.func42, Try.ntmps42
    go_wp2_with (first
      | (go_at_call 39; refine (H39.out _ HC2.out).mono ?_; rintro e w4 ⟨rfl, hB4⟩; have HF4 := Lib.hid (HF2.out.call hB4))
      | fail)
    refine bodyPost_ret (v := .bool false) (by simp [results, Try.results42, go_sem]) rfl ⟨by rw [HFS.out]; rfl, .of_below (HB2.out.trans (hB4.mono (by omega))) (Nat.le_refl _), by rw [HFS.out]; exact HF4.out⟩
set_option maxRecDepth 100000 in
set_option maxHeartbeats 2000000 in
theorem try42_zero (x : Prk) (A B : Option Addr) (c d P Lb Pb Fd Tb : Nat) (hx : PrkOk x) (p : List Nat) (fv : Nat → Int) (w : World) (hk : p.length = x.n) (hk0 : x.n = 0) (hsum : p.sum ≤ 12) (hC : TryCtx w x A c B d P Lb Pb Fd Tb) (hF : Box w Fd (six fv)) :
    Calls Try.prog 42 #[aggF (postF p), I 0, I 0, .pointer (some ⟨Lb, 0, none⟩), .pointer (some ⟨Pb, 0, none⟩), .pointer (some ⟨Fd, 0, none⟩), .pointer (some ⟨Tb, 0, none⟩)] w fun e w' =>
      e = .returned (.bool (fnd (enoughB x) p 0 0).isSome) ∧ Frm w.heap.size (· = Fd) w w' ∧ Box w' Fd (six (fdOf fv (fnd (enoughB x) p 0 0))) := by
  have HX := Lib.hid hx
  have hn6 : x.sp.length ≤ 6 := hx.n6
  have HCX := Lib.hid hC
  have HF := Lib.hid hF
  have hFz := hF.1
  have hlt := hC.hl
  have hpt := hC.hp
  have hPt := hC.hP
  have htt := hC.ht
  have htz := hC.tb.1
  have HW : Hid (Below w.heap.size w (w.alloc (.cells #[I (postF p 0), I (postF p 1), I (postF p 2), I (postF p 3), I (postF p 4), I (postF p 5)] 65))) := Lib.hid (below1 _ _)
  have HT : Hid (Box (w.alloc (.cells #[I (postF p 0), I (postF p 1), I (postF p 2), I (postF p 3), I (postF p 4), I (postF p 5)] 65)) w.heap.size (six (postF p))) := Lib.hid (Box.new w (six (postF p)) 65)
  have HC1 := Lib.hid (hC.frm_below HW.out)
  have HF1 : Hid (Box (w.alloc (.cells #[I (postF p 0), I (postF p 1), I (postF p 2), I (postF p 3), I (postF p 4), I (postF p 5)] 65)) Fd (six fv)) := Lib.hid (hF.call HW.out)
  have hsz : (w.alloc (.cells #[I (postF p 0), I (postF p 1), I (postF p 2), I (postF p 3), I (postF p 4), I (postF p 5)] 65)).heap.size = w.heap.size + 1 := by simp
  clear hx hC hF
  have HFN := Lib.hid (fnd_zero (enoughB x) p)
  obtain ⟨q, hq⟩ : ∃ q, p = q := ⟨_, rfl⟩
  rw [hq] at HFN HT HW HF1 HC1 hsz hsum ⊢
  have HQS : Hid (q.sum ≤ 12) := Lib.hid hsum
  have H39 : Hid (∀ W : World, TryCtx W x A c B d P Lb Pb Fd Tb → Calls Try.prog 39 #[.pointer (some ⟨P, 0, none⟩), aggF (postF q)] W fun e w' => e = .returned (.tuple #[I ((lackTo (needV x) (forX x (postF q)) (2 ^ x.n)).1 : Nat), I (lackTo (needV x) (forX x (postF q)) (2 ^ x.n)).2]) ∧ Below W.heap.size W w') := Lib.hid fun W hW => lacking39N x P A B c d (postF q) W HX.out hW.park (hW.ints.more (by have := hW.tb.1; have := hW.ht; omega)) (fun i _ => postF_bd HQS.out i)
  have HZ : Hid ((lackTo (needV x) (forX x (postF q)) (2 ^ x.n)).1 = 0 ↔ enoughB x q = true) := Lib.hid ((lack_zero HX.out _).trans enoughB_iff.symm)
  generalize fnd (enoughB x) q 0 0 = fn at *
  generalize enoughB x q = eb at *
  generalize lackTo (needV x) (forX x (postF q)) (2 ^ x.n) = la at *
  obtain ⟨ls, lm⟩ := la
  simp only at H39 HZ
  obtain ⟨l0, _⟩ := HC1.out.lb.at_ 0 _ rfl
  have hkx : (x.n : Int) - 1 = -1 := by omega
  rw [hkx] at l0
  have HB2 := HW
  have HT2 := HT
  have HC2 := HC1
  have HF2 := HF1
  have hz2 := hsz
  obtain ⟨m0, _⟩ := HT2.out.at_ 0 _ (six_at _ (by omega))
  obtain ⟨m1, _⟩ := HT2.out.at_ 1 _ (six_at _ (by omega))
  obtain ⟨m2, _⟩ := HT2.out.at_ 2 _ (six_at _ (by omega))
  obtain ⟨m3, _⟩ := HT2.out.at_ 3 _ (six_at _ (by omega))
  obtain ⟨m4, _⟩ := HT2.out.at_ 4 _ (six_at _ (by omega))
  obtain ⟨m5, _⟩ := HT2.out.at_ 5 _ (six_at _ (by omega))
  obtain ⟨b0, _⟩ := HC2.out.pb.at_ 0 _ rfl
  by_cases hls : ls = 0
  · subst hls
    have HEB : Hid (eb = true) := Lib.hid (HZ.out.1 rfl)
    have HFS : Hid (fn = some q) := Lib.hid (by rw [HFN.out, HEB.out]; rfl)
    clear HFN HZ HEB
    go_enter Try.func42, Try.ntmps42
    go_wp2_with (first
      | (go_at_call 39; refine (H39.out _ HC2.out).mono ?_; rintro e w4 ⟨rfl, hB4⟩; have HT4 := Lib.hid (HT2.out.call hB4); have HF4 := Lib.hid (HF2.out.call hB4); obtain ⟨r0, _⟩ := HT4.out.at_ 0 _ (six_at _ (by omega)); obtain ⟨r1, _⟩ := HT4.out.at_ 1 _ (six_at _ (by omega)); obtain ⟨r2, _⟩ := HT4.out.at_ 2 _ (six_at _ (by omega)); obtain ⟨r3, _⟩ := HT4.out.at_ 3 _ (six_at _ (by omega)); obtain ⟨r4, _⟩ := HT4.out.at_ 4 _ (six_at _ (by omega)); obtain ⟨r5, _⟩ := HT4.out.at_ 5 _ (six_at _ (by omega)); obtain ⟨y0, z0⟩ := HF4.out.at_ 0 _ (six_at _ (by omega)); obtain ⟨y1, z1⟩ := HF4.out.at_ 1 _ (six_at _ (by omega)); obtain ⟨y2, z2⟩ := HF4.out.at_ 2 _ (six_at _ (by omega)); obtain ⟨y3, z3⟩ := HF4.out.at_ 3 _ (six_at _ (by omega)); obtain ⟨y4, z4⟩ := HF4.out.at_ 4 _ (six_at _ (by omega)); obtain ⟨y5, z5⟩ := HF4.out.at_ 5 _ (six_at _ (by omega)))
      | fail)
    have HB4 : Hid (Frm w.heap.size (· = Fd) w w4) := Lib.hid (.of_below (HB2.out.trans (hB4.mono (by omega))) (Nat.le_refl _))
    have HG : Hid (Box ((((((w4.setCell ⟨Fd, 0, none⟩ (I (postF q 0))).setCell ⟨Fd, 1, none⟩ (I (postF q 1))).setCell ⟨Fd, 2, none⟩ (I (postF q 2))).setCell ⟨Fd, 3, none⟩ (I (postF q 3))).setCell ⟨Fd, 4, none⟩ (I (postF q 4))).setCell ⟨Fd, 5, none⟩ (I (postF q 5))) Fd (six (postF q)) ∧ Frm w.heap.size (· = Fd) w ((((((w4.setCell ⟨Fd, 0, none⟩ (I (postF q 0))).setCell ⟨Fd, 1, none⟩ (I (postF q 1))).setCell ⟨Fd, 2, none⟩ (I (postF q 2))).setCell ⟨Fd, 3, none⟩ (I (postF q 3))).setCell ⟨Fd, 4, none⟩ (I (postF q 4))).setCell ⟨Fd, 5, none⟩ (I (postF q 5)))) := Lib.hid ⟨by rw [← six_six fv]; exact (((((HF4.out.set 0 _).set 1 _).set 2 _).set 3 _).set 4 _).set 5 _, (((((HB4.out.setCell (.inr rfl) _).setCell (.inr rfl) _).setCell (.inr rfl) _).setCell (.inr rfl) _).setCell (.inr rfl) _).setCell (.inr rfl) _⟩
    refine bodyPost_ret (v := .bool true) (by simp [results, Try.results42, go_sem]) rfl ⟨by rw [HFS.out]; rfl, HG.out.2, by rw [HFS.out]; exact HG.out.1⟩
  · have HEB : Hid (eb = false) := Lib.hid (bool_false fun h => hls (HZ.out.2 h))
    have HFS : Hid (fn = none) := Lib.hid (by rw [HFN.out, HEB.out]; rfl)
    have e0 : ((ls : Int) != 0) = true := by simp; omega
    have e0' : (ls != 0) = true := by simp; omega
    clear HFN HZ HEB
    go_enter Try.func42, Try.ntmps42
    go_wp2_with (first
      | (go_at_call 39; refine (H39.out _ HC2.out).mono ?_; rintro e w4 ⟨rfl, hB4⟩; have HF4 := Lib.hid (HF2.out.call hB4))
      | fail)
    refine bodyPost_ret (v := .bool false) (by simp [results, Try.results42, go_sem]) rfl ⟨by rw [HFS.out]; rfl, .of_below (HB2.out.trans (hB4.mono (by omega))) (Nat.le_refl _), by rw [HFS.out]; exact HF4.out⟩

set_option maxRecDepth 100000 in
set_option maxHeartbeats 2000000 in
theorem try42_step (x : Prk) (A B : Option Addr) (c d P Lb Pb Fd Tb : Nat) (hx : PrkOk x) (left : Nat) (p : List Nat) (fv : Nat → Int) (w : World) (k : Nat) (hk : p.length + (k + 2) = x.n)
    (ih : ∀ (v : Nat) (W : World), v ≤ left → TryCtx W x A c B d P Lb Pb Fd Tb → Box W Fd (six fv) → Calls Try.prog 42 #[aggF (postF (p ++ [v])), I (p ++ [v]).length, I (left - v : Nat), .pointer (some ⟨Lb, 0, none⟩), .pointer (some ⟨Pb, 0, none⟩), .pointer (some ⟨Fd, 0, none⟩), .pointer (some ⟨Tb, 0, none⟩)] W fun e w' => e = .returned (.bool (fnd (enoughB x) (p ++ [v]) (k + 1) (left - v)).isSome) ∧ Frm W.heap.size (· = Fd) W w' ∧ Box w' Fd (six (fdOf fv (fnd (enoughB x) (p ++ [v]) (k + 1) (left - v))))) (hsum : p.sum + left ≤ 12) (hC : TryCtx w x A c B d P Lb Pb Fd Tb) (hF : Box w Fd (six fv)) :
    Calls Try.prog 42 #[aggF (postF p), I p.length, I left, .pointer (some ⟨Lb, 0, none⟩), .pointer (some ⟨Pb, 0, none⟩), .pointer (some ⟨Fd, 0, none⟩), .pointer (some ⟨Tb, 0, none⟩)] w fun e w' =>
      e = .returned (.bool (fnd (enoughB x) p (k + 2) left).isSome) ∧ Frm w.heap.size (· = Fd) w w' ∧ Box w' Fd (six (fdOf fv (fnd (enoughB x) p (k + 2) left))) := by
  have HX := Lib.hid hx
  have hn6 : x.sp.length ≤ 6 := hx.n6
  have HCX := Lib.hid hC
  have HF := Lib.hid hF
  have hFz := hF.1
  have hlt := hC.hl
  have hpt := hC.hp
  have hPt := hC.hP
  have htt := hC.ht
  have htz := hC.tb.1
  have HW : Hid (Below w.heap.size w (w.alloc (.cells #[I (postF p 0), I (postF p 1), I (postF p 2), I (postF p 3), I (postF p 4), I (postF p 5)] 65))) := Lib.hid (below1 _ _)
  have HT : Hid (Box (w.alloc (.cells #[I (postF p 0), I (postF p 1), I (postF p 2), I (postF p 3), I (postF p 4), I (postF p 5)] 65)) w.heap.size (six (postF p))) := Lib.hid (Box.new w (six (postF p)) 65)
  have HC1 := Lib.hid (hC.frm_below HW.out)
  have HF1 : Hid (Box (w.alloc (.cells #[I (postF p 0), I (postF p 1), I (postF p 2), I (postF p 3), I (postF p 4), I (postF p 5)] 65)) Fd (six fv)) := Lib.hid (hF.call HW.out)
  have hsz : (w.alloc (.cells #[I (postF p 0), I (postF p 1), I (postF p 2), I (postF p 3), I (postF p 4), I (postF p 5)] 65)).heap.size = w.heap.size + 1 := by simp
  clear hx hC hF
  have hp6 : p.length < 6 := by have : x.n ≤ 6 := hn6; omega
  have hl12 : left ≤ 12 := by omega
  have HFN := Lib.hid (fnd_succ (enoughB x) p (k + 1) left)
  have HUP : Hid (∀ v : Nat, postF (p ++ [v]) = updF (postF p) p.length v) := Lib.hid fun v => postF_app p v
  have HUZ : Hid (updF (postF p) p.length 0 = postF p) := Lib.hid (updF_zero p)
  have H42 : Hid (∀ (v : Nat) (W : World), v ≤ left → TryCtx W x A c B d P Lb Pb Fd Tb → Box W Fd (six fv) → Calls Try.prog 42 #[aggF (postF (p ++ [v])), I ((p.length : Int) + 1), I ((left : Int) - v), .pointer (some ⟨Lb, 0, none⟩), .pointer (some ⟨Pb, 0, none⟩), .pointer (some ⟨Fd, 0, none⟩), .pointer (some ⟨Tb, 0, none⟩)] W fun e w' => e = .returned (.bool (fnd (enoughB x) (p ++ [v]) (k + 1) (left - v)).isSome) ∧ Frm W.heap.size (· = Fd) W w' ∧ Box w' Fd (six (fdOf fv (fnd (enoughB x) (p ++ [v]) (k + 1) (left - v))))) := Lib.hid fun v W hv h1 h2 => by
    have h := ih v W hv h1 h2
    rw [show ((p ++ [v]).length : Int) = (p.length : Int) + 1 by simp, show ((left - v : Nat) : Int) = (left : Int) - v by omega] at h
    exact h
  obtain ⟨l0, _⟩ := HC1.out.lb.at_ 0 _ rfl
  have hkx : (x.n : Int) - 1 = (p.length : Int) + (k : Int) + 1 := by omega
  rw [hkx] at l0
  have HRN : Hid ((∀ v, v < left + 1 → fnd (enoughB x) (p ++ [v]) (k + 1) (left - v) = none) → fnd (enoughB x) p (k + 2) left = none) := Lib.hid fun h => by rw [HFN.out]; exact range_none h
  have HRS : Hid (∀ J m, J < left + 1 → (∀ v, v < J → fnd (enoughB x) (p ++ [v]) (k + 1) (left - v) = none) → fnd (enoughB x) (p ++ [J]) (k + 1) (left - J) = some m → fnd (enoughB x) p (k + 2) left = some m) := Lib.hid fun J m h1 h2 h3 => by rw [HFN.out]; exact range_some h1 h2 h3
  clear ih HFN
  generalize fnd (enoughB x) p (k + 2) left = fn at *
  have p0 : (0 : Int) ≤ (p.length : Int) := by omega
  have p1 : (p.length : Int) < 6 := by omega
  have HT0 : Hid (Box (w.alloc (.cells #[I (postF p 0), I (postF p 1), I (postF p 2), I (postF p 3), I (postF p 4), I (postF p 5)] 65)) w.heap.size (six (updF (postF p) p.length 0))) := Lib.hid (by rw [HUZ.out]; exact HT.out)
  have HW0 : Hid (Frm w.heap.size (· = Fd) w (w.alloc (.cells #[I (postF p 0), I (postF p 1), I (postF p 2), I (postF p 3), I (postF p 4), I (postF p 5)] 65))) := Lib.hid (.of_below HW.out (Nat.le_refl _))
  go_enter Try.func42, Try.ntmps42
  go_wp2_with (fail)
  clear l0
  generalize w.alloc (.cells #[I (postF p 0), I (postF p 1), I (postF p 2), I (postF p 3), I (postF p 4), I (postF p 5)] 65) = w1 at *
  go_loopw [34] (fun s34 wr => ∃ (v : Nat) (u : Int), v ≤ left + 1 ∧ s34 = I v ∧ Hid (Frm w.heap.size (· = Fd) w wr) ∧ w.heap.size + 1 ≤ wr.heap.size ∧ Hid (Box wr w.heap.size (six (updF (postF p) p.length u))) ∧ Hid (Box wr Fd (six fv)) ∧ Hid (∀ v', v' < v → fnd (enoughB x) (p ++ [v']) (k + 1) (left - v') = none)) (fun s _ => left + 1 - (intOf s).toNat)
  case atStart => exact ⟨0, 0, by omega, rfl, HW0, by omega, HT0, HF1, Lib.hid fun v' h => by omega⟩
  case round =>
    clear HW0 HT0 HF1 HW HT HC1 hsz HUZ
    obtain ⟨v, u, hv, rfl, HFR, hz, HT, HFd, HNo⟩ := hrel
    by_cases hlv : v < left + 1
    · have HFRb : Hid (Frm w.heap.size (· = Fd) w (wr.setCell ⟨w.heap.size, p.length, none⟩ (I v))) := Lib.hid (HFR.out.setCell (.inl (Nat.le_refl _)) _)
      have HC2 := Lib.hid (HCX.out.frm HFRb.out)
      have HTb : Hid (Box (wr.setCell ⟨w.heap.size, p.length, none⟩ (I v)) w.heap.size (six (postF (p ++ [v])))) := Lib.hid (by rw [HUP.out, ← updF_upd (postF p) p.length u, ← six_upd]; exact HT.out.set _ _)
      have HFb : Hid (Box (wr.setCell ⟨w.heap.size, p.length, none⟩ (I v)) Fd (six fv)) := Lib.hid (HFd.out.far (p := ⟨w.heap.size, p.length, none⟩) (show w.heap.size ≠ Fd by omega) _)
      have hzb : (wr.setCell ⟨w.heap.size, p.length, none⟩ (I v)).heap.size = wr.heap.size := by simp
      obtain ⟨t0, t1⟩ := HT.out.at_ p.length _ (six_at _ hp6)
      obtain ⟨m0, _⟩ := HTb.out.at_ 0 _ (six_at _ (by omega))
      obtain ⟨m1, _⟩ := HTb.out.at_ 1 _ (six_at _ (by omega))
      obtain ⟨m2, _⟩ := HTb.out.at_ 2 _ (six_at _ (by omega))
      obtain ⟨m3, _⟩ := HTb.out.at_ 3 _ (six_at _ (by omega))
      obtain ⟨m4, _⟩ := HTb.out.at_ 4 _ (six_at _ (by omega))
      obtain ⟨m5, _⟩ := HTb.out.at_ 5 _ (six_at _ (by omega))
      obtain ⟨b0, _⟩ := HC2.out.tb.at_ 0 _ rfl
      have H42v := Lib.hid (H42.out v (wr.setCell ⟨w.heap.size, p.length, none⟩ (I v)) (by omega) HC2.out HFb.out)
      have HUV := Lib.hid (HUP.out v)
      have HRSv := Lib.hid (fun m => HRS.out v m hlv HNo.out)
      have HNS : Hid (fnd (enoughB x) (p ++ [v]) (k + 1) (left - v) = none → ∀ v', v' < v + 1 → fnd (enoughB x) (p ++ [v']) (k + 1) (left - v') = none) := Lib.hid fun e v' h => by
        rcases Nat.lt_succ_iff_lt_or_eq.1 h with h1 | rfl
        · exact HNo.out v' h1
        · exact e
      have HTF : Hid (∀ W', Frm (wr.setCell ⟨w.heap.size, p.length, none⟩ (I v)).heap.size (· = Fd) (wr.setCell ⟨w.heap.size, p.length, none⟩ (I v)) W' → Box W' w.heap.size (six (updF (postF p) p.length v)) ∧ Frm w.heap.size (· = Fd) w W' ∧ w.heap.size + 1 ≤ W'.heap.size) := Lib.hid fun W' h => by
        have hz2 := h.size
        refine ⟨?_, HFRb.out.trans (h.mono (by omega) fun _ _ e => e), by omega⟩
        rw [← HUP.out]
        exact HTb.out.keep h.size (fun o => h.cell (by omega) (by omega)) (fun o => h.frozen (by omega) (by omega))
      have p2 : (0 : Int) ≤ (v : Int) := by omega
      have p3 : (v : Int) ≤ (left : Int) := by omega
      obtain ⟨o, ho⟩ : ∃ o, fnd (enoughB x) (p ++ [v]) (k + 1) (left - v) = o := ⟨_, rfl⟩
      rw [ho] at H42v HRSv HNS
      clear ho HT HFd HFRb HNo
      generalize postF (p ++ [v]) = pv at *
      cases o with
      | none =>
        have HNx := Lib.hid (HNS.out rfl)
        clear HNS HRSv
        go_wp2_with (first
          | (go_at_call 42; refine H42v.out.mono ?_; rintro e w5 ⟨rfl, hF5, hD5⟩; obtain ⟨hT5, hR5, hz5⟩ := HTF.out w5 hF5)
          | fail)
        have HT5 := Lib.hid hT5
        have HR5 := Lib.hid hR5
        have HD5 := Lib.hid hD5
        go_roundw
        case rel => first | exact ⟨v + 1, v, by omega, by go_num, HR5, hz5, HT5, HD5, HNx⟩ | ((repeat apply Exists.intro); refine ⟨?_, rfl⟩; exact ⟨v + 1, v, by omega, by go_num, HR5, hz5, HT5, HD5, HNx⟩)
        case measure => first | (simp [intOf]; done) | (simp [intOf]; omega)
      | some m =>
        have HFS := Lib.hid (HRSv.out m rfl)
        clear HNS HRSv
        go_wp2_with (first
          | (go_at_call 42; refine H42v.out.mono ?_; rintro e w5 ⟨rfl, hF5, hD5⟩; obtain ⟨hT5, hR5, hz5⟩ := HTF.out w5 hF5)
          | fail)
        have HR5 := Lib.hid hR5
        have HD5 := Lib.hid hD5
        refine bodyPost_ret (v := .bool true) (by simp [results, Try.results42, go_sem]) rfl ⟨by rw [HFS.out]; rfl, HR5.out, by rw [HFS.out]; exact HD5.out⟩
    · obtain rfl : v = left + 1 := by omega
      have HFS := Lib.hid (HRN.out HNo.out)
      go_wp2_with (fail)
      refine bodyPost_ret (v := .bool false) (by simp [results, Try.results42, go_sem]) rfl ⟨by rw [HFS.out]; rfl, HFR.out, by rw [HFS.out]; exact HFd.out⟩
theorem try42 (x : Prk) (A B : Option Addr) (c d P Lb Pb Fd Tb : Nat) (hx : PrkOk x) (fv : Nat → Int) : ∀ (k left : Nat) (p : List Nat) (w : World), p.length + k = x.n → (k = 0 → x.n = 0 ∧ left = 0) → p.sum + left ≤ 12 → TryCtx w x A c B d P Lb Pb Fd Tb → Box w Fd (six fv) →
    Calls Try.prog 42 #[aggF (postF p), I p.length, I left, .pointer (some ⟨Lb, 0, none⟩), .pointer (some ⟨Pb, 0, none⟩), .pointer (some ⟨Fd, 0, none⟩), .pointer (some ⟨Tb, 0, none⟩)] w fun e w' =>
      e = .returned (.bool (fnd (enoughB x) p k left).isSome) ∧ Frm w.heap.size (· = Fd) w w' ∧ Box w' Fd (six (fdOf fv (fnd (enoughB x) p k left)))
  | 0, left, p, w, hk, h0, hs, hC, hF => by
    obtain ⟨h1, rfl⟩ := h0 rfl
    have hp : p.length = 0 := by omega
    have h := try42_zero x A B c d P Lb Pb Fd Tb hx p fv w hk h1 hs hC hF
    rw [hp]
    exact h
  | 1, left, p, w, hk, _, hs, hC, hF => try42_one x A B c d P Lb Pb Fd Tb hx left p fv w hk hs hC hF
  | k + 2, left, p, w, hk, _, hs, hC, hF => try42_step x A B c d P Lb Pb Fd Tb hx left p fv w k hk (fun v W hv h1 h2 => try42 x A B c d P Lb Pb Fd Tb hx fv (k + 1) (left - v) (p ++ [v]) W (by simp; omega) (fun h => by omega) (by simp; omega) h1 h2) hs hC hF
end Go.Proofs.Ytfebhofihioaoaa
