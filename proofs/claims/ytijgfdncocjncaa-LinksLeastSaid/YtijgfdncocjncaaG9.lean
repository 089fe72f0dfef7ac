/- Law 5, the walk where links explain the watch. -/
import Derived.Test.YtijgfdncocjncaaG8
import Derived.Test.YtijgfdncocjncaaC1
namespace Go.Proofs.Ytijgfdncocjncaa
set_option linter.unusedVariables false
set_option linter.unusedSimpArgs false
open Go Go.RowKit

theorem fewR_l36 (x : Wat) : (fewR x).1.length ≤ 36 := by
  unfold fewR
  cases hw : watB x
  · simp
  · have hn := (watB_iff.1 hw).n6
    cases hf : fewTo x x.n with
    | none => simp
    | some o =>
      have h := (fewTo_ok x x.n o hn hn hf).1
      show o.length ≤ 36
      omega
theorem nedR_l36 (x : Wat) : (nedR x).1.length ≤ 36 := by
  unfold nedR
  cases hw : watB x
  · simp
  · have hn := (watB_iff.1 hw).n6
    cases hf : nedTo x x.n with
    | none => simp
    | some o =>
      have h := (nedTo_ok x x.n o hn hn hf).1
      show o.length ≤ 36
      omega
def inT (l : List (Int × Int)) (p : Int × Int) (k : Nat) : Bool := (l.take k).any fun q => decide (q.1 = p.1 ∧ q.2 = p.2)
theorem inT_succ {l : List (Int × Int)} {p : Int × Int} {k : Nat} (h : k < l.length) : inT l p (k + 1) = (inT l p k || decide (l[k].1 = p.1 ∧ l[k].2 = p.2)) := by
  unfold inT
  rw [List.take_succ_eq_append_getElem h, List.any_append]
  simp
theorem inT_mem {l : List (Int × Int)} {p : Int × Int} (h : p ∈ l) : inT l p l.length = true := by
  unfold inT
  rw [List.take_length]
  exact List.any_eq_true.2 ⟨p, h, by simp⟩
theorem slice38 (R : Option Addr) (n c j : Nat) (h : j + 1 ≤ n) (w : World) : (Instr.sliceAt 38 (.slice R n c) (some (.int .i64 ((j : Int) + 1))) none none).run Try.prog w = .ok (.slice (if c = j + 1 then R else R.map (·.add ((j + 1) * 2))) (n - (j + 1)) (c - (j + 1))) w := by
  have u38 : Try.prog.underlying 38 = some (.slice (Try.prog.elem 38)) := by kernel_rfl
  have s27 : ∀ w, (sizeOf (Try.prog.elem 38)).run Try.prog w = .ok 2 w := fun w => by kernel_rfl
  rw [run_sliceAt_slice (h := u38), run_slice_l (ht := u38) (h0 := by omega) (h1 := by omega), s27]
  simp only [Result.andThen, sliced]
  rw [show ((j : Int) + 1).toNat = j + 1 by omega]
theorem slice38h (R : Option Addr) (n c j : Nat) (h : j ≤ n) (hc : n ≤ c) (w : World) : (Instr.sliceAt 38 (.slice R n c) none (some (.int .i64 (j : Int))) none).run Try.prog w = .ok (.slice R j c) w := by
  have u38 : Try.prog.underlying 38 = some (.slice (Try.prog.elem 38)) := by kernel_rfl
  have s27 : ∀ w, (sizeOf (Try.prog.elem 38)).run Try.prog w = .ok 2 w := fun w => by kernel_rfl
  rw [run_sliceAt_slice (h := u38), run_slice_h (ht := u38) (h0 := by omega) (h2 := by omega), s27]
  simp only [Result.andThen, sliced]
  by_cases e : c = 0
  · rw [if_pos (by omega)]; simp
  · rw [if_neg (by omega)]
    cases R <;> simp [Addr.add]
set_option maxRecDepth 100000 in
set_option maxHeartbeats 8000000 in
theorem any5_ok (x : Wat) (A B : Option Addr) (c d b : Nat) (w : World) (h64 : Wat64 x) (hW : WatAt w x A B) (hb : b < 4294967296) (hlg : lrgB x 40 = false) (hwb : watB x = true) {o : List (Int × Int)} (ho : fewTo x x.n = some o) :
    Calls Try.prog 5 #[x.val A c B d, .int .u32 b] w fun e w' => e = .returned (.bool true) ∧ Below w.heap.size w w' := by
  have hx := watB_iff.1 hwb
  have H8 : Hid (∀ W, Calls Try.prog 8 #[x.val A c B d, I 40] W fun e w' => e = .returned (.bool false) ∧ Below W.heap.size W w') := Lib.hid fun W => by have h := large8b x A B c d 40 W h64; rw [hlg] at h; exact h
  obtain ⟨r, hr⟩ : ∃ r, nedTo x x.n = some r := by
    cases h : nedTo x x.n with
    | none => rw [few_ned_none.2 h] at ho; cases ho
    | some r => exact ⟨r, rfl⟩
  have hlck : lckTo x x.m = [] := Classical.byContradiction fun h => by rw [(lck_none hx).2 h] at ho; cases ho
  have e1 := fewR_of hwb ho
  have e2 := nedR_of hwb hr
  have e3 := lckR_of hwb
  rw [hlck] at e3
  have hol : o.length ≤ 36 := by have h := fewR_l36 x; rw [e1] at h; exact h
  have hrl : r.length ≤ 36 := by have h := nedR_l36 x; rw [e2] at h; exact h
  have H15 : Hid (∀ W, WatAt W x A B → Calls Try.prog 15 #[x.val A c B d] W fun e w' => ∃ A' c', e = .returned (.tuple #[.slice A' o.length c', I 0]) ∧ Twos w' w'.heap.size A' o ∧ o.length ≤ c' ∧ Below W.heap.size W w') := Lib.hid fun W h => by have := fewest15c x A B c d W h64 h; rw [e1] at this; exact this
  have H17 : Hid (∀ W, WatAt W x A B → Calls Try.prog 17 #[x.val A c B d] W fun e w' => ∃ A' c', e = .returned (.tuple #[.slice A' r.length c', I 0]) ∧ Twos w' w'.heap.size A' r ∧ Below W.heap.size W w') := Lib.hid fun W h => by have := needed17 x A B c d W h64 h; rw [e2] at this; exact this
  have H12 : Hid (∀ W, WatAt W x A B → Calls Try.prog 12 #[x.val A c B d] W fun e w' => ∃ A' c', e = .returned (.tuple #[.slice A' 0 c', I 0]) ∧ Below W.heap.size W w') := Lib.hid fun W h => by have := lacking12 x A B c d W h64 h; rw [e3] at this; exact this.mono fun e w' ⟨A', c', h1, _, h2⟩ => ⟨A', c', h1, h2⟩
  have H20 : Hid (∀ W, WatAt W x A B → Calls Try.prog 20 #[x.val A c B d] W fun e w' => e = .returned (.bool true) ∧ Below W.heap.size W w') := Lib.hid fun W h => by have h := watch20 x A B c d W h64 h; rw [hwb] at h; exact h
  have H21 : Hid (∀ W, Calls Try.prog 21 #[x.val A c B d, .int .u32 b] W fun e w' => ∃ A' c' S, e = .returned (.slice A' S.length c') ∧ Twos w' w'.heap.size A' S ∧ LnkOk x S ∧ S.length ≤ 36 ∧ Below W.heap.size W w') := Lib.hid fun W => some21 x A B c d b W hx.n6 hb
  have H22S : Hid (∀ (C : Option Addr) (cs : Nat) (S : List (Int × Int)) W, WatAt W x A B → Twos W W.heap.size C S → LnkOk x S → S.length ≤ 1000 → Calls Try.prog 22 #[x.val A c B d, .slice C S.length cs] W fun e w' => e = .returned (.bool (explL x S)) ∧ Below W.heap.size W w') := Lib.hid fun C cs S W h1 h2 h3 h4 => explains22 x A B c d C cs S W hx h1 h2 h3 h4
  have H22o : Hid (∀ (C : Option Addr) (cs : Nat) W, WatAt W x A B → Twos W W.heap.size C o → Calls Try.prog 22 #[x.val A c B d, .slice C o.length cs] W fun e w' => e = .returned (.bool true) ∧ Below W.heap.size W w') := Lib.hid fun C cs W h1 h2 => by have h := explains22 x A B c d C cs o W hx h1 h2 (few_ok ho) (by omega); rw [few_expl hx ho] at h; exact h
  have H22e : Hid (∀ i, i < o.length → ∀ (C : Option Addr) (cs : Nat) W, WatAt W x A B → Twos W W.heap.size C (o.take i ++ o.drop (i + 1)) → Calls Try.prog 22 #[x.val A c B d, .slice C (i + (o.length - (i + 1))) cs] W fun e w' => e = .returned (.bool false) ∧ Below W.heap.size W w') := Lib.hid fun i hi C cs W h1 h2 => by
    have hl : (o.take i ++ o.drop (i + 1)).length = i + (o.length - (i + 1)) := by rw [List.length_append, List.length_take, List.length_drop]; omega
    have h := explains22 x A B c d C cs _ W hx h1 h2 (fun p hp => few_ok ho p (drop_mem hp)) (by omega)
    rw [few_each ho hi, hl] at h
    exact h
  have H23o : Hid (∀ (C : Option Addr) (cs : Nat) W, Twos W W.heap.size C o → Calls Try.prog 23 #[.slice C o.length cs] W fun e w' => e = .returned (.bool true) ∧ Below W.heap.size W w') := Lib.hid fun C cs W h => ordered23 C cs o W h (few_sorted ho) (by omega)
  have H23r : Hid (∀ (C : Option Addr) (cs : Nat) W, Twos W W.heap.size C r → Calls Try.prog 23 #[.slice C r.length cs] W fun e w' => e = .returned (.bool true) ∧ Below W.heap.size W w') := Lib.hid fun C cs W h => ordered23 C cs r W h (ned_sorted hr) (by omega)
  have HLE := Lib.hid fun (S : List (Int × Int)) (hS : LnkOk x S) (h : explL x S = true) => few_le hS h ho
  have HIO := Lib.hid (ned_in (few_ok ho) (few_expl hx ho) hr)
  have HIS := Lib.hid fun (S : List (Int × Int)) (hS : LnkOk x S) (h : explL x S = true) => ned_in hS h hr
  obtain ⟨i0, hi0, hi1, hi2, hi3⟩ := info_parts info27
  have hv2 : x.val A c B d = .agg #[.slice A x.hb.length c, .slice B x.er.length d, I x.en] := rfl
  rw [hv2] at H22o H22e
  clear e1 e2 e3 hlck hx ho hr hv2
  have tok1 : True := trivial
  have tok2 : True := trivial
  have H9 := Lib.hid awake9
  have hv : x.val A c B d = .agg #[.slice A x.hb.length c, .slice B x.er.length d, I x.en] := rfl
  rw [hv] at H8 H15 H17 H12 H20 H21 H22S ⊢
  clear hv
  have HW0 : Hid (WatAt (w.alloc (.cells #[.slice A x.hb.length c, .slice B x.er.length d, I x.en] 25)) x A B) := Lib.hid (hW.below (below1 _ _))
  have HX0 : Hid (Box (w.alloc (.cells #[.slice A x.hb.length c, .slice B x.er.length d, I x.en] 25)) w.heap.size [.slice A x.hb.length c, .slice B x.er.length d, I x.en]) := Lib.hid (Box.new w [.slice A x.hb.length c, .slice B x.er.length d, I x.en] 25)
  have HB0 : Hid (Below w.heap.size w (w.alloc (.cells #[.slice A x.hb.length c, .slice B x.er.length d, I x.en] 25))) := Lib.hid (by (repeat' (first | assumption | exact Below.refl _ _ | refine Below.drew ?_ | refine below_drewN ?_ _ | refine Below.setCell ?_ (by first | omega | (simp; done) | (simp; omega)) _ | refine Below.alloc ?_ (by first | omega | (simp; done) | (simp; omega)) _ | refine Below.trans ?_ (Below.mono (by assumption) (by first | omega | (simp; done) | (simp; omega))))))
  obtain ⟨m0, _⟩ := HX0.out.at_ 0 _ rfl
  obtain ⟨m1, _⟩ := HX0.out.at_ 1 _ rfl
  obtain ⟨m2, _⟩ := HX0.out.at_ 2 _ rfl
  clear hW
  go_enter Try.func5, Try.ntmps5
  go_wp2_with (first
    | (go_at_call 8; refine (H8.out _).mono ?_; rintro e w1 ⟨rfl, hB⟩; clear H8; replace HB0 := Lib.hid (HB0.out.trans (hB.mono HB0.out.size)); replace HW0 := Lib.hid (HW0.out.below hB); replace HX0 := Lib.hid (HX0.out.call hB); clear m0 m1 m2; obtain ⟨m0, _⟩ := HX0.out.at_ 0 _ rfl; obtain ⟨m1, _⟩ := HX0.out.at_ 1 _ rfl; obtain ⟨m2, _⟩ := HX0.out.at_ 2 _ rfl; clear hB)
    | (go_at_call 15; refine (H15.out _ HW0.out).mono ?_; rintro e w1 ⟨A15, c15, rfl, ht, hc15, hB⟩; clear H15; have HT15 := Lib.hid ht; clear ht; replace HB0 := Lib.hid (HB0.out.trans (hB.mono HB0.out.size)); replace HW0 := Lib.hid (HW0.out.below hB); replace HX0 := Lib.hid (HX0.out.call hB); clear m0 m1 m2; obtain ⟨m0, _⟩ := HX0.out.at_ 0 _ rfl; obtain ⟨m1, _⟩ := HX0.out.at_ 1 _ rfl; obtain ⟨m2, _⟩ := HX0.out.at_ 2 _ rfl; clear hB)
    | (go_at_call 17; refine (H17.out _ HW0.out).mono ?_; rintro e w1 ⟨A17, c17, rfl, ht, hB⟩; clear H17; have HT17 := Lib.hid ht; clear ht; replace HT15 := Lib.hid ((HT15.out.below hB).more hB.size); replace HB0 := Lib.hid (HB0.out.trans (hB.mono HB0.out.size)); replace HW0 := Lib.hid (HW0.out.below hB); replace HX0 := Lib.hid (HX0.out.call hB); clear m0 m1 m2; obtain ⟨m0, _⟩ := HX0.out.at_ 0 _ rfl; obtain ⟨m1, _⟩ := HX0.out.at_ 1 _ rfl; obtain ⟨m2, _⟩ := HX0.out.at_ 2 _ rfl; clear hB)
    | (go_at_call 12; refine (H12.out _ HW0.out).mono ?_; rintro e w1 ⟨A12, c12, rfl, hB⟩; clear H12; replace HT15 := Lib.hid ((HT15.out.below hB).more hB.size); replace HT17 := Lib.hid ((HT17.out.below hB).more hB.size); replace HB0 := Lib.hid (HB0.out.trans (hB.mono HB0.out.size)); replace HW0 := Lib.hid (HW0.out.below hB); replace HX0 := Lib.hid (HX0.out.call hB); clear m0 m1 m2; obtain ⟨m0, _⟩ := HX0.out.at_ 0 _ rfl; obtain ⟨m1, _⟩ := HX0.out.at_ 1 _ rfl; obtain ⟨m2, _⟩ := HX0.out.at_ 2 _ rfl; clear hB)
    | (go_at_call 20; refine (H20.out _ HW0.out).mono ?_; rintro e w1 ⟨rfl, hB⟩; clear H20; replace HT15 := Lib.hid ((HT15.out.below hB).more hB.size); replace HT17 := Lib.hid ((HT17.out.below hB).more hB.size); replace HB0 := Lib.hid (HB0.out.trans (hB.mono HB0.out.size)); replace HW0 := Lib.hid (HW0.out.below hB); replace HX0 := Lib.hid (HX0.out.call hB); clear m0 m1 m2; obtain ⟨m0, _⟩ := HX0.out.at_ 0 _ rfl; obtain ⟨m1, _⟩ := HX0.out.at_ 1 _ rfl; obtain ⟨m2, _⟩ := HX0.out.at_ 2 _ rfl; clear hB)
    | (go_at_call 21; refine (H21.out _).mono ?_; rintro e w1 ⟨AS, cS, S, rfl, htS, hokS, hslS, hB⟩; clear H21; have HTS := Lib.hid htS; have HOS := Lib.hid hokS; clear htS hokS; replace HT15 := Lib.hid ((HT15.out.below hB).more hB.size); replace HT17 := Lib.hid ((HT17.out.below hB).more hB.size); replace HB0 := Lib.hid (HB0.out.trans (hB.mono HB0.out.size)); replace HW0 := Lib.hid (HW0.out.below hB); replace HX0 := Lib.hid (HX0.out.call hB); clear m0 m1 m2; obtain ⟨m0, _⟩ := HX0.out.at_ 0 _ rfl; obtain ⟨m1, _⟩ := HX0.out.at_ 1 _ rfl; obtain ⟨m2, _⟩ := HX0.out.at_ 2 _ rfl; clear hB)
    | (go_at_call 22; have _t := tok1; clear _t tok1; refine (H22S.out AS cS S _ HW0.out HTS.out HOS.out (by omega)).mono ?_; obtain ⟨is_, his⟩ : ∃ v, explL x S = v := ⟨_, rfl⟩; have HLES := Lib.hid (HLE.out S HOS.out); have HISS := Lib.hid (HIS.out S HOS.out); rw [his] at HLES HISS ⊢; rintro e w1 ⟨rfl, hB⟩; clear H22S HLE HIS his; replace HT15 := Lib.hid ((HT15.out.below hB).more hB.size); replace HT17 := Lib.hid ((HT17.out.below hB).more hB.size); replace HTS := Lib.hid ((HTS.out.below hB).more hB.size); replace HB0 := Lib.hid (HB0.out.trans (hB.mono HB0.out.size)); replace HW0 := Lib.hid (HW0.out.below hB); replace HX0 := Lib.hid (HX0.out.call hB); clear m0 m1 m2; obtain ⟨m0, _⟩ := HX0.out.at_ 0 _ rfl; obtain ⟨m1, _⟩ := HX0.out.at_ 1 _ rfl; obtain ⟨m2, _⟩ := HX0.out.at_ 2 _ rfl; clear hB)
    | (go_at_call 22; refine (H22o.out A15 c15 _ HW0.out HT15.out).mono ?_; rintro e w1 ⟨rfl, hB⟩; clear H22o; replace HT15 := Lib.hid ((HT15.out.below hB).more hB.size); replace HT17 := Lib.hid ((HT17.out.below hB).more hB.size); replace HTS := Lib.hid ((HTS.out.below hB).more hB.size); replace HB0 := Lib.hid (HB0.out.trans (hB.mono HB0.out.size)); replace HW0 := Lib.hid (HW0.out.below hB); replace HX0 := Lib.hid (HX0.out.call hB); clear m0 m1 m2; obtain ⟨m0, _⟩ := HX0.out.at_ 0 _ rfl; obtain ⟨m1, _⟩ := HX0.out.at_ 1 _ rfl; obtain ⟨m2, _⟩ := HX0.out.at_ 2 _ rfl; clear hB)
    | (go_at_call 23; have _t := tok2; clear _t tok2; refine (H23o.out A15 c15 _ HT15.out).mono ?_; rintro e w1 ⟨rfl, hB⟩; clear H23o; replace HT15 := Lib.hid ((HT15.out.below hB).more hB.size); replace HT17 := Lib.hid ((HT17.out.below hB).more hB.size); replace HTS := Lib.hid ((HTS.out.below hB).more hB.size); replace HB0 := Lib.hid (HB0.out.trans (hB.mono HB0.out.size)); replace HW0 := Lib.hid (HW0.out.below hB); replace HX0 := Lib.hid (HX0.out.call hB); clear m0 m1 m2; obtain ⟨m0, _⟩ := HX0.out.at_ 0 _ rfl; obtain ⟨m1, _⟩ := HX0.out.at_ 1 _ rfl; obtain ⟨m2, _⟩ := HX0.out.at_ 2 _ rfl; clear hB)
    | (go_at_call 23; refine (H23r.out A17 c17 _ HT17.out).mono ?_; rintro e w1 ⟨rfl, hB⟩; clear H23r; replace HT15 := Lib.hid ((HT15.out.below hB).more hB.size); replace HT17 := Lib.hid ((HT17.out.below hB).more hB.size); replace HTS := Lib.hid ((HTS.out.below hB).more hB.size); replace HB0 := Lib.hid (HB0.out.trans (hB.mono HB0.out.size)); replace HW0 := Lib.hid (HW0.out.below hB); replace HX0 := Lib.hid (HX0.out.call hB); clear m0 m1 m2; obtain ⟨m0, _⟩ := HX0.out.at_ 0 _ rfl; obtain ⟨m1, _⟩ := HX0.out.at_ 1 _ rfl; obtain ⟨m2, _⟩ := HX0.out.at_ 2 _ rfl; clear hB)
    | fail)
  · exact absurd (HLES.out (by assumption)) (by omega)
  · have hist : is_ = true := by assumption
    subst hist
    have hnl := HLES.out rfl
    simp only [show decide (S.length < o.length) = false from decide_eq_false (by omega)]
    have hz1 := HB0.out.size
    have HCX : Hid (∀ W, Below w1.heap.size w1 W → W.cell? ⟨w.heap.size, 0, none⟩ = some (.slice A x.hb.length c) ∧ W.cell? ⟨w.heap.size, 1, none⟩ = some (.slice B x.er.length d) ∧ W.cell? ⟨w.heap.size, 2, none⟩ = some (I x.en)) := Lib.hid fun W hW => by
      have hx := HX0.out.call hW
      exact ⟨(hx.at_ 0 _ rfl).1, (hx.at_ 1 _ rfl).1, (hx.at_ 2 _ rfl).1⟩
    clear m0 m1 m2 HX0
    go_loopw [13] (fun s wr => ∃ i : Nat, i ≤ r.length ∧ s = I i ∧ Below w1.heap.size w1 wr) (fun s _ => r.length - (intOf s).toNat)
    case atStart => exact ⟨0, by omega, rfl, Below.refl _ _⟩
    case round =>
      obtain ⟨i, hi, rfl, hB⟩ := hrel
      by_cases hlt : i < r.length
      · obtain ⟨rb, ro, rfl, hrz, hrc⟩ := HT17.out (by omega)
        obtain ⟨q0, q1⟩ := hrc i hlt
        have HIN1 := Lib.hid (inT_mem (HIO.out r[i] (List.getElem_mem hlt)))
        have HIN2 := Lib.hid (inT_mem (HISS.out rfl r[i] (List.getElem_mem hlt)))
        have HRC : Hid (∀ W, Below w1.heap.size w1 W → W.cell? ⟨rb, ro + i * 2, none⟩ = some (I r[i].1) ∧ W.cell? ⟨rb, ro + i * 2 + 1, none⟩ = some (I r[i].2)) := Lib.hid fun W h => ⟨(h.cell (p := ⟨rb, _, none⟩) hrz).trans q0, (h.cell (p := ⟨rb, _, none⟩) hrz).trans q1⟩
        clear q0 q1 hrc
        have p0 : (0 : Int) ≤ (i : Int) := by omega
        have p1 : (i : Int) < (r.length : Int) := by omega
        obtain ⟨⟨pf, pt⟩, hp⟩ : ∃ p, r[i] = p := ⟨_, rfl⟩
        rw [hp] at HIN1 HIN2 HRC
        dsimp only at HRC
        clear hp
        go_wp2_with (fail)
        have HB1 := Lib.hid hB
        clear hB
        go_loopw [14, 16] (fun s14 s16 wi => ∃ k : Nat, k ≤ o.length ∧ s16 = I k ∧ s14 = .bool (inT o (pf, pt) k) ∧ Below w1.heap.size w1 wi) (fun _ s _ => o.length - (intOf s).toNat)
        case atStart => exact ⟨0, by omega, rfl, rfl, HB1.out⟩
        case round =>
          clear HB1
          obtain ⟨k, hk, rfl, rfl, hB⟩ := hrel
          by_cases hlk : k < o.length
          · obtain ⟨ob, oo, rfl, hoz, hoc⟩ := HT15.out (by omega)
            obtain ⟨q0, q1⟩ := hoc k hlk
            replace q0 := (hB.cell (p := ⟨ob, _, none⟩) hoz).trans q0
            replace q1 := (hB.cell (p := ⟨ob, _, none⟩) hoz).trans q1
            obtain ⟨r0, r1⟩ := HRC.out _ hB
            have HNX := Lib.hid (inT_succ (p := (pf, pt)) hlk)
            dsimp only at HNX
            have heq := fun W => eq27 o[k].1 o[k].2 pf pt W
            obtain ⟨bq, hbq⟩ : ∃ b, decide (o[k].1 = pf ∧ o[k].2 = pt) = b := ⟨_, rfl⟩
            rw [hbq] at HNX
            simp only [hbq] at heq
            clear hbq hoc
            generalize o[k].1 = of_ at *
            generalize o[k].2 = ot_ at *
            have s0 : (0 : Int) ≤ (k : Int) := by omega
            have s1 : (k : Int) < (o.length : Int) := by omega
            obtain ⟨fo, hfo⟩ : ∃ fo, inT o (pf, pt) k = fo := ⟨_, rfl⟩
            rw [hfo] at HNX ⊢
            clear hfo
            cases fo
            · go_wp2_with (fail)
              refine (wpIn_wide (n := 9)).1 ?_
              refine wpIn_region_text [0, 1, 2, 3, 4, 5, 6, 7, 8, 9, 10, 11, 12] rfl (by kernel_rfl) (by kernel_rfl) (fun _ d _ _ _ h => by cases d <;> exact h) ?_
              iterate 13 (refine ordT_li rfl rfl (fun K hK => ?_); go_simp; refine hK _ ?_; clear hK K)
              refine ordT_nil ?_
              clear q0 q1 r0 r1
              go_wp2_with (fail)
              go_roundw
              case rel => first | exact ⟨k + 1, by omega, by go_num, by rw [HNX.out]; first | rfl | simp, (by first | exact hB.drew | exact (below_drewN hB _).drew | exact below_drewN hB _)⟩ | ((repeat apply Exists.intro); refine ⟨?_, rfl⟩; exact ⟨k + 1, by omega, by go_num, by rw [HNX.out]; first | rfl | simp, (by first | exact hB.drew | exact (below_drewN hB _).drew | exact below_drewN hB _)⟩)
              case measure => first | (simp [intOf]; done) | (simp [intOf]; omega)
            · go_wp2_with (fail)
              refine (wpIn_wide (n := 9)).1 ?_
              refine wpIn_region_text [0, 1, 2, 3, 4, 5, 6, 7, 8, 9, 10, 11, 12] rfl (by kernel_rfl) (by kernel_rfl) (fun _ d _ _ _ h => by cases d <;> exact h) ?_
              iterate 13 (refine ordT_li rfl rfl (fun K hK => ?_); go_simp; refine hK _ ?_; clear hK K)
              refine ordT_nil ?_
              clear q0 q1 r0 r1
              go_wp2_with (fail)
              go_roundw
              case rel => first | exact ⟨k + 1, by omega, by go_num, by rw [HNX.out]; first | rfl | simp, (by first | exact hB.drew | exact (below_drewN hB _).drew | exact below_drewN hB _)⟩ | ((repeat apply Exists.intro); refine ⟨?_, rfl⟩; exact ⟨k + 1, by omega, by go_num, by rw [HNX.out]; first | rfl | simp, (by first | exact hB.drew | exact (below_drewN hB _).drew | exact below_drewN hB _)⟩)
              case measure => first | (simp [intOf]; done) | (simp [intOf]; omega)
          · obtain rfl : k = o.length := by omega
            rw [HIN1.out]
            go_wp2_with (fail)
            have HB1 := Lib.hid hB
            clear hB
            go_loopw [15, 17] (fun s14 s16 wi => ∃ k : Nat, k ≤ S.length ∧ s16 = I k ∧ s14 = .bool (inT S (pf, pt) k) ∧ Below w1.heap.size w1 wi) (fun _ s _ => S.length - (intOf s).toNat)
            case atStart => exact ⟨0, by omega, rfl, rfl, HB1.out⟩
            case round =>
              clear HB1
              obtain ⟨k, hk, rfl, rfl, hB⟩ := hrel
              by_cases hlk : k < S.length
              · obtain ⟨ob, oo, rfl, hoz, hoc⟩ := HTS.out (by omega)
                obtain ⟨q0, q1⟩ := hoc k hlk
                replace q0 := (hB.cell (p := ⟨ob, _, none⟩) hoz).trans q0
                replace q1 := (hB.cell (p := ⟨ob, _, none⟩) hoz).trans q1
                obtain ⟨r0, r1⟩ := HRC.out _ hB
                have HNX := Lib.hid (inT_succ (p := (pf, pt)) hlk)
                dsimp only at HNX
                have heq := fun W => eq27 S[k].1 S[k].2 pf pt W
                obtain ⟨bq, hbq⟩ : ∃ b, decide (S[k].1 = pf ∧ S[k].2 = pt) = b := ⟨_, rfl⟩
                rw [hbq] at HNX
                simp only [hbq] at heq
                clear hbq hoc
                generalize S[k].1 = of_ at *
                generalize S[k].2 = ot_ at *
                have s0 : (0 : Int) ≤ (k : Int) := by omega
                have s1 : (k : Int) < (S.length : Int) := by omega
                obtain ⟨fo, hfo⟩ : ∃ fo, inT S (pf, pt) k = fo := ⟨_, rfl⟩
                rw [hfo] at HNX ⊢
                clear hfo
                cases fo
                · go_wp2_with (fail)
                  refine (wpIn_wide (n := 9)).1 ?_
                  refine wpIn_region_text [0, 1, 2, 3, 4, 5, 6, 7, 8, 9, 10, 11, 12] rfl (by kernel_rfl) (by kernel_rfl) (fun _ d _ _ _ h => by cases d <;> exact h) ?_
                  iterate 13 (refine ordT_li rfl rfl (fun K hK => ?_); go_simp; refine hK _ ?_; clear hK K)
                  refine ordT_nil ?_
                  clear q0 q1 r0 r1
                  go_wp2_with (fail)
                  go_roundw
                  case rel => first | exact ⟨k + 1, by omega, by go_num, by rw [HNX.out]; first | rfl | simp, (by first | exact hB.drew | exact (below_drewN hB _).drew | exact below_drewN hB _)⟩ | ((repeat apply Exists.intro); refine ⟨?_, rfl⟩; exact ⟨k + 1, by omega, by go_num, by rw [HNX.out]; first | rfl | simp, (by first | exact hB.drew | exact (below_drewN hB _).drew | exact below_drewN hB _)⟩)
                  case measure => first | (simp [intOf]; done) | (simp [intOf]; omega)
                · go_wp2_with (fail)
                  refine (wpIn_wide (n := 9)).1 ?_
                  refine wpIn_region_text [0, 1, 2, 3, 4, 5, 6, 7, 8, 9, 10, 11, 12] rfl (by kernel_rfl) (by kernel_rfl) (fun _ d _ _ _ h => by cases d <;> exact h) ?_
                  iterate 13 (refine ordT_li rfl rfl (fun K hK => ?_); go_simp; refine hK _ ?_; clear hK K)
                  refine ordT_nil ?_
                  clear q0 q1 r0 r1
                  go_wp2_with (fail)
                  go_roundw
                  case rel => first | exact ⟨k + 1, by omega, by go_num, by rw [HNX.out]; first | rfl | simp, (by first | exact hB.drew | exact (below_drewN hB _).drew | exact below_drewN hB _)⟩ | ((repeat apply Exists.intro); refine ⟨?_, rfl⟩; exact ⟨k + 1, by omega, by go_num, by rw [HNX.out]; first | rfl | simp, (by first | exact hB.drew | exact (below_drewN hB _).drew | exact below_drewN hB _)⟩)
                  case measure => first | (simp [intOf]; done) | (simp [intOf]; omega)
              · obtain rfl : k = S.length := by omega
                rw [HIN2.out]
                go_wp2_with (fail)
                go_roundw
                case rel => first | exact ⟨i + 1, by omega, by go_num, hB⟩ | ((repeat apply Exists.intro); refine ⟨?_, rfl⟩; exact ⟨i + 1, by omega, by go_num, hB⟩)
                case measure => first | (simp [intOf]; done) | (simp [intOf]; omega)
      · go_wp2_with (fail)
        have HB1 := Lib.hid hB
        clear hB
        go_loopw [18] (fun s wi => ∃ i : Nat, i ≤ o.length ∧ s = I i ∧ Below w1.heap.size w1 wi) (fun s _ => o.length - (intOf s).toNat)
        case atStart => exact ⟨0, by omega, rfl, HB1.out⟩
        case round =>
          clear HB1
          obtain ⟨j, hj, rfl, hB⟩ := hrel
          have hzr := hB.size
          by_cases hlj : j < o.length
          · have H22j := Lib.hid (H22e.out j hlj)
            have HT2 := Lib.hid ((HT15.out.below hB).more hzr)
            obtain ⟨ob, oo, rfl, hoz, hoc⟩ := HT15.out (by omega)
            have HTT := Lib.hid (twos_take (n := j) HT2.out)
            have HTD := Lib.hid (twos_drop (n := j + 1) HT2.out)
            have hcl1 : (flat2 (o.take j)).length = j * 2 := by rw [flat2_len, List.length_take]; omega
            have hcl2 : (flat2 (o.drop (j + 1))).length = (o.length - (j + 1)) * 2 := by rw [flat2_len, List.length_drop]
            have hcl3 : (o.take j ++ o.drop (j + 1)).length = j + (o.length - (j + 1)) := by rw [List.length_append, List.length_take, List.length_drop]; omega
            have HC1 := Lib.hid hcl1
            have HC2 := Lib.hid hcl2
            have HC3 := Lib.hid hcl3
            have HTL : Hid (j = (o.take j).length) := Lib.hid (by rw [List.length_take]; omega)
            have HDL : Hid (o.length - (j + 1) = (o.drop (j + 1)).length) := Lib.hid (by rw [List.length_drop])
            obtain ⟨R', hR'⟩ : ∃ R', (if c15 = j + 1 then (some ⟨ob, oo, none⟩ : Option Addr) else (some ⟨ob, oo, none⟩ : Option Addr).map (·.add ((j + 1) * 2))) = R' := ⟨_, rfl⟩
            have h38 := fun W => slice38 (some ⟨ob, oo, none⟩) o.length c15 j hlj W
            have h38h := fun W => slice38h (some ⟨ob, oo, none⟩) o.length c15 j (by omega) hc15 W
            rw [hR'] at h38
            have HRD : Hid (0 < o.length - (j + 1) → R' = some ⟨ob, oo + (j + 1) * 2, none⟩) := Lib.hid fun h0 => by
              rw [← hR', if_neg (by omega)]
              simp [Addr.add]
            have HCY : Hid (∀ W, Below wr.heap.size wr W → W.cell? ⟨w.heap.size, 0, none⟩ = some (.slice A x.hb.length c) ∧ W.cell? ⟨w.heap.size, 1, none⟩ = some (.slice B x.er.length d) ∧ W.cell? ⟨w.heap.size, 2, none⟩ = some (I x.en)) := Lib.hid fun W hW => HCX.out W (hB.trans (hW.mono hzr))
            have hwj : IntKind.i64.wrap ((j : Int) + 1) = (j : Int) + 1 := IntWalk.i64_in _ (by omega)
            have s0 : (0 : Int) ≤ (j : Int) := by omega
            have s1 : (j : Int) < (o.length : Int) := by omega
            have HBr := Lib.hid hB
            have HWr := Lib.hid (HW0.out.below hB)
            clear hR' hoc hcl1 hcl2 hcl3 hB
            go_wp2_with (fail)
            refine (wpIn_wide (n := 9)).1 ?_
            refine wpIn_region_plan (Plan.ons [0, 2, 3, 4, 6, 7, 8, 9, 1, 5, 10, 11] .fin) [0, 2, 3, 4, 6, 7, 8, 9] (fun W => Below wr.heap.size wr W) [] rfl (by kernel_rfl) (by kernel_rfl) (fun _ d _ _ _ h => by cases d <;> exact h) (Below.refl _ _).drew ?_
            (refine ordQ_held (.agg #[.slice A x.hb.length c, .slice B x.er.length d, I x.en]) rfl rfl rfl rfl (fun W' hC' => ?_) (fun K hK => ?_); (focus (obtain ⟨g0, g1, g2⟩ := HCY.out _ hC'; go_simp; try exact ⟨rfl, rfl⟩)); go_simp; refine hK _ ?_; clear hK K)
            (refine ordQ_held (.slice (some ⟨ob, oo, none⟩) o.length c15) rfl rfl rfl rfl (fun W' hC' => ?_) (fun K hK => ?_); (focus (obtain _ := hC'; go_simp; try exact ⟨rfl, rfl⟩)); go_simp; refine hK _ ?_; clear hK K)
            (refine ordQ_held (I j) rfl rfl rfl rfl (fun W' hC' => ?_) (fun K hK => ?_); (focus (obtain _ := hC'; go_simp; try exact ⟨rfl, rfl⟩)); go_simp; refine hK _ ?_; clear hK K)
            (refine ordQ_held (.slice (some ⟨ob, oo, none⟩) j c15) rfl rfl rfl rfl (fun W' hC' => ?_) (fun K hK => ?_); (focus (obtain _ := hC'; go_simp; try exact ⟨rfl, rfl⟩)); go_simp; refine hK _ ?_; clear hK K)
            (refine ordQ_held (.slice (some ⟨ob, oo, none⟩) o.length c15) rfl rfl rfl rfl (fun W' hC' => ?_) (fun K hK => ?_); (focus (obtain _ := hC'; go_simp; try exact ⟨rfl, rfl⟩)); go_simp; refine hK _ ?_; clear hK K)
            (refine ordQ_held (I j) rfl rfl rfl rfl (fun W' hC' => ?_) (fun K hK => ?_); (focus (obtain _ := hC'; go_simp; try exact ⟨rfl, rfl⟩)); go_simp; refine hK _ ?_; clear hK K)
            (refine ordQ_held (I ((j : Int) + 1)) rfl rfl rfl rfl (fun W' hC' => ?_) (fun K hK => ?_); (focus (obtain _ := hC'; go_simp; try exact ⟨rfl, rfl⟩)); go_simp; refine hK _ ?_; clear hK K)
            (refine ordQ_held (.slice R' (o.length - (j + 1)) (c15 - (j + 1))) rfl rfl rfl rfl (fun W' hC' => ?_) (fun K hK => ?_); (focus (obtain _ := hC'; go_simp; try exact ⟨rfl, rfl⟩)); go_simp; refine hK _ ?_; clear hK K)
            refine ordQ_hv rfl rfl rfl (fun K hK => ?_)
            gi_wp2
            have hBa : Below wr.heap.size wr (wr.alloc (.cells #[] 27)).drew := (below1 wr _).drew
            refine hK _ _ (fun _ => hBa) ?_
            clear hK K
            have hra : ((wr.alloc (.cells #[] 27)).drew).ownsRow wr.heap.size 27 2 (.slice (some ⟨wr.heap.size, 0, none⟩) 0 0) 0 [] := (World.ownsRow_made wr #[] 0 (Nat.le_refl _) (Nat.zero_le _) (by simp)).drew
            refine ordQ_hv rfl rfl rfl (fun K hK => ?_)
            refine opIn_append_any rfl _ _ _ 38 rfl wr.heap.size 27 i0 (.agg #[I 0, I 0]) 2 16 Try.underlying38 hi0 hi1 hi2 hi3 rfl (by decide) _ _ _ rfl hra (some ⟨ob, oo, none⟩) j c15 (flat2 (o.take j)) rfl HC1.out (fun h0 => flat2_src (HTT.out.below hBa) (by rw [← HTL.out]; exact h0)) (flat2_one _) (by unfold maxLen; omega) (by omega) hBa.size ?_
            intro v30 w30 hown30 hg30
            have hB30 : Below wr.heap.size wr w30 := hBa.grown hg30 hBa.size (fun g e => (hra.lt g e).1)
            refine hK _ _ (fun _ => hB30) ?_
            clear hK K
            refine ordQ_hv rfl rfl rfl (fun K hK => ?_)
            refine opIn_append_any rfl _ _ _ 38 rfl wr.heap.size 27 i0 (.agg #[I 0, I 0]) 2 16 Try.underlying38 hi0 hi1 hi2 hi3 rfl (by decide) _ _ _ rfl hown30 R' (o.length - (j + 1)) (c15 - (j + 1)) (flat2 (o.drop (j + 1))) rfl HC2.out (fun h0 => by rw [HRD.out h0]; exact flat2_src (HTD.out.below hB30) (by rw [← HDL.out]; exact h0)) (flat2_one _) (by unfold maxLen; omega) (by omega) hB30.size ?_
            intro v31 w31 hown31 hg31
            have hB31 : Below wr.heap.size wr w31 := hB30.grown hg31 hB30.size (fun g e => (hown30.lt g e).1)
            refine hK _ _ (fun _ => hB31) ?_
            clear hK K
            rw [Nat.zero_add, List.nil_append, ← flat2_app] at hown31
            obtain ⟨A9, c9, hv9, hT9, _⟩ := twos_own hown31 HC3.out
            subst hv9
            have H22k := Lib.hid (H22j.out A9 c9 w31 (HWr.out.below hB31) hT9)
            clear hown31 hg31 hown30 hg30 hB30 hra hBa hT9 h38 h38h
            refine ordQ_hv rfl rfl rfl (fun K hK => ?_)
            gi_wp2_with (first | (refine And.intro trivial ?_; gi_at_call 22; refine (callsIn_wide.2 H22k.out).mono ?_; rintro e w40 ⟨rfl, hB40⟩) | fail)
            have HB40 := Lib.hid (hB31.trans (hB40.mono hB31.size))
            refine hK _ _ (fun _ => HB40.out) ?_
            clear hK K
            refine ordQ_fin ?_
            have HBf : Hid (Below w1.heap.size w1 w40) := Lib.hid (HBr.out.trans (HB40.out.mono hzr))
            clear hB31 hB40 HB40 H22k
            go_wp2_with (fail)
            go_roundw
            case rel => first | exact ⟨j + 1, by omega, by go_num, HBf.out⟩ | ((repeat apply Exists.intro); refine ⟨?_, rfl⟩; exact ⟨j + 1, by omega, by go_num, HBf.out⟩)
            case measure => first | (simp [intOf]; done) | (simp [intOf]; omega)
          · obtain rfl : j = o.length := by omega
            go_wp2_with (first
              | (go_at_call 9; refine (H9.out _).mono ?_; rintro e w9 ⟨rfl, hB9⟩)
              | fail)
            exact bodyPost_ret (v := .bool true) (by simp [results, Try.results5, go_sem]) rfl ⟨rfl, (HB0.out.trans (hB.mono HB0.out.size)).trans (hB9.mono (Nat.le_trans HB0.out.size hzr))⟩
  · have hz1 := HB0.out.size
    have HCX : Hid (∀ W, Below w1.heap.size w1 W → W.cell? ⟨w.heap.size, 0, none⟩ = some (.slice A x.hb.length c) ∧ W.cell? ⟨w.heap.size, 1, none⟩ = some (.slice B x.er.length d) ∧ W.cell? ⟨w.heap.size, 2, none⟩ = some (I x.en)) := Lib.hid fun W hW => by
      have hx := HX0.out.call hW
      exact ⟨(hx.at_ 0 _ rfl).1, (hx.at_ 1 _ rfl).1, (hx.at_ 2 _ rfl).1⟩
    clear m0 m1 m2 HX0
    go_loopw [13] (fun s wr => ∃ i : Nat, i ≤ r.length ∧ s = I i ∧ Below w1.heap.size w1 wr) (fun s _ => r.length - (intOf s).toNat)
    case atStart => exact ⟨0, by omega, rfl, Below.refl _ _⟩
    case round =>
      obtain ⟨i, hi, rfl, hB⟩ := hrel
      by_cases hlt : i < r.length
      · obtain ⟨rb, ro, rfl, hrz, hrc⟩ := HT17.out (by omega)
        obtain ⟨q0, q1⟩ := hrc i hlt
        have HIN1 := Lib.hid (inT_mem (HIO.out r[i] (List.getElem_mem hlt)))
        have HRC : Hid (∀ W, Below w1.heap.size w1 W → W.cell? ⟨rb, ro + i * 2, none⟩ = some (I r[i].1) ∧ W.cell? ⟨rb, ro + i * 2 + 1, none⟩ = some (I r[i].2)) := Lib.hid fun W h => ⟨(h.cell (p := ⟨rb, _, none⟩) hrz).trans q0, (h.cell (p := ⟨rb, _, none⟩) hrz).trans q1⟩
        clear q0 q1 hrc
        have p0 : (0 : Int) ≤ (i : Int) := by omega
        have p1 : (i : Int) < (r.length : Int) := by omega
        obtain ⟨⟨pf, pt⟩, hp⟩ : ∃ p, r[i] = p := ⟨_, rfl⟩
        rw [hp] at HIN1  HRC
        dsimp only at HRC
        clear hp
        go_wp2_with (fail)
        have HB1 := Lib.hid hB
        clear hB
        go_loopw [14, 16] (fun s14 s16 wi => ∃ k : Nat, k ≤ o.length ∧ s16 = I k ∧ s14 = .bool (inT o (pf, pt) k) ∧ Below w1.heap.size w1 wi) (fun _ s _ => o.length - (intOf s).toNat)
        case atStart => exact ⟨0, by omega, rfl, rfl, HB1.out⟩
        case round =>
          clear HB1
          obtain ⟨k, hk, rfl, rfl, hB⟩ := hrel
          by_cases hlk : k < o.length
          · obtain ⟨ob, oo, rfl, hoz, hoc⟩ := HT15.out (by omega)
            obtain ⟨q0, q1⟩ := hoc k hlk
            replace q0 := (hB.cell (p := ⟨ob, _, none⟩) hoz).trans q0
            replace q1 := (hB.cell (p := ⟨ob, _, none⟩) hoz).trans q1
            obtain ⟨r0, r1⟩ := HRC.out _ hB
            have HNX := Lib.hid (inT_succ (p := (pf, pt)) hlk)
            dsimp only at HNX
            have heq := fun W => eq27 o[k].1 o[k].2 pf pt W
            obtain ⟨bq, hbq⟩ : ∃ b, decide (o[k].1 = pf ∧ o[k].2 = pt) = b := ⟨_, rfl⟩
            rw [hbq] at HNX
            simp only [hbq] at heq
            clear hbq hoc
            generalize o[k].1 = of_ at *
            generalize o[k].2 = ot_ at *
            have s0 : (0 : Int) ≤ (k : Int) := by omega
            have s1 : (k : Int) < (o.length : Int) := by omega
            obtain ⟨fo, hfo⟩ : ∃ fo, inT o (pf, pt) k = fo := ⟨_, rfl⟩
            rw [hfo] at HNX ⊢
            clear hfo
            cases fo
            · go_wp2_with (fail)
              refine (wpIn_wide (n := 9)).1 ?_
              refine wpIn_region_text [0, 1, 2, 3, 4, 5, 6, 7, 8, 9, 10, 11, 12] rfl (by kernel_rfl) (by kernel_rfl) (fun _ d _ _ _ h => by cases d <;> exact h) ?_
              iterate 13 (refine ordT_li rfl rfl (fun K hK => ?_); go_simp; refine hK _ ?_; clear hK K)
              refine ordT_nil ?_
              clear q0 q1 r0 r1
              go_wp2_with (fail)
              go_roundw
              case rel => first | exact ⟨k + 1, by omega, by go_num, by rw [HNX.out]; first | rfl | simp, (by first | exact hB.drew | exact (below_drewN hB _).drew | exact below_drewN hB _)⟩ | ((repeat apply Exists.intro); refine ⟨?_, rfl⟩; exact ⟨k + 1, by omega, by go_num, by rw [HNX.out]; first | rfl | simp, (by first | exact hB.drew | exact (below_drewN hB _).drew | exact below_drewN hB _)⟩)
              case measure => first | (simp [intOf]; done) | (simp [intOf]; omega)
            · go_wp2_with (fail)
              refine (wpIn_wide (n := 9)).1 ?_
              refine wpIn_region_text [0, 1, 2, 3, 4, 5, 6, 7, 8, 9, 10, 11, 12] rfl (by kernel_rfl) (by kernel_rfl) (fun _ d _ _ _ h => by cases d <;> exact h) ?_
              iterate 13 (refine ordT_li rfl rfl (fun K hK => ?_); go_simp; refine hK _ ?_; clear hK K)
              refine ordT_nil ?_
              clear q0 q1 r0 r1
              go_wp2_with (fail)
              go_roundw
              case rel => first | exact ⟨k + 1, by omega, by go_num, by rw [HNX.out]; first | rfl | simp, (by first | exact hB.drew | exact (below_drewN hB _).drew | exact below_drewN hB _)⟩ | ((repeat apply Exists.intro); refine ⟨?_, rfl⟩; exact ⟨k + 1, by omega, by go_num, by rw [HNX.out]; first | rfl | simp, (by first | exact hB.drew | exact (below_drewN hB _).drew | exact below_drewN hB _)⟩)
              case measure => first | (simp [intOf]; done) | (simp [intOf]; omega)
          · obtain rfl : k = o.length := by omega
            rw [HIN1.out]
            go_wp2_with (fail)
            have HB1 := Lib.hid hB
            clear hB
            go_loopw [15, 17] (fun s14 s16 wi => ∃ k : Nat, k ≤ S.length ∧ s16 = I k ∧ s14 = .bool (inT S (pf, pt) k) ∧ Below w1.heap.size w1 wi) (fun _ s _ => S.length - (intOf s).toNat)
            case atStart => exact ⟨0, by omega, rfl, rfl, HB1.out⟩
            case round =>
              clear HB1
              obtain ⟨k, hk, rfl, rfl, hB⟩ := hrel
              by_cases hlk : k < S.length
              · obtain ⟨ob, oo, rfl, hoz, hoc⟩ := HTS.out (by omega)
                obtain ⟨q0, q1⟩ := hoc k hlk
                replace q0 := (hB.cell (p := ⟨ob, _, none⟩) hoz).trans q0
                replace q1 := (hB.cell (p := ⟨ob, _, none⟩) hoz).trans q1
                obtain ⟨r0, r1⟩ := HRC.out _ hB
                have HNX := Lib.hid (inT_succ (p := (pf, pt)) hlk)
                dsimp only at HNX
                have heq := fun W => eq27 S[k].1 S[k].2 pf pt W
                obtain ⟨bq, hbq⟩ : ∃ b, decide (S[k].1 = pf ∧ S[k].2 = pt) = b := ⟨_, rfl⟩
                rw [hbq] at HNX
                simp only [hbq] at heq
                clear hbq hoc
                generalize S[k].1 = of_ at *
                generalize S[k].2 = ot_ at *
                have s0 : (0 : Int) ≤ (k : Int) := by omega
                have s1 : (k : Int) < (S.length : Int) := by omega
                obtain ⟨fo, hfo⟩ : ∃ fo, inT S (pf, pt) k = fo := ⟨_, rfl⟩
                rw [hfo] at HNX ⊢
                clear hfo
                cases fo
                · go_wp2_with (fail)
                  refine (wpIn_wide (n := 9)).1 ?_
                  refine wpIn_region_text [0, 1, 2, 3, 4, 5, 6, 7, 8, 9, 10, 11, 12] rfl (by kernel_rfl) (by kernel_rfl) (fun _ d _ _ _ h => by cases d <;> exact h) ?_
                  iterate 13 (refine ordT_li rfl rfl (fun K hK => ?_); go_simp; refine hK _ ?_; clear hK K)
                  refine ordT_nil ?_
                  clear q0 q1 r0 r1
                  go_wp2_with (fail)
                  go_roundw
                  case rel => first | exact ⟨k + 1, by omega, by go_num, by rw [HNX.out]; first | rfl | simp, (by first | exact hB.drew | exact (below_drewN hB _).drew | exact below_drewN hB _)⟩ | ((repeat apply Exists.intro); refine ⟨?_, rfl⟩; exact ⟨k + 1, by omega, by go_num, by rw [HNX.out]; first | rfl | simp, (by first | exact hB.drew | exact (below_drewN hB _).drew | exact below_drewN hB _)⟩)
                  case measure => first | (simp [intOf]; done) | (simp [intOf]; omega)
                · go_wp2_with (fail)
                  refine (wpIn_wide (n := 9)).1 ?_
                  refine wpIn_region_text [0, 1, 2, 3, 4, 5, 6, 7, 8, 9, 10, 11, 12] rfl (by kernel_rfl) (by kernel_rfl) (fun _ d _ _ _ h => by cases d <;> exact h) ?_
                  iterate 13 (refine ordT_li rfl rfl (fun K hK => ?_); go_simp; refine hK _ ?_; clear hK K)
                  refine ordT_nil ?_
                  clear q0 q1 r0 r1
                  go_wp2_with (fail)
                  go_roundw
                  case rel => first | exact ⟨k + 1, by omega, by go_num, by rw [HNX.out]; first | rfl | simp, (by first | exact hB.drew | exact (below_drewN hB _).drew | exact below_drewN hB _)⟩ | ((repeat apply Exists.intro); refine ⟨?_, rfl⟩; exact ⟨k + 1, by omega, by go_num, by rw [HNX.out]; first | rfl | simp, (by first | exact hB.drew | exact (below_drewN hB _).drew | exact below_drewN hB _)⟩)
                  case measure => first | (simp [intOf]; done) | (simp [intOf]; omega)
              · obtain rfl : k = S.length := by omega
                generalize inT S (pf, pt) S.length = b15
                go_wp2_with (fail)
                go_roundw
                case rel => first | exact ⟨i + 1, by omega, by go_num, hB⟩ | ((repeat apply Exists.intro); refine ⟨?_, rfl⟩; exact ⟨i + 1, by omega, by go_num, hB⟩)
                case measure => first | (simp [intOf]; done) | (simp [intOf]; omega)
      · go_wp2_with (fail)
        have HB1 := Lib.hid hB
        clear hB
        go_loopw [18] (fun s wi => ∃ i : Nat, i ≤ o.length ∧ s = I i ∧ Below w1.heap.size w1 wi) (fun s _ => o.length - (intOf s).toNat)
        case atStart => exact ⟨0, by omega, rfl, HB1.out⟩
        case round =>
          clear HB1
          obtain ⟨j, hj, rfl, hB⟩ := hrel
          have hzr := hB.size
          by_cases hlj : j < o.length
          · have H22j := Lib.hid (H22e.out j hlj)
            have HT2 := Lib.hid ((HT15.out.below hB).more hzr)
            obtain ⟨ob, oo, rfl, hoz, hoc⟩ := HT15.out (by omega)
            have HTT := Lib.hid (twos_take (n := j) HT2.out)
            have HTD := Lib.hid (twos_drop (n := j + 1) HT2.out)
            have hcl1 : (flat2 (o.take j)).length = j * 2 := by rw [flat2_len, List.length_take]; omega
            have hcl2 : (flat2 (o.drop (j + 1))).length = (o.length - (j + 1)) * 2 := by rw [flat2_len, List.length_drop]
            have hcl3 : (o.take j ++ o.drop (j + 1)).length = j + (o.length - (j + 1)) := by rw [List.length_append, List.length_take, List.length_drop]; omega
            have HC1 := Lib.hid hcl1
            have HC2 := Lib.hid hcl2
            have HC3 := Lib.hid hcl3
            have HTL : Hid (j = (o.take j).length) := Lib.hid (by rw [List.length_take]; omega)
            have HDL : Hid (o.length - (j + 1) = (o.drop (j + 1)).length) := Lib.hid (by rw [List.length_drop])
            obtain ⟨R', hR'⟩ : ∃ R', (if c15 = j + 1 then (some ⟨ob, oo, none⟩ : Option Addr) else (some ⟨ob, oo, none⟩ : Option Addr).map (·.add ((j + 1) * 2))) = R' := ⟨_, rfl⟩
            have h38 := fun W => slice38 (some ⟨ob, oo, none⟩) o.length c15 j hlj W
            have h38h := fun W => slice38h (some ⟨ob, oo, none⟩) o.length c15 j (by omega) hc15 W
            rw [hR'] at h38
            have HRD : Hid (0 < o.length - (j + 1) → R' = some ⟨ob, oo + (j + 1) * 2, none⟩) := Lib.hid fun h0 => by
              rw [← hR', if_neg (by omega)]
              simp [Addr.add]
            have HCY : Hid (∀ W, Below wr.heap.size wr W → W.cell? ⟨w.heap.size, 0, none⟩ = some (.slice A x.hb.length c) ∧ W.cell? ⟨w.heap.size, 1, none⟩ = some (.slice B x.er.length d) ∧ W.cell? ⟨w.heap.size, 2, none⟩ = some (I x.en)) := Lib.hid fun W hW => HCX.out W (hB.trans (hW.mono hzr))
            have hwj : IntKind.i64.wrap ((j : Int) + 1) = (j : Int) + 1 := IntWalk.i64_in _ (by omega)
            have s0 : (0 : Int) ≤ (j : Int) := by omega
            have s1 : (j : Int) < (o.length : Int) := by omega
            have HBr := Lib.hid hB
            have HWr := Lib.hid (HW0.out.below hB)
            clear hR' hoc hcl1 hcl2 hcl3 hB
            go_wp2_with (fail)
            refine (wpIn_wide (n := 9)).1 ?_
            refine wpIn_region_plan (Plan.ons [0, 2, 3, 4, 6, 7, 8, 9, 1, 5, 10, 11] .fin) [0, 2, 3, 4, 6, 7, 8, 9] (fun W => Below wr.heap.size wr W) [] rfl (by kernel_rfl) (by kernel_rfl) (fun _ d _ _ _ h => by cases d <;> exact h) (Below.refl _ _).drew ?_
            (refine ordQ_held (.agg #[.slice A x.hb.length c, .slice B x.er.length d, I x.en]) rfl rfl rfl rfl (fun W' hC' => ?_) (fun K hK => ?_); (focus (obtain ⟨g0, g1, g2⟩ := HCY.out _ hC'; go_simp; try exact ⟨rfl, rfl⟩)); go_simp; refine hK _ ?_; clear hK K)
            (refine ordQ_held (.slice (some ⟨ob, oo, none⟩) o.length c15) rfl rfl rfl rfl (fun W' hC' => ?_) (fun K hK => ?_); (focus (obtain _ := hC'; go_simp; try exact ⟨rfl, rfl⟩)); go_simp; refine hK _ ?_; clear hK K)
            (refine ordQ_held (I j) rfl rfl rfl rfl (fun W' hC' => ?_) (fun K hK => ?_); (focus (obtain _ := hC'; go_simp; try exact ⟨rfl, rfl⟩)); go_simp; refine hK _ ?_; clear hK K)
            (refine ordQ_held (.slice (some ⟨ob, oo, none⟩) j c15) rfl rfl rfl rfl (fun W' hC' => ?_) (fun K hK => ?_); (focus (obtain _ := hC'; go_simp; try exact ⟨rfl, rfl⟩)); go_simp; refine hK _ ?_; clear hK K)
            (refine ordQ_held (.slice (some ⟨ob, oo, none⟩) o.length c15) rfl rfl rfl rfl (fun W' hC' => ?_) (fun K hK => ?_); (focus (obtain _ := hC'; go_simp; try exact ⟨rfl, rfl⟩)); go_simp; refine hK _ ?_; clear hK K)
            (refine ordQ_held (I j) rfl rfl rfl rfl (fun W' hC' => ?_) (fun K hK => ?_); (focus (obtain _ := hC'; go_simp; try exact ⟨rfl, rfl⟩)); go_simp; refine hK _ ?_; clear hK K)
            (refine ordQ_held (I ((j : Int) + 1)) rfl rfl rfl rfl (fun W' hC' => ?_) (fun K hK => ?_); (focus (obtain _ := hC'; go_simp; try exact ⟨rfl, rfl⟩)); go_simp; refine hK _ ?_; clear hK K)
            (refine ordQ_held (.slice R' (o.length - (j + 1)) (c15 - (j + 1))) rfl rfl rfl rfl (fun W' hC' => ?_) (fun K hK => ?_); (focus (obtain _ := hC'; go_simp; try exact ⟨rfl, rfl⟩)); go_simp; refine hK _ ?_; clear hK K)
            refine ordQ_hv rfl rfl rfl (fun K hK => ?_)
            gi_wp2
            have hBa : Below wr.heap.size wr (wr.alloc (.cells #[] 27)).drew := (below1 wr _).drew
            refine hK _ _ (fun _ => hBa) ?_
            clear hK K
            have hra : ((wr.alloc (.cells #[] 27)).drew).ownsRow wr.heap.size 27 2 (.slice (some ⟨wr.heap.size, 0, none⟩) 0 0) 0 [] := (World.ownsRow_made wr #[] 0 (Nat.le_refl _) (Nat.zero_le _) (by simp)).drew
            refine ordQ_hv rfl rfl rfl (fun K hK => ?_)
            refine opIn_append_any rfl _ _ _ 38 rfl wr.heap.size 27 i0 (.agg #[I 0, I 0]) 2 16 Try.underlying38 hi0 hi1 hi2 hi3 rfl (by decide) _ _ _ rfl hra (some ⟨ob, oo, none⟩) j c15 (flat2 (o.take j)) rfl HC1.out (fun h0 => flat2_src (HTT.out.below hBa) (by rw [← HTL.out]; exact h0)) (flat2_one _) (by unfold maxLen; omega) (by omega) hBa.size ?_
            intro v30 w30 hown30 hg30
            have hB30 : Below wr.heap.size wr w30 := hBa.grown hg30 hBa.size (fun g e => (hra.lt g e).1)
            refine hK _ _ (fun _ => hB30) ?_
            clear hK K
            refine ordQ_hv rfl rfl rfl (fun K hK => ?_)
            refine opIn_append_any rfl _ _ _ 38 rfl wr.heap.size 27 i0 (.agg #[I 0, I 0]) 2 16 Try.underlying38 hi0 hi1 hi2 hi3 rfl (by decide) _ _ _ rfl hown30 R' (o.length - (j + 1)) (c15 - (j + 1)) (flat2 (o.drop (j + 1))) rfl HC2.out (fun h0 => by rw [HRD.out h0]; exact flat2_src (HTD.out.below hB30) (by rw [← HDL.out]; exact h0)) (flat2_one _) (by unfold maxLen; omega) (by omega) hB30.size ?_
            intro v31 w31 hown31 hg31
            have hB31 : Below wr.heap.size wr w31 := hB30.grown hg31 hB30.size (fun g e => (hown30.lt g e).1)
            refine hK _ _ (fun _ => hB31) ?_
            clear hK K
            rw [Nat.zero_add, List.nil_append, ← flat2_app] at hown31
            obtain ⟨A9, c9, hv9, hT9, _⟩ := twos_own hown31 HC3.out
            subst hv9
            have H22k := Lib.hid (H22j.out A9 c9 w31 (HWr.out.below hB31) hT9)
            clear hown31 hg31 hown30 hg30 hB30 hra hBa hT9 h38 h38h
            refine ordQ_hv rfl rfl rfl (fun K hK => ?_)
            gi_wp2_with (first | (refine And.intro trivial ?_; gi_at_call 22; refine (callsIn_wide.2 H22k.out).mono ?_; rintro e w40 ⟨rfl, hB40⟩) | fail)
            have HB40 := Lib.hid (hB31.trans (hB40.mono hB31.size))
            refine hK _ _ (fun _ => HB40.out) ?_
            clear hK K
            refine ordQ_fin ?_
            have HBf : Hid (Below w1.heap.size w1 w40) := Lib.hid (HBr.out.trans (HB40.out.mono hzr))
            clear hB31 hB40 HB40 H22k
            go_wp2_with (fail)
            go_roundw
            case rel => first | exact ⟨j + 1, by omega, by go_num, HBf.out⟩ | ((repeat apply Exists.intro); refine ⟨?_, rfl⟩; exact ⟨j + 1, by omega, by go_num, HBf.out⟩)
            case measure => first | (simp [intOf]; done) | (simp [intOf]; omega)
          · obtain rfl : j = o.length := by omega
            go_wp2_with (first
              | (go_at_call 9; refine (H9.out _).mono ?_; rintro e w9 ⟨rfl, hB9⟩)
              | fail)
            exact bodyPost_ret (v := .bool true) (by simp [results, Try.results5, go_sem]) rfl ⟨rfl, (HB0.out.trans (hB.mono HB0.out.size)).trans (hB9.mono (Nat.le_trans HB0.out.size hzr))⟩
end Go.Proofs.Ytijgfdncocjncaa
