/- The document: how wide a wall is. Printed by mkD10.py. -/
import Derived.Test.YtomfnldlnoiloaaDoorD9
import Derived.Test.YtomfnldlnoiloaaDoorD2
import Derived.Test.YtomfnldlnoiloaaDoorV2
namespace Go.Proofs.YtomfnldlnoiloaaDoor
set_option linter.unusedVariables false
set_option linter.unusedSimpArgs false
open Go Go.RowKit Go.Maps

/-- Is a stand in a list? -/
def hasL (xs : List (Int × Int)) (q t : Nat) : Bool := decide (((q : Int), (t : Int)) ∈ xs)
def trW (v : Vis) (has : Nat → Nat → Bool) (m t q k : Nat) : Int := lsum ((v.tr.take k).map fun x => if x.1.toNat = q then trailW has m t x else 0)
def plW (v : Vis) (has : Nat → Nat → Bool) (m t q : Nat) : Int := if has q t then (if t < m ∧ has q (t + 1) = false then v.room q else 0) + trW v has m t q v.tr.length else arrive v q t
def roW (v : Vis) (has : Nat → Nat → Bool) (m t : Nat) : Int := sumK (fun q => plW v has m t q) v.n
theorem widthW_eq (v : Vis) (has : Nat → Nat → Bool) (p m : Nat) : widthW v has p m = sumK (fun t => roW v has m t) (m + 1) + if has p m then v.room p else 0 := by
  unfold widthW roW plW trW
  rw [List.take_length]
theorem sumK_top {g : Nat → Int} {c : Int} (hc : 0 ≤ c) : ∀ {k : Nat}, (∀ i, i < k → 0 ≤ g i ∧ g i ≤ c) → 0 ≤ sumK g k ∧ sumK g k ≤ c * k
  | 0, _ => by simp [sumK]
  | k + 1, h => by
    have h1 := h k (by omega)
    have h2 := sumK_top (g := g) hc (k := k) fun i hi => h i (by omega)
    rw [sumK_succ]
    have e : c * ((k + 1 : Nat) : Int) = c * k + c := by push_cast; rw [Int.mul_add, Int.mul_one]
    omega
theorem trailW_top {v : Vis} (hv : VisOk v) (has : Nat → Nat → Bool) (m t : Nat) {x : Int × Int × Int × Int} (hx : x ∈ v.tr) : 0 ≤ trailW has m t x ∧ trailW has m t x ≤ 1000 := by
  have := (hv.tr x hx).2.2.2.2
  unfold trailW
  split
  · split <;> omega
  · omega
theorem trW_top {v : Vis} (hv : VisOk v) (has : Nat → Nat → Bool) (m t q k : Nat) : 0 ≤ trW v has m t q k ∧ trW v has m t q k ≤ 16000 := by
  have h := lsum_le (fun x : Int × Int × Int × Int => if x.1.toNat = q then trailW has m t x else 0) 1000 (by omega) (v.tr.take k) fun x hx => by
    have := trailW_top hv has m t (List.mem_of_mem_take hx)
    split <;> omega
  have h2 : (v.tr.take k).length ≤ 16 := by rw [List.length_take]; have := hv.tl; omega
  unfold trW
  omega
theorem trW_succ (v : Vis) (has : Nat → Nat → Bool) (m t q : Nat) {k : Nat} (hk : k < v.tr.length) : trW v has m t q (k + 1) = trW v has m t q k + (if v.tr[k].1.toNat = q then trailW has m t v.tr[k] else 0) := by
  unfold trW
  rw [List.take_succ_eq_append_getElem hk, List.map_append, lsum_app]
  simp [lsum]
theorem plW_top {v : Vis} (hv : VisOk v) (has : Nat → Nat → Bool) (m t : Nat) {q : Nat} (hq : q < v.n) : 0 ≤ plW v has m t q ∧ plW v has m t q ≤ 17000 := by
  have h1 := trW_top hv has m t q v.tr.length
  have h2 := hv.room q hq
  have h3 := arrive_top hv q t
  unfold plW
  split
  · split <;> omega
  · omega
theorem sumP_top {v : Vis} (hv : VisOk v) (has : Nat → Nat → Bool) (m t : Nat) {k : Nat} (hk : k ≤ v.n) : 0 ≤ sumK (fun q => plW v has m t q) k ∧ sumK (fun q => plW v has m t q) k ≤ 136000 := by
  have h := sumK_top (g := fun q => plW v has m t q) (c := 17000) (by omega) (k := k) fun i hi => plW_top hv has m t (by omega)
  have := hv.n
  omega
theorem sumR_top {v : Vis} (hv : VisOk v) (has : Nat → Nat → Bool) (m : Nat) {k : Nat} (hk : k ≤ 62) : 0 ≤ sumK (fun t => roW v has m t) k ∧ sumK (fun t => roW v has m t) k ≤ 10000000 := by
  have h := sumK_top (g := fun t => roW v has m t) (c := 136000) (by omega) (k := k) fun i _ => sumP_top hv has m i (Nat.le_refl _)
  omega
set_option maxRecDepth 100000 in
set_option maxHeartbeats 16000000 in
theorem width22 (v : Vis) (hv : VisOk v) (A1 A2 A3 : Option Addr) (q1 q2 q3 : Nat) (A : Option Addr) (c : Nat) (xs : List (Int × Int)) (p m : Nat) (hp : p < v.n) (hm : m ≤ 60) (hxl : xs.length ≤ 9223372036854775807) (w : World) (hI : VisAt w w.heap.size v A1 A2 A3) (hT : Twos w w.heap.size A xs) :
    Calls Tryd.prog 22 #[visV v A1 A2 A3 q1 q2 q3, .slice A xs.length c, I p, I m] w fun e w' => e = .returned (I (widthW v (hasL xs) p m)) ∧ Below w.heap.size w w' := by
  obtain ⟨w2, hw2⟩ : ∃ w2, w.alloc (.cells #[.slice A1 v.rm.length q1, .slice A2 v.tr.length q2, .slice A3 v.ar.length q3] 26) = w2 := ⟨_, rfl⟩
  have hB2 : Below w.heap.size w w2 := by rw [← hw2]; exact below1 _ _
  have b1 : Box w2 w.heap.size [.slice A1 v.rm.length q1, .slice A2 v.tr.length q2, .slice A3 v.ar.length q3] := by rw [← hw2]; exact Box.new w [.slice A1 v.rm.length q1, .slice A2 v.tr.length q2, .slice A3 v.ar.length q3] 26
  have HX : Hid (∀ W, Below w2.heap.size w2 W → (W.cell? ⟨w.heap.size, 0, none⟩ = some (.slice A1 v.rm.length q1) ∧ W.cell? ⟨w.heap.size, 1, none⟩ = some (.slice A2 v.tr.length q2) ∧ W.cell? ⟨w.heap.size, 2, none⟩ = some (.slice A3 v.ar.length q3)) ∧ VisAt W W.heap.size v A1 A2 A3 ∧ Twos W W.heap.size A xs ∧ Below w.heap.size w W) := Lib.hid fun W h => by
    have hb := hB2.trans (h.mono hB2.size)
    exact ⟨⟨((b1.call h).at_ 0 _ rfl).1, ((b1.call h).at_ 1 _ rfl).1, ((b1.call h).at_ 2 _ rfl).1⟩, (hI.below hb).more hb.size, (hT.below hb).more hb.size, hb⟩
  have H50 : Hid (∀ (a b : Int) W, Below w2.heap.size w2 W → Calls Tryd.prog 50 #[.slice A xs.length c, I a, I b] W fun e w' => e = .returned (.bool (decide ((a, b) ∈ xs))) ∧ Below W.heap.size W w') := Lib.hid fun a b W h => has50 A c xs a b W (HX.out W h).2.2.1 hxl
  have H38 : Hid (∀ (q t : Nat) W, Below w2.heap.size w2 W → Calls Tryd.prog 38 #[visV v A1 A2 A3 q1 q2 q3, I q, I t] W fun e w' => e = .returned (I (arrive v q t)) ∧ Below W.heap.size W w') := Lib.hid fun q t W h => arrive38 v hv A1 A2 A3 q1 q2 q3 q t W (HX.out W h).2.1
  have HB := Lib.hid (Below.refl w2.heap.size w2)
  have HV := Lib.hid hv
  have hn := hv.n
  unfold Vis.n at hn
  have htl := hv.tl
  have HWE : Hid (∀ z : Int, z = sumK (fun t => roW v (hasL xs) m t) (m + 1) + (if hasL xs p m then v.room p else 0) → z = widthW v (hasL xs) p m) := Lib.hid fun z hz => hz.trans (widthW_eq v (hasL xs) p m).symm
  have hpn : p < v.rm.length := hp
  generalize widthW v (hasL xs) p m = ZZ at *
  obtain ⟨⟨x0, x1, x2⟩, _⟩ := HX.out w2 HB.out
  clear b1 hB2 hI hT hv
  go_enter Tryd.func22, Tryd.ntmps22
  go_upto_if 14 with (fail)
  go_loopw [9, 10] (fun i9 i10 wr => ∃ t : Nat, i9 = I (sumK (fun t => roW v (hasL xs) m t) t) ∧ i10 = I t ∧ t ≤ m + 1 ∧ Hid (Below w2.heap.size w2 wr)) (fun _ i _ => m + 1 - (intOf i).toNat)
  case atStart => exact ⟨0, rfl, rfl, by omega, HB⟩
  case round =>
    obtain ⟨t, rfl, rfl, ht, HB1⟩ := hrel
    clear HB x0 x1 x2
    have HB := HB1
    clear HB1
    obtain ⟨⟨x0, x1, x2⟩, _⟩ := HX.out wr HB.out
    have hst := sumR_top HV.out (hasL xs) m (k := t) (by omega)
    have HRS : Hid (sumK (fun t => roW v (hasL xs) m t) (t + 1) = sumK (fun t => roW v (hasL xs) m t) t + roW v (hasL xs) m t) := Lib.hid rfl
    by_cases htm : t ≤ m
    · have htm2 : (t : Int) ≤ (m : Int) := by omega
      have hwt : IntKind.i64.wrap ((t : Int) + 1) = (t : Int) + 1 := IntWalk.i64_in _ (by omega)
      obtain ⟨S0, hS0⟩ : ∃ z, sumK (fun t => roW v (hasL xs) m t) t = z := ⟨_, rfl⟩
      rw [hS0] at hst HRS
      rw [hS0]
      clear hS0
      go_upto_if 19 with (fail)
      go_loopw [9, 11] (fun i9 i11 wr => ∃ q : Nat, i9 = I (S0 + sumK (fun q => plW v (hasL xs) m t q) q) ∧ i11 = I q ∧ q ≤ v.rm.length ∧ Hid (Below w2.heap.size w2 wr)) (fun _ i _ => v.rm.length - (intOf i).toNat)
      case atStart => exact ⟨0, by simp [sumK], rfl, by omega, HB⟩
      case round =>
        obtain ⟨q, rfl, rfl, hq, HB1⟩ := hrel
        clear HB x0 x1 x2
        have HB := HB1
        clear HB1
        obtain ⟨⟨x0, x1, x2⟩, _⟩ := HX.out wr HB.out
        have hwq : IntKind.i64.wrap ((q : Int) + 1) = (q : Int) + 1 := IntWalk.i64_in _ (by omega)
        by_cases hqn : q < v.rm.length
        · have hsp := sumP_top HV.out (hasL xs) m t (k := q) (by show q ≤ v.rm.length; omega)
          obtain ⟨S1, hS1⟩ : ∃ z, sumK (fun q => plW v (hasL xs) m t q) q = z := ⟨_, rfl⟩
          rw [hS1] at hsp
          rw [hS1]
          have q0 : (0 : Int) ≤ (q : Int) := by omega
          have q1 : (q : Int) < (v.rm.length : Int) := by omega
          have har := arrive_top HV.out q t
          have hrm := HV.out.room q hqn
          obtain ⟨bb, hbq⟩ : ∃ b, hasL xs q t = b := ⟨_, rfl⟩
          have H50a : Hid (∀ W, Below w2.heap.size w2 W → Calls Tryd.prog 50 #[.slice A xs.length c, I q, I t] W fun e w' => e = .returned (.bool bb) ∧ Below W.heap.size W w') := Lib.hid fun W h => by
            have := H50.out q t W h
            unfold hasL at hbq
            rw [hbq] at this
            exact this
          cases bb
          · have HN : Hid (S0 + (S1 + plW v (hasL xs) m t q) = S0 + S1 + arrive v q t) := Lib.hid (by unfold plW; rw [if_neg (by rw [hbq]; simp)]; omega)
            have H38a := Lib.hid (H38.out q t)
            obtain ⟨aa, haa⟩ : ∃ z, arrive v q t = z := ⟨_, rfl⟩
            rw [haa] at har HN H38a
            have hwS : IntKind.i64.wrap (S0 + S1 + aa) = S0 + S1 + aa := IntWalk.i64_in _ (by omega)
            have HS1 := Lib.hid hS1
            clear haa hS1 hbq
            go_wp2_with (first
              | (go_at_call 50; refine (H50a.out _ HB.out).mono ?_; rintro e w5 ⟨rfl, hB⟩; replace HB := Lib.hid (HB.out.trans (hB.mono HB.out.size)); clear x0 x1 x2; obtain ⟨⟨x0, x1, x2⟩, _⟩ := HX.out _ HB.out; clear hB)
              | (go_at_call 38; refine (H38a.out _ HB.out).mono ?_; rintro e w6 ⟨rfl, hB⟩; replace HB := Lib.hid (HB.out.trans (hB.mono HB.out.size)); clear x0 x1 x2; obtain ⟨⟨x0, x1, x2⟩, _⟩ := HX.out _ HB.out; clear hB)
              | fail)
            go_roundw
            case rel => exact ⟨q + 1, by rw [sumK_succ, HS1.out, HN.out], by go_num, by omega, HB⟩
            case measure => first | (simp [intOf]; done) | (simp [intOf]; omega)
          · obtain ⟨c2, hc2⟩ : ∃ b, hasL xs q (t + 1) = b := ⟨_, rfl⟩
            have H50b : Hid (∀ W, Below w2.heap.size w2 W → Calls Tryd.prog 50 #[.slice A xs.length c, I q, I ((t : Int) + 1)] W fun e w' => e = .returned (.bool c2) ∧ Below W.heap.size W w') := Lib.hid fun W h => by
              have := H50.out q ((t : Int) + 1) W h
              unfold hasL at hc2
              push_cast at hc2
              rw [hc2] at this
              exact this
            obtain ⟨S2, hS2⟩ : ∃ z, S0 + S1 + (if t < m ∧ hasL xs q (t + 1) = false then v.room q else 0) = z := ⟨_, rfl⟩
            have HS2 : Hid ((t < m ∧ c2 = false → S2 = S0 + S1 + v.room q) ∧ (¬ (t < m ∧ c2 = false) → S2 = S0 + S1)) := Lib.hid (by rw [hc2] at hS2; exact ⟨fun h => by rw [if_pos h] at hS2; omega, fun h => by rw [if_neg h] at hS2; omega⟩)
            have hS2b : 0 ≤ S2 ∧ S2 ≤ 20000000 := by
              rw [← hS2]
              split <;> omega
            obtain ⟨rb, ro, hA1, hrb, hrc⟩ := (HX.out wr HB.out).2.1.rm (by omega)
            subst hA1
            have rc := hrc q hqn
            have hro : v.rm[q] = v.room q := by simp [Vis.room, List.getD_eq_getElem?_getD, hqn]
            rw [hro] at rc
            have HRC : Hid (∀ W, Below wr.heap.size wr W → W.cell? ⟨rb, ro + q, none⟩ = some (I (v.room q))) := Lib.hid fun W h => (h.cell (p := ⟨rb, _, none⟩) hrb).trans rc
            have hwS : IntKind.i64.wrap (S0 + S1 + v.room q) = S0 + S1 + v.room q := IntWalk.i64_in _ (by omega)
            have HBz := Lib.hid (Below.refl wr.heap.size wr)
            have HB0 := HB
            have hSS := Lib.hid (And.intro hS1 (And.intro hS2 hbq))
            clear hrc rc hro hS1 hS2 hbq hc2
            have tk1 : Hid True := Lib.hid trivial
            by_cases htm3 : t < m
            · have htm4 : (t : Int) < (m : Int) := by omega
              cases c2
              · have E2 := Lib.hid (HS2.out.1 ⟨htm3, rfl⟩)
                clear HS2
                go_wp2_with (first
                  | (go_at_call 50; have _t := tk1; clear tk1; refine (H50a.out _ HB.out).mono ?_; rintro e w5 ⟨rfl, hB⟩; replace HBz := Lib.hid (HBz.out.trans (hB.mono HBz.out.size)); have rcz := HRC.out _ HBz.out; replace HB := Lib.hid (HB.out.trans (hB.mono HB.out.size)); clear x0 x1 x2; obtain ⟨⟨x0, x1, x2⟩, _⟩ := HX.out _ HB.out; clear hB)
                  | (go_at_call 50; refine (H50b.out _ HB.out).mono ?_; rintro e w6 ⟨rfl, hB⟩; replace HBz := Lib.hid (HBz.out.trans (hB.mono HBz.out.size)); clear rcz; have rcz := HRC.out _ HBz.out; replace HB := Lib.hid (HB.out.trans (hB.mono HB.out.size)); clear x0 x1 x2; obtain ⟨⟨x0, x1, x2⟩, _⟩ := HX.out _ HB.out; clear hB)
                  | fail)
                go_loopw [9, 12] (fun i9 i12 wr => ∃ k : Nat, i9 = I (S2 + trW v (hasL xs) m t q k) ∧ i12 = I k ∧ k ≤ v.tr.length ∧ Hid (Below w2.heap.size w2 wr)) (fun _ i _ => v.tr.length - (intOf i).toNat)
                case atStart => exact ⟨0, by rw [E2.out]; simp [trW, lsum], rfl, by omega, HB⟩
                case round =>
                  obtain ⟨k, rfl, rfl, hk, HB1⟩ := hrel
                  clear E2
                  clear HB x0 x1 x2
                  have HB := HB1
                  clear HB1
                  obtain ⟨⟨x0, x1, x2⟩, _⟩ := HX.out wr HB.out
                  have hwk : IntKind.i64.wrap ((k : Int) + 1) = (k : Int) + 1 := IntWalk.i64_in _ (by omega)
                  by_cases hkl : k < v.tr.length
                  · have k0 : (0 : Int) ≤ (k : Int) := by omega
                    have k1 : (k : Int) < (v.tr.length : Int) := by omega
                    obtain ⟨tb, tf, hA2, htb, htc⟩ := (HX.out wr HB.out).2.1.tr (by omega)
                    subst hA2
                    obtain ⟨r0, r1, r2, r3⟩ := htc k hkl
                    have hto := HV.out.tr _ (List.getElem_mem hkl)
                    have HTS := Lib.hid (trW_succ v (hasL xs) m t q hkl)
                    have hst := trW_top HV.out (hasL xs) m t q k
                    obtain ⟨f1, hf1⟩ : ∃ z, v.tr[k].1.toNat = z := ⟨_, rfl⟩
                    obtain ⟨g1, hg1⟩ : ∃ z, v.tr[k].2.1.toNat = z := ⟨_, rfl⟩
                    obtain ⟨mi, hmi⟩ : ∃ z, v.tr[k].2.2.1.toNat = z := ⟨_, rfl⟩
                    obtain ⟨rr, hrr⟩ : ∃ z, v.tr[k].2.2.2 = z := ⟨_, rfl⟩
                    have e1 : v.tr[k].1 = (f1 : Int) := by omega
                    have e2 : v.tr[k].2.1 = (g1 : Int) := by omega
                    have e3 : v.tr[k].2.2.1 = (mi : Int) := by omega
                    have HTR : Hid (trailW (hasL xs) m t v.tr[k] = if t + mi ≤ m then (if hasL xs f1 t && !hasL xs g1 (t + mi) then rr else 0) else 0) := Lib.hid (by unfold trailW; rw [hf1, hg1, hmi, hrr])
                    rw [hf1] at HTS
                    rw [e1] at r0
                    rw [e2] at r1
                    rw [e3] at r2
                    rw [hrr] at r3
                    have hmib : mi ≤ 60 := by omega
                    have hrrb : 0 ≤ rr ∧ rr ≤ 1000 := by omega
                    obtain ⟨S3, hS3⟩ : ∃ z, trW v (hasL xs) m t q k = z := ⟨_, rfl⟩
                    rw [hS3] at hst HTS
                    rw [hS3]
                    have hwm : IntKind.i64.wrap ((t : Int) + (mi : Int)) = (t : Int) + (mi : Int) := IntWalk.i64_in _ (by omega)
                    have hwS : IntKind.i64.wrap (S2 + S3 + rr) = S2 + S3 + rr := IntWalk.i64_in _ (by omega)
                    obtain ⟨b3, hb3⟩ : ∃ b, hasL xs g1 (t + mi) = b := ⟨_, rfl⟩
                    have H50c : Hid (∀ W, Below w2.heap.size w2 W → Calls Tryd.prog 50 #[.slice A xs.length c, I g1, I ((t : Int) + (mi : Int))] W fun e w' => e = .returned (.bool b3) ∧ Below W.heap.size W w') := Lib.hid fun W h => by
                      have := H50.out g1 ((t : Int) + (mi : Int)) W h
                      unfold hasL at hb3
                      push_cast at hb3
                      rw [hb3] at this
                      exact this
                    rw [hb3] at HTR
                    have HBM : Hid (∀ W, Below (wr.alloc (.cells #[I f1, I g1, I mi, I rr] 51)).heap.size (wr.alloc (.cells #[I f1, I g1, I mi, I rr] 51)) W → W.cell? ⟨wr.heap.size, 3, none⟩ = some (I rr)) := Lib.hid fun W h => (((Box.new wr [I f1, I g1, I mi, I rr] 51).call h).at_ 3 _ rfl).1
                    have hbm : Below w2.heap.size w2 (wr.alloc (.cells #[I f1, I g1, I mi, I rr] 51)) := HB.out.alloc HB.out.size _
                    replace HB := Lib.hid hbm
                    have y0 := (HX.out _ hbm).1
                    obtain ⟨y0, y1, y2⟩ := y0
                    clear htc hto hf1 hg1 hmi hrr e1 e2 e3 hS3 hb3 hbm
                    by_cases e1 : f1 = q
                    · subst e1
                      rw [if_pos rfl] at HTS
                      rw [hSS.out.2.2] at HTR
                      by_cases e2 : t + mi ≤ m
                      · have e2i : (t : Int) + (mi : Int) ≤ (m : Int) := by omega
                        rw [if_pos e2] at HTR
                        cases b3
                        · have HN : Hid (S2 + trW v (hasL xs) m t f1 (k + 1) = S2 + S3 + rr) := Lib.hid (by rw [HTS.out, HTR.out]; simp; omega)
                          go_wp2_with (first
                            | (go_at_call 50; refine (H50c.out _ HB.out).mono ?_; rintro e w5 ⟨rfl, hB⟩; have r35 := HBM.out _ hB; replace HB := Lib.hid (HB.out.trans (hB.mono HB.out.size)); clear x0 x1 x2 y0 y1 y2; obtain ⟨⟨x0, x1, x2⟩, _⟩ := HX.out _ HB.out; clear hB)
                            | fail)
                          go_roundw
                          case rel => exact ⟨k + 1, by rw [HN.out], by go_num, by omega, HB⟩
                          case measure => first | (simp [intOf]; done) | (simp [intOf]; omega)
                        · have HN : Hid (S2 + trW v (hasL xs) m t f1 (k + 1) = S2 + S3) := Lib.hid (by rw [HTS.out, HTR.out]; simp)
                          go_wp2_with (first
                            | (go_at_call 50; refine (H50c.out _ HB.out).mono ?_; rintro e w5 ⟨rfl, hB⟩; have r35 := HBM.out _ hB; replace HB := Lib.hid (HB.out.trans (hB.mono HB.out.size)); clear x0 x1 x2 y0 y1 y2; obtain ⟨⟨x0, x1, x2⟩, _⟩ := HX.out _ HB.out; clear hB)
                            | fail)
                          go_roundw
                          case rel => exact ⟨k + 1, by rw [HN.out], by go_num, by omega, HB⟩
                          case measure => first | (simp [intOf]; done) | (simp [intOf]; omega)
                      · have e2i : ¬ (t : Int) + (mi : Int) ≤ (m : Int) := by omega
                        rw [if_neg e2] at HTR
                        have HN : Hid (S2 + trW v (hasL xs) m t f1 (k + 1) = S2 + S3) := Lib.hid (by rw [HTS.out, HTR.out]; omega)
                        go_wp2_with (fail)
                        go_roundw
                        case rel => exact ⟨k + 1, by rw [HN.out], by go_num, by omega, HB⟩
                        case measure => first | (simp [intOf]; done) | (simp [intOf]; omega)
                    · have e1i : ¬ (f1 : Int) = (q : Int) := by omega
                      rw [if_neg e1] at HTS
                      have HN : Hid (S2 + trW v (hasL xs) m t q (k + 1) = S2 + S3) := Lib.hid (by rw [HTS.out]; omega)
                      go_wp2_with (fail)
                      go_roundw
                      case rel => exact ⟨k + 1, by rw [HN.out], by go_num, by omega, HB⟩
                      case measure => first | (simp [intOf]; done) | (simp [intOf]; omega)
                  · obtain rfl : k = v.tr.length := by omega
                    have k1 : ¬ (v.tr.length : Int) < (v.tr.length : Int) := by omega
                    have HN : Hid (S0 + (S1 + plW v (hasL xs) m t q) = S2 + trW v (hasL xs) m t q v.tr.length) := Lib.hid (by
                      unfold plW
                      rw [if_pos hSS.out.2.2, ← hSS.out.2.1]
                      omega)
                    go_wp2_with (fail)
                    go_roundw
                    case rel => exact ⟨q + 1, by rw [sumK_succ, hSS.out.1, HN.out], by go_num, by omega, HB⟩
                    case measure => first | (simp [intOf]; done) | (simp [intOf]; omega)
              · have E2 := Lib.hid (HS2.out.2 (fun h => by cases h.2))
                clear HS2
                go_wp2_with (first
                  | (go_at_call 50; have _t := tk1; clear tk1; refine (H50a.out _ HB.out).mono ?_; rintro e w5 ⟨rfl, hB⟩; replace HBz := Lib.hid (HBz.out.trans (hB.mono HBz.out.size)); have rcz := HRC.out _ HBz.out; replace HB := Lib.hid (HB.out.trans (hB.mono HB.out.size)); clear x0 x1 x2; obtain ⟨⟨x0, x1, x2⟩, _⟩ := HX.out _ HB.out; clear hB)
                  | (go_at_call 50; refine (H50b.out _ HB.out).mono ?_; rintro e w6 ⟨rfl, hB⟩; replace HBz := Lib.hid (HBz.out.trans (hB.mono HBz.out.size)); clear rcz; have rcz := HRC.out _ HBz.out; replace HB := Lib.hid (HB.out.trans (hB.mono HB.out.size)); clear x0 x1 x2; obtain ⟨⟨x0, x1, x2⟩, _⟩ := HX.out _ HB.out; clear hB)
                  | fail)
                go_loopw [9, 12] (fun i9 i12 wr => ∃ k : Nat, i9 = I (S2 + trW v (hasL xs) m t q k) ∧ i12 = I k ∧ k ≤ v.tr.length ∧ Hid (Below w2.heap.size w2 wr)) (fun _ i _ => v.tr.length - (intOf i).toNat)
                case atStart => exact ⟨0, by rw [E2.out]; simp [trW, lsum], rfl, by omega, HB⟩
                case round =>
                  obtain ⟨k, rfl, rfl, hk, HB1⟩ := hrel
                  clear E2
                  clear HB x0 x1 x2
                  have HB := HB1
                  clear HB1
                  obtain ⟨⟨x0, x1, x2⟩, _⟩ := HX.out wr HB.out
                  have hwk : IntKind.i64.wrap ((k : Int) + 1) = (k : Int) + 1 := IntWalk.i64_in _ (by omega)
                  by_cases hkl : k < v.tr.length
                  · have k0 : (0 : Int) ≤ (k : Int) := by omega
                    have k1 : (k : Int) < (v.tr.length : Int) := by omega
                    obtain ⟨tb, tf, hA2, htb, htc⟩ := (HX.out wr HB.out).2.1.tr (by omega)
                    subst hA2
                    obtain ⟨r0, r1, r2, r3⟩ := htc k hkl
                    have hto := HV.out.tr _ (List.getElem_mem hkl)
                    have HTS := Lib.hid (trW_succ v (hasL xs) m t q hkl)
                    have hst := trW_top HV.out (hasL xs) m t q k
                    obtain ⟨f1, hf1⟩ : ∃ z, v.tr[k].1.toNat = z := ⟨_, rfl⟩
                    obtain ⟨g1, hg1⟩ : ∃ z, v.tr[k].2.1.toNat = z := ⟨_, rfl⟩
                    obtain ⟨mi, hmi⟩ : ∃ z, v.tr[k].2.2.1.toNat = z := ⟨_, rfl⟩
                    obtain ⟨rr, hrr⟩ : ∃ z, v.tr[k].2.2.2 = z := ⟨_, rfl⟩
                    have e1 : v.tr[k].1 = (f1 : Int) := by omega
                    have e2 : v.tr[k].2.1 = (g1 : Int) := by omega
                    have e3 : v.tr[k].2.2.1 = (mi : Int) := by omega
                    have HTR : Hid (trailW (hasL xs) m t v.tr[k] = if t + mi ≤ m then (if hasL xs f1 t && !hasL xs g1 (t + mi) then rr else 0) else 0) := Lib.hid (by unfold trailW; rw [hf1, hg1, hmi, hrr])
                    rw [hf1] at HTS
                    rw [e1] at r0
                    rw [e2] at r1
                    rw [e3] at r2
                    rw [hrr] at r3
                    have hmib : mi ≤ 60 := by omega
                    have hrrb : 0 ≤ rr ∧ rr ≤ 1000 := by omega
                    obtain ⟨S3, hS3⟩ : ∃ z, trW v (hasL xs) m t q k = z := ⟨_, rfl⟩
                    rw [hS3] at hst HTS
                    rw [hS3]
                    have hwm : IntKind.i64.wrap ((t : Int) + (mi : Int)) = (t : Int) + (mi : Int) := IntWalk.i64_in _ (by omega)
                    have hwS : IntKind.i64.wrap (S2 + S3 + rr) = S2 + S3 + rr := IntWalk.i64_in _ (by omega)
                    obtain ⟨b3, hb3⟩ : ∃ b, hasL xs g1 (t + mi) = b := ⟨_, rfl⟩
                    have H50c : Hid (∀ W, Below w2.heap.size w2 W → Calls Tryd.prog 50 #[.slice A xs.length c, I g1, I ((t : Int) + (mi : Int))] W fun e w' => e = .returned (.bool b3) ∧ Below W.heap.size W w') := Lib.hid fun W h => by
                      have := H50.out g1 ((t : Int) + (mi : Int)) W h
                      unfold hasL at hb3
                      push_cast at hb3
                      rw [hb3] at this
                      exact this
                    rw [hb3] at HTR
                    have HBM : Hid (∀ W, Below (wr.alloc (.cells #[I f1, I g1, I mi, I rr] 51)).heap.size (wr.alloc (.cells #[I f1, I g1, I mi, I rr] 51)) W → W.cell? ⟨wr.heap.size, 3, none⟩ = some (I rr)) := Lib.hid fun W h => (((Box.new wr [I f1, I g1, I mi, I rr] 51).call h).at_ 3 _ rfl).1
                    have hbm : Below w2.heap.size w2 (wr.alloc (.cells #[I f1, I g1, I mi, I rr] 51)) := HB.out.alloc HB.out.size _
                    replace HB := Lib.hid hbm
                    have y0 := (HX.out _ hbm).1
                    obtain ⟨y0, y1, y2⟩ := y0
                    clear htc hto hf1 hg1 hmi hrr e1 e2 e3 hS3 hb3 hbm
                    by_cases e1 : f1 = q
                    · subst e1
                      rw [if_pos rfl] at HTS
                      rw [hSS.out.2.2] at HTR
                      by_cases e2 : t + mi ≤ m
                      · have e2i : (t : Int) + (mi : Int) ≤ (m : Int) := by omega
                        rw [if_pos e2] at HTR
                        cases b3
                        · have HN : Hid (S2 + trW v (hasL xs) m t f1 (k + 1) = S2 + S3 + rr) := Lib.hid (by rw [HTS.out, HTR.out]; simp; omega)
                          go_wp2_with (first
                            | (go_at_call 50; refine (H50c.out _ HB.out).mono ?_; rintro e w5 ⟨rfl, hB⟩; have r35 := HBM.out _ hB; replace HB := Lib.hid (HB.out.trans (hB.mono HB.out.size)); clear x0 x1 x2 y0 y1 y2; obtain ⟨⟨x0, x1, x2⟩, _⟩ := HX.out _ HB.out; clear hB)
                            | fail)
                          go_roundw
                          case rel => exact ⟨k + 1, by rw [HN.out], by go_num, by omega, HB⟩
                          case measure => first | (simp [intOf]; done) | (simp [intOf]; omega)
                        · have HN : Hid (S2 + trW v (hasL xs) m t f1 (k + 1) = S2 + S3) := Lib.hid (by rw [HTS.out, HTR.out]; simp)
                          go_wp2_with (first
                            | (go_at_call 50; refine (H50c.out _ HB.out).mono ?_; rintro e w5 ⟨rfl, hB⟩; have r35 := HBM.out _ hB; replace HB := Lib.hid (HB.out.trans (hB.mono HB.out.size)); clear x0 x1 x2 y0 y1 y2; obtain ⟨⟨x0, x1, x2⟩, _⟩ := HX.out _ HB.out; clear hB)
                            | fail)
                          go_roundw
                          case rel => exact ⟨k + 1, by rw [HN.out], by go_num, by omega, HB⟩
                          case measure => first | (simp [intOf]; done) | (simp [intOf]; omega)
                      · have e2i : ¬ (t : Int) + (mi : Int) ≤ (m : Int) := by omega
                        rw [if_neg e2] at HTR
                        have HN : Hid (S2 + trW v (hasL xs) m t f1 (k + 1) = S2 + S3) := Lib.hid (by rw [HTS.out, HTR.out]; omega)
                        go_wp2_with (fail)
                        go_roundw
                        case rel => exact ⟨k + 1, by rw [HN.out], by go_num, by omega, HB⟩
                        case measure => first | (simp [intOf]; done) | (simp [intOf]; omega)
                    · have e1i : ¬ (f1 : Int) = (q : Int) := by omega
                      rw [if_neg e1] at HTS
                      have HN : Hid (S2 + trW v (hasL xs) m t q (k + 1) = S2 + S3) := Lib.hid (by rw [HTS.out]; omega)
                      go_wp2_with (fail)
                      go_roundw
                      case rel => exact ⟨k + 1, by rw [HN.out], by go_num, by omega, HB⟩
                      case measure => first | (simp [intOf]; done) | (simp [intOf]; omega)
                  · obtain rfl : k = v.tr.length := by omega
                    have k1 : ¬ (v.tr.length : Int) < (v.tr.length : Int) := by omega
                    have HN : Hid (S0 + (S1 + plW v (hasL xs) m t q) = S2 + trW v (hasL xs) m t q v.tr.length) := Lib.hid (by
                      unfold plW
                      rw [if_pos hSS.out.2.2, ← hSS.out.2.1]
                      omega)
                    go_wp2_with (fail)
                    go_roundw
                    case rel => exact ⟨q + 1, by rw [sumK_succ, hSS.out.1, HN.out], by go_num, by omega, HB⟩
                    case measure => first | (simp [intOf]; done) | (simp [intOf]; omega)
            · have htm4 : ¬ (t : Int) < (m : Int) := by omega
              have E2 := Lib.hid (HS2.out.2 (fun h => htm3 h.1))
              clear HS2
              go_wp2_with (first
                | (go_at_call 50; have _t := tk1; clear tk1; refine (H50a.out _ HB.out).mono ?_; rintro e w5 ⟨rfl, hB⟩; replace HBz := Lib.hid (HBz.out.trans (hB.mono HBz.out.size)); have rcz := HRC.out _ HBz.out; replace HB := Lib.hid (HB.out.trans (hB.mono HB.out.size)); clear x0 x1 x2; obtain ⟨⟨x0, x1, x2⟩, _⟩ := HX.out _ HB.out; clear hB)
                | fail)
              go_loopw [9, 12] (fun i9 i12 wr => ∃ k : Nat, i9 = I (S2 + trW v (hasL xs) m t q k) ∧ i12 = I k ∧ k ≤ v.tr.length ∧ Hid (Below w2.heap.size w2 wr)) (fun _ i _ => v.tr.length - (intOf i).toNat)
              case atStart => exact ⟨0, by rw [E2.out]; simp [trW, lsum], rfl, by omega, HB⟩
              case round =>
                obtain ⟨k, rfl, rfl, hk, HB1⟩ := hrel
                clear E2
                clear HB x0 x1 x2
                have HB := HB1
                clear HB1
                obtain ⟨⟨x0, x1, x2⟩, _⟩ := HX.out wr HB.out
                have hwk : IntKind.i64.wrap ((k : Int) + 1) = (k : Int) + 1 := IntWalk.i64_in _ (by omega)
                by_cases hkl : k < v.tr.length
                · have k0 : (0 : Int) ≤ (k : Int) := by omega
                  have k1 : (k : Int) < (v.tr.length : Int) := by omega
                  obtain ⟨tb, tf, hA2, htb, htc⟩ := (HX.out wr HB.out).2.1.tr (by omega)
                  subst hA2
                  obtain ⟨r0, r1, r2, r3⟩ := htc k hkl
                  have hto := HV.out.tr _ (List.getElem_mem hkl)
                  have HTS := Lib.hid (trW_succ v (hasL xs) m t q hkl)
                  have hst := trW_top HV.out (hasL xs) m t q k
                  obtain ⟨f1, hf1⟩ : ∃ z, v.tr[k].1.toNat = z := ⟨_, rfl⟩
                  obtain ⟨g1, hg1⟩ : ∃ z, v.tr[k].2.1.toNat = z := ⟨_, rfl⟩
                  obtain ⟨mi, hmi⟩ : ∃ z, v.tr[k].2.2.1.toNat = z := ⟨_, rfl⟩
                  obtain ⟨rr, hrr⟩ : ∃ z, v.tr[k].2.2.2 = z := ⟨_, rfl⟩
                  have e1 : v.tr[k].1 = (f1 : Int) := by omega
                  have e2 : v.tr[k].2.1 = (g1 : Int) := by omega
                  have e3 : v.tr[k].2.2.1 = (mi : Int) := by omega
                  have HTR : Hid (trailW (hasL xs) m t v.tr[k] = if t + mi ≤ m then (if hasL xs f1 t && !hasL xs g1 (t + mi) then rr else 0) else 0) := Lib.hid (by unfold trailW; rw [hf1, hg1, hmi, hrr])
                  rw [hf1] at HTS
                  rw [e1] at r0
                  rw [e2] at r1
                  rw [e3] at r2
                  rw [hrr] at r3
                  have hmib : mi ≤ 60 := by omega
                  have hrrb : 0 ≤ rr ∧ rr ≤ 1000 := by omega
                  obtain ⟨S3, hS3⟩ : ∃ z, trW v (hasL xs) m t q k = z := ⟨_, rfl⟩
                  rw [hS3] at hst HTS
                  rw [hS3]
                  have hwm : IntKind.i64.wrap ((t : Int) + (mi : Int)) = (t : Int) + (mi : Int) := IntWalk.i64_in _ (by omega)
                  have hwS : IntKind.i64.wrap (S2 + S3 + rr) = S2 + S3 + rr := IntWalk.i64_in _ (by omega)
                  obtain ⟨b3, hb3⟩ : ∃ b, hasL xs g1 (t + mi) = b := ⟨_, rfl⟩
                  have H50c : Hid (∀ W, Below w2.heap.size w2 W → Calls Tryd.prog 50 #[.slice A xs.length c, I g1, I ((t : Int) + (mi : Int))] W fun e w' => e = .returned (.bool b3) ∧ Below W.heap.size W w') := Lib.hid fun W h => by
                    have := H50.out g1 ((t : Int) + (mi : Int)) W h
                    unfold hasL at hb3
                    push_cast at hb3
                    rw [hb3] at this
                    exact this
                  rw [hb3] at HTR
                  have HBM : Hid (∀ W, Below (wr.alloc (.cells #[I f1, I g1, I mi, I rr] 51)).heap.size (wr.alloc (.cells #[I f1, I g1, I mi, I rr] 51)) W → W.cell? ⟨wr.heap.size, 3, none⟩ = some (I rr)) := Lib.hid fun W h => (((Box.new wr [I f1, I g1, I mi, I rr] 51).call h).at_ 3 _ rfl).1
                  have hbm : Below w2.heap.size w2 (wr.alloc (.cells #[I f1, I g1, I mi, I rr] 51)) := HB.out.alloc HB.out.size _
                  replace HB := Lib.hid hbm
                  have y0 := (HX.out _ hbm).1
                  obtain ⟨y0, y1, y2⟩ := y0
                  clear htc hto hf1 hg1 hmi hrr e1 e2 e3 hS3 hb3 hbm
                  by_cases e1 : f1 = q
                  · subst e1
                    rw [if_pos rfl] at HTS
                    rw [hSS.out.2.2] at HTR
                    by_cases e2 : t + mi ≤ m
                    · have e2i : (t : Int) + (mi : Int) ≤ (m : Int) := by omega
                      rw [if_pos e2] at HTR
                      cases b3
                      · have HN : Hid (S2 + trW v (hasL xs) m t f1 (k + 1) = S2 + S3 + rr) := Lib.hid (by rw [HTS.out, HTR.out]; simp; omega)
                        go_wp2_with (first
                          | (go_at_call 50; refine (H50c.out _ HB.out).mono ?_; rintro e w5 ⟨rfl, hB⟩; have r35 := HBM.out _ hB; replace HB := Lib.hid (HB.out.trans (hB.mono HB.out.size)); clear x0 x1 x2 y0 y1 y2; obtain ⟨⟨x0, x1, x2⟩, _⟩ := HX.out _ HB.out; clear hB)
                          | fail)
                        go_roundw
                        case rel => exact ⟨k + 1, by rw [HN.out], by go_num, by omega, HB⟩
                        case measure => first | (simp [intOf]; done) | (simp [intOf]; omega)
                      · have HN : Hid (S2 + trW v (hasL xs) m t f1 (k + 1) = S2 + S3) := Lib.hid (by rw [HTS.out, HTR.out]; simp)
                        go_wp2_with (first
                          | (go_at_call 50; refine (H50c.out _ HB.out).mono ?_; rintro e w5 ⟨rfl, hB⟩; have r35 := HBM.out _ hB; replace HB := Lib.hid (HB.out.trans (hB.mono HB.out.size)); clear x0 x1 x2 y0 y1 y2; obtain ⟨⟨x0, x1, x2⟩, _⟩ := HX.out _ HB.out; clear hB)
                          | fail)
                        go_roundw
                        case rel => exact ⟨k + 1, by rw [HN.out], by go_num, by omega, HB⟩
                        case measure => first | (simp [intOf]; done) | (simp [intOf]; omega)
                    · have e2i : ¬ (t : Int) + (mi : Int) ≤ (m : Int) := by omega
                      rw [if_neg e2] at HTR
                      have HN : Hid (S2 + trW v (hasL xs) m t f1 (k + 1) = S2 + S3) := Lib.hid (by rw [HTS.out, HTR.out]; omega)
                      go_wp2_with (fail)
                      go_roundw
                      case rel => exact ⟨k + 1, by rw [HN.out], by go_num, by omega, HB⟩
                      case measure => first | (simp [intOf]; done) | (simp [intOf]; omega)
                  · have e1i : ¬ (f1 : Int) = (q : Int) := by omega
                    rw [if_neg e1] at HTS
                    have HN : Hid (S2 + trW v (hasL xs) m t q (k + 1) = S2 + S3) := Lib.hid (by rw [HTS.out]; omega)
                    go_wp2_with (fail)
                    go_roundw
                    case rel => exact ⟨k + 1, by rw [HN.out], by go_num, by omega, HB⟩
                    case measure => first | (simp [intOf]; done) | (simp [intOf]; omega)
                · obtain rfl : k = v.tr.length := by omega
                  have k1 : ¬ (v.tr.length : Int) < (v.tr.length : Int) := by omega
                  have HN : Hid (S0 + (S1 + plW v (hasL xs) m t q) = S2 + trW v (hasL xs) m t q v.tr.length) := Lib.hid (by
                    unfold plW
                    rw [if_pos hSS.out.2.2, ← hSS.out.2.1]
                    omega)
                  go_wp2_with (fail)
                  go_roundw
                  case rel => exact ⟨q + 1, by rw [sumK_succ, hSS.out.1, HN.out], by go_num, by omega, HB⟩
                  case measure => first | (simp [intOf]; done) | (simp [intOf]; omega)
        · obtain rfl : q = v.rm.length := by omega
          have q1 : ¬ (v.rm.length : Int) < (v.rm.length : Int) := by omega
          have HN : Hid (sumK (fun t => roW v (hasL xs) m t) (t + 1) = S0 + sumK (fun q => plW v (hasL xs) m t q) v.rm.length) := Lib.hid HRS.out
          go_wp2_with (fail)
          go_roundw
          case rel => exact ⟨t + 1, by rw [HN.out], by go_num, by omega, HB⟩
          case measure => first | (simp [intOf]; done) | (simp [intOf]; omega)
    · have htm2 : ¬ (t : Int) ≤ (m : Int) := by omega
      obtain rfl : t = m + 1 := by omega
      obtain ⟨S0, hS0⟩ : ∃ z, sumK (fun t => roW v (hasL xs) m t) (m + 1) = z := ⟨_, rfl⟩
      rw [hS0] at hst HWE
      rw [hS0]
      clear hS0 HRS
      obtain ⟨bb, hbb⟩ : ∃ b, hasL xs p m = b := ⟨_, rfl⟩
      rw [hbb] at HWE
      have H50a : Hid (∀ W, Below w2.heap.size w2 W → Calls Tryd.prog 50 #[.slice A xs.length c, I p, I m] W fun e w' => e = .returned (.bool bb) ∧ Below W.heap.size W w') := Lib.hid fun W h => by
        have := H50.out p m W h
        unfold hasL at hbb
        rw [hbb] at this
        exact this
      obtain ⟨rb, ro, hA1, hrb, hrc⟩ := (HX.out wr HB.out).2.1.rm (by omega)
      subst hA1
      have rc := hrc p hpn
      have hro : v.rm[p] = v.room p := by simp [Vis.room, List.getD_eq_getElem?_getD, hpn]
      rw [hro] at rc
      have HRC : Hid (∀ W, Below wr.heap.size wr W → W.cell? ⟨rb, ro + p, none⟩ = some (I (v.room p))) := Lib.hid fun W h => (h.cell (p := ⟨rb, _, none⟩) hrb).trans rc
      have hrm := HV.out.room p hp
      have p0 : (0 : Int) ≤ (p : Int) := by omega
      have p1 : (p : Int) < (v.rm.length : Int) := by omega
      have hwS : IntKind.i64.wrap (S0 + v.room p) = S0 + v.room p := IntWalk.i64_in _ (by omega)
      clear hro hrc rc hbb
      cases bb
      · have HZ := Lib.hid (HWE.out S0 (by simp))
        go_wp2_with (first
          | (go_at_call 50; refine (H50a.out _ HB.out).mono ?_; rintro e w5 ⟨rfl, hB⟩; replace HB := Lib.hid (HB.out.trans (hB.mono HB.out.size)); clear x0 x1 x2; obtain ⟨⟨x0, x1, x2⟩, _⟩ := HX.out _ HB.out; clear hB)
          | fail)
        refine bodyPost_ret (v := I S0) (by simp [results, Tryd.results22, go_sem]) rfl ⟨by rw [HZ.out], (HX.out _ HB.out).2.2.2⟩
      · have HZ := Lib.hid (HWE.out (S0 + v.room p) (by simp))
        go_wp2_with (first
          | (go_at_call 50; refine (H50a.out _ HB.out).mono ?_; rintro e w5 ⟨rfl, hB⟩; have rcz := HRC.out _ hB; replace HB := Lib.hid (HB.out.trans (hB.mono HB.out.size)); clear x0 x1 x2; obtain ⟨⟨x0, x1, x2⟩, _⟩ := HX.out _ HB.out; clear hB)
          | fail)
        refine bodyPost_ret (v := I (S0 + v.room p)) (by simp [results, Tryd.results22, go_sem]) rfl ⟨by rw [HZ.out], (HX.out _ HB.out).2.2.2⟩
end Go.Proofs.YtomfnldlnoiloaaDoor
