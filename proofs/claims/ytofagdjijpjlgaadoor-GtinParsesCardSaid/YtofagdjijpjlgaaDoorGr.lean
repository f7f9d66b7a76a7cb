/- gtin: the scanner's element, walked: kind 0, one length. gtin: the scanner's element, walked: kind 1, one length. gtin: the scanner's element, walked: kind 2, one length. gtin: the scanner's element, walked: kind 2, ended. gtin: the scanner's element, walked: kind 3, ended. -/
import Derived.Test.YtofagdjijpjlgaaDoorGq
set_option linter.unusedVariables false
set_option linter.unusedSimpArgs false
namespace Go.Proofs.YtofagdjijpjlgaaDoor.X
open Go Go.RowKit Go.Proofs.YtofagdjijpjlgaaDoorW.PrintWords Go.Proofs.YtofagdjijpjlgaaDoorW.PrintLast Go.Proofs.YtofagdjijpjlgaaDoorW.PrintMore Go.Proofs.YtofagdjijpjlgaaDoor.PBase
variable {W w w' : World} {z m N : Nat} {sn : Sn} {t : ByteArray}
set_option maxHeartbeats 16000000
set_option maxRecDepth 100000
theorem element_p0 (r : Row5) (s : ByteArray) (L M p : Nat) (hS : ScAt W z t (p : Int) m) (hM : SeenAt W m N sn) (hN : N ≤ 1000) (HT_ : Aside0 (Tab W)) (hzm : z ≠ m) (hp : p ≤ t.size) (ht : t.size ≤ 512)
    (hrow : rowR t p = .ok r) (hrc : (rowC r).toArray = #[.string s, .int .i64 (L : Int), .int .i64 (M : Int), .int .i64 0, .bool true]) (hs : s.data.toList = r.ai) (hss : S r = s) (hk : r.kind = 0) (hpl : r.plain = true) (hL : r.least = (L : Int)) (hMo : r.most = (M : Int)) (hL9 : L ≤ 90) (hM9 : M ≤ 90) (hex : p + s.size ≤ t.size)
    (HWH : Aside0 (∀ v, plL t 0 (p + s.size) L (L + 1) 0 = .ok v → ∀ w, Calls Tryd.prog 63 #[.string v] w fun e w' => e = .returned (.bool (wholeOf 0 v)) ∧ Below w.heap.size w w'))
    (hvz : ∀ v, plL t 0 (p + s.size) L (L + 1) 0 = .ok v → p + s.size + v.size ≤ t.size) :
    Calls Tryd.prog 36 #[.pointer (some ⟨z, 0, none⟩)] W fun e w' => e = outEl (elR t p sn) ∧ Two z m W w' ∧ ∀ r' v p', elR t p sn = .ok (r', v, p') → ScAt w' z t (p' : Int) m ∧ SeenAt w' m (N + 1) (putS sn r'.ai (p : Int)) := by
  have hH : ∀ args w, (callFunc 63 args).run Tryd.prog w = .ok (.enter 63 args) w := enters_of Tryd.func63 (by kernel_rfl) rfl
  have hln : r.ai.length = s.size := by rw [← hs, Array.length_toList]; rfl
  obtain ⟨fr, hfr⟩ : ∃ fr, p + s.size = fr := ⟨_, rfl⟩
  have hval : valR t r (p + r.ai.length) = plL t 0 fr L (L + 1) 0 := by
    unfold valR
    rw [hln, hfr, hpl, hk, hL, hMo]
    simp only [if_true, Int.toNat_natCast]
  have hfl : p + r.ai.length = fr := by rw [hln, hfr]
  rw [hfr] at HWH hvz hex
  have HVZ := Aside0.mk hvz
  have HP5 : Aside0 (fr ≤ t.size ∧ L ≤ 90 ∧ t.size ≤ 512 ∧ M ≤ 90) := ⟨hex, hL9, ht, hM9⟩
  have QP := Aside0.mk (fun (h : putE sn r.ai ≠ 0) => elR_put (t := t) hrow h)
  have QV := Aside0.mk (fun (x : Int × Int) (h : putE sn r.ai = 0) (hv : plL t 0 fr L (L + 1) 0 = .error x) => elR_val (sn := sn) hrow h (hval.trans hv))
  have Q0 := Aside0.mk (fun (v : ByteArray) (h : putE sn r.ai = 0) (hv : plL t 0 fr L (L + 1) 0 = .ok v) (hw : wholeOf r.kind v = false) => (elR_wh0 (sn := sn) hrow h (hval.trans hv) hw (by first | exact hk | (rw [hk]; decide))))
  have QE := Aside0.mk (fun (v : ByteArray) (h : putE sn r.ai = 0) (hv : plL t 0 fr L (L + 1) 0 = .ok v) (hw : wholeOf r.kind v = true) => (elR_end (sn := sn) hrow h (hval.trans hv) hw))
  have QT := Aside0.mk (fun (v : ByteArray) (h : putE sn r.ai = 0) (hv : plL t 0 fr L (L + 1) 0 = .ok v) (hw : wholeOf r.kind v = true) => (elR_tail (sn := sn) hrow h (hval.trans hv) hw))
  have QS := Aside0.mk (fun (v : ByteArray) (h : putE sn r.ai = 0) (hv : plL t 0 fr L (L + 1) 0 = .ok v) (hw : wholeOf r.kind v = true) => (elR_sep (sn := sn) hrow h (hval.trans hv) hw))
  rw [hfl] at Q0 QE QT QS
  rw [hk] at Q0 QE QT QS
  rw [hpl] at QE QT QS
  obtain ⟨R, hR⟩ : ∃ R, elR t p sn = R := ⟨_, rfl⟩
  rw [hR]
  simp only [hR] at QP QV Q0 QE QT QS
  have b0 := (Below.refl W.heap.size W).alloc (Nat.le_refl _) (.cells #[.string ⟨#[]⟩, .string ⟨#[]⟩] 23)
  have hS0 := hS.of_block (b0.block z hS.lt)
  have X := Aside0.mk (row_calls p hS0 ⟨HT_.out.alloc _⟩ hp (by omega))
  rw [hrow] at X
  simp only [outR, hrc] at X
  have c1 := hS0.cells.2.1
  have HS := Aside0.mk hS
  have HM := Aside0.mk hM
  have HB := Aside0.mk (And.intro hzm hN)
  have HSR := Aside0.mk (And.intro hs hss)
  have HSS := Aside0.mk (show s.size ≤ 140737488351232 by omega)
  have HPP := Aside0.mk (show p ≤ 512 by omega)
  have e0 : (p : Int) + (s.size : Int) = (fr : Int) := by omega
  have e1 : (0 : Int) ≤ (fr : Int) := by omega
  have e2 : (fr : Int) ≤ 100000 := by omega
  have HWA := Aside0.mk (And.intro (wrapJ e0 e1 e2) (wrapK e0 e1 e2))
  clear e0 e1 e2 hS hM hN hzm hp ht hrow hrc hs hss hk hpl hL hMo hL9 hM9 hex hvz hln hfr hval hfl b0 hS0 hR
  go_enter Tryd.func36, Tryd.ntmps36
  go_wp2_with (go_at_call 55; go_loud ((with_reducible refine X.out.mono ?_); rintro e w1 ⟨rfl, hb1⟩; have E1 := ElG.start HS.out HM.out HB.out.1 #[.string s, .int .i64 (L : Int), .int .i64 (M : Int), .int .i64 0, .bool true] hb1; have k2 := E1.sc.cells.2.2.1; have HE1 := Aside0.mk E1; clear E1 hb1))
  clear X
  obtain ⟨pe, hpe⟩ : ∃ pe, putE sn r.ai = pe := ⟨_, rfl⟩
  obtain ⟨sn2, hsn2⟩ : ∃ sn2, putS sn r.ai (p : Int) = sn2 := ⟨_, rfl⟩
  have HP := Aside0.mk (fun (w : World) (hb : Below (w1.alloc (.cells #[.string s, .int .i64 (L : Int), .int .i64 (M : Int), .int .i64 0, .bool true] 51)).heap.size (w1.alloc (.cells #[.string s, .int .i64 (L : Int), .int .i64 (M : Int), .int .i64 0, .bool true] 51)) w) => (show Calls Tryd.prog 47 #[.agg #[.map (some m)], .string s, .int .i64 (p : Int)] w (fun e w' => e = .returned (.int .i64 pe) ∧ ElG W z m w1.heap.size (N + 1) sn2 #[.string s, .int .i64 (L : Int), .int .i64 (M : Int), .int .i64 0, .bool true] t (p : Int) w') from
    (put_calls (HE1.out.below hb).mp (by have := HB.out.2; unfold maxLen; omega) s (by have := HSS.out; unfold maxLen; omega) (p : Int) (wfN p (by have := HPP.out; omega))).mono (by rintro e w' ⟨rfl, q0, q1, q2, q3, q4, q5⟩; rw [HSR.out.1, hsn2] at q0; rw [HSR.out.1, hpe]; exact ⟨rfl, (HE1.out.below hb).put q0 q1 q2 q3 q4 q5⟩)))
  rw [hpe] at QP QV Q0 QE QT QS
  have HPE := Aside0.mk hpe
  have HSN := Aside0.mk hsn2
  clear hpe hsn2
  have a0 := HE1.out.cells.1
  have SS := Aside0.mk (And.intro k2 a0)
  go_region_held3 (fun w' => w'.cell? ⟨z, 2, none⟩ = some (.map (some m)) ∧ w'.cell? ⟨w1.heap.size, 0, none⟩ = some (.string s))
    (first | exact SS.out | exact ⟨E3.out.sc.cells.2.2.1, E3.out.cells.1⟩)
    ((go_at_call 47; go_loud (refine (HP.out _ (by repeat (first | exact Below.refl _ _ | apply below_drew | apply pw_below_drewN | apply below_alloc))).mono ?_; rintro e w3 ⟨rfl, e3⟩; have E3 := Aside0.mk e3; clear e3)))
  clear HP SS HM HE1 HS k2 a0 c1
  obtain ⟨r0, r1, r2, r3, r4⟩ := E3.out.cells
  by_cases hp0 : pe = 0
  case neg =>
    have hE := QP.out hp0
    have HE := Aside0.mk hE
    have n0 : (pe != 0) = true := bne_iff_ne.2 hp0
    have n1 : (pe == 0) = false := beq_eq_false_iff_ne.2 hp0
    have X := Aside0.mk (fun w => wrong_calls z pe (p : Int) w)
    clear hE hp0
    go_wp2_with (go_at_call 38; go_loud ((with_reducible refine (X.out _).mono ?_); rintro e w8 ⟨rfl, rfl⟩))
    exact ⟨rfl, by rw [HE.out]; rfl, E3.out.fr, fun r' v p' h => by rw [HE.out] at h; cases h⟩
  case pos =>
    subst hp0
    have HF := Aside0.mk (fun w => form_codes s (L : Int) (M : Int) 0 true w (by decide))
    have X := Aside0.mk (plain_walk fr L s (M : Int) 0 true E3.out.sc HP5.out.1 (by have := HP5.out.2.1; omega) (by have := HP5.out.2.2.1; omega) (by decide) ⟨fun w => (HF.out w).mono (by rintro e w' ⟨rfl, h⟩; exact ⟨⟨_, _, _, rfl⟩, h⟩)⟩)
    rcases hv : plL t 0 fr L (L + 1) 0 with ⟨c, q⟩ | v
    · have hE := QV.out _ (by simp) hv
      have HE := Aside0.mk hE
      rw [hv] at X
      simp only [outS, faultE] at X
      clear hE hv
      obtain ⟨hw, hw2⟩ := HWA.out
      go_wp2_with (go_at_call 56; go_loud ((with_reducible refine X.out.mono ?_); rintro e w4 ⟨rfl, hb4⟩; have E4 := Aside0.mk (E3.out.below hb4); clear hb4))
      exact ⟨rfl, by rw [HE.out]; rfl, E4.out.fr, fun r' v p' h => by rw [HE.out] at h; cases h⟩
    · rw [hv] at X
      simp only [outS] at X
      have HV := Aside0.mk hv
      obtain ⟨p1, hp1⟩ : ∃ p1, fr + v.size = p1 := ⟨_, rfl⟩
      have hp1b : p1 ≤ t.size := by rw [← hp1]; exact HVZ.out v hv
      have e0 : (fr : Int) + (v.size : Int) = (p1 : Int) := by omega
      have e1 : (0 : Int) ≤ (p1 : Int) := by omega
      have e2 : (p1 : Int) ≤ 100000 := by have := HP5.out.2.2.1; omega
      have HPB := Aside0.mk hp1b
      have HP1 := Aside0.mk hp1
      have XW := Aside0.mk (HWH.out v hv)
      have hw3 := wrapJ e0 e1 e2
      have hw4 := wrapK e0 e1 e2
      obtain ⟨hw, hw2⟩ := HWA.out
      clear hv hp1 hp1b e0 e1 e2
      go_wp2_with (go_at_call 56; go_loud ((with_reducible refine X.out.mono ?_); rintro e w4 ⟨rfl, hb4⟩; have E4 := E3.out.below hb4; have s1 := E4.sc.cells.2.1; have s2 := E4.sc.cells.2.2.2; have E5 := E4.set (p1 : Int); obtain ⟨u0, u1, u2, u3, u4⟩ := E5.cells; have HE5 := Aside0.mk E5; clear E4 E5 hb4))
      clear X r0 r1 r2 r3 r4 hw hw2 hw3 hw4
      have HF := Aside0.mk (fun w => form_codes s (L : Int) (M : Int) 0 true w (by decide))
      go_wp2_with (go_at_call 51; go_loud ((with_reducible refine (HF.out _).mono ?_); rintro e w6 ⟨rfl, hb6⟩; have E6 := Aside0.mk ((HE5.out.below hb6).below ((Below.refl w6.heap.size w6).alloc (Nat.le_refl _) (.cells #[.func (.func 62) #[] #[], .int .i64 20, .func (.func 63) #[] #[], .int .i64 22, .bool true] 99))); clear hb6))
      clear HF
      have kf : (w6.alloc (.cells #[.func (.func 62) #[] #[], .int .i64 20, .func (.func 63) #[] #[], .int .i64 22, .bool true] 99)).heap[w6.heap.size]? = some (.cells #[.func (.func 62) #[] #[], .int .i64 20, .func (.func 63) #[] #[], .int .i64 22, .bool true] 99 (0, 0)) := heap_alloc_new _ _
      have KF := Aside0.mk kf
      clear kf
      rcases hwq : wholeOf 0 v with _ | _
      · have hE := Q0.out v (by simp) HV.out hwq
        have HE := Aside0.mk hE
        rw [hwq] at XW
        have e1 : (-1 : Int) ≤ (p1 : Int) - 1 := by omega
        have e2 : (p1 : Int) - 1 ≤ 100000 := by have := HPB.out; have := HP5.out.2.2.1; omega
        have hwa := wrapJm (Eq.refl ((p1 : Int) - 1)) e1 e2
        have hwb := wrapKm (Eq.refl ((p1 : Int) - 1)) e1 e2
        have X := Aside0.mk (fun w => wrong_calls z 22 ((p1 : Int) - 1) w)
        clear hE hwq e1 e2
        go_wp2_with (first | (go_at_call 63; go_loud ((with_reducible refine (XW.out _).mono ?_); rintro e w7 ⟨rfl, hb7⟩; have hkf := (hb7.block w6.heap.size (by simp)).trans KF.out; have E7 := Aside0.mk (E6.out.below hb7); have y1 := E7.out.sc.cells.2.1; have j3 : w7.cell? ⟨w6.heap.size, 3, none⟩ = some (.int .i64 22) := (by simp [World.cell?, hkf]); have j4 : w7.cell? ⟨w6.heap.size, 4, none⟩ = some (.bool true) := (by simp [World.cell?, hkf]); clear hkf hb7)) | (go_at_call 38; go_loud ((with_reducible refine (X.out _).mono ?_); rintro e w8 ⟨rfl, rfl⟩)))
        exact ⟨rfl, by rw [HE.out, HP1.out]; rfl, E7.out.fr, fun r' v p' h => by rw [HE.out] at h; cases h⟩
      · rw [hwq] at XW
        go_wp2_with (go_at_call 63; go_loud ((with_reducible refine (XW.out _).mono ?_); rintro e w7 ⟨rfl, hb7⟩; have E7 := Aside0.mk (E6.out.below hb7); clear hb7))
        clear XW KF HE5 s1 s2 u0 u1 u2 u3 u4
        obtain ⟨v0, v1, v2, v3, v4⟩ := E7.out.cells
        obtain ⟨y0, y1, y2, y3⟩ := E7.out.sc.cells
        have rbx := E7.out.rb
        have f0 : w7.frozen? ⟨W.heap.size, 0, none⟩ = false := by simp [World.frozen?, rbx]
        have f1 : w7.frozen? ⟨W.heap.size, 1, none⟩ = false := by simp [World.frozen?, rbx]
        have f2 : w7.cell? ⟨W.heap.size, 0, none⟩ = some (.string ⟨#[]⟩) := by simp [World.cell?, rbx]
        have f3 : w7.cell? ⟨W.heap.size, 1, none⟩ = some (.string ⟨#[]⟩) := by simp [World.cell?, rbx]
        have lt7 : W.heap.size < w7.heap.size := (Array.getElem?_eq_some_iff.1 rbx).1
        have ne1 : (z = W.heap.size) = False := eq_false (by have := E7.out.ne; omega)
        have ne2 : (W.heap.size = z) = False := eq_false (by have := E7.out.ne; omega)
        have FZ := Aside0.mk (fun (u : World) (hu : Below w7.heap.size w7 u) => ElG.fin (E7.out.below hu) (.string s) (.string v))
        have FY := Aside0.mk (fun (u : World) (hu : Below w7.heap.size w7 u) => ElG.fin ((E7.out.below hu).set ((p1 + 1 : Nat) : Int)) (.string s) (.string v))
        clear rbx
        have hE := QE.out v (by simp) HV.out hwq (by simp)
        have HE := Aside0.mk hE
        clear hE hwq
        go_wp2
        try go_quiet (fail)
        go_wp2
        refine bodyPost_ret (v := .agg #[.string s, .string v]) (by simp [results, Tryd.results36, go_sem, lt7, f0, f1, f2, f3]) rfl ⟨by rw [HE.out]; simp only [outEl]; rw [HSR.out.2], ?_, ?_⟩
        · exact (FZ.out _ (by repeat (first | exact Below.refl _ _ | apply below_drew | apply pw_below_drewN))).1
        · intro r' v' p' h
          rw [HE.out] at h
          cases h
          rw [HSN.out, HP1.out]
          exact (FZ.out _ (by repeat (first | exact Below.refl _ _ | apply below_drew | apply pw_below_drewN))).2
end Go.Proofs.YtofagdjijpjlgaaDoor.X
set_option linter.unusedVariables false
set_option linter.unusedSimpArgs false
namespace Go.Proofs.YtofagdjijpjlgaaDoor.X
open Go Go.RowKit Go.Proofs.YtofagdjijpjlgaaDoorW.PrintWords Go.Proofs.YtofagdjijpjlgaaDoorW.PrintLast Go.Proofs.YtofagdjijpjlgaaDoorW.PrintMore Go.Proofs.YtofagdjijpjlgaaDoor.PBase
variable {W w w' : World} {z m N : Nat} {sn : Sn} {t : ByteArray}
set_option maxHeartbeats 16000000
set_option maxRecDepth 100000
theorem element_p1 (r : Row5) (s : ByteArray) (L M p : Nat) (hS : ScAt W z t (p : Int) m) (hM : SeenAt W m N sn) (hN : N ≤ 1000) (HT_ : Aside0 (Tab W)) (hzm : z ≠ m) (hp : p ≤ t.size) (ht : t.size ≤ 512)
    (hrow : rowR t p = .ok r) (hrc : (rowC r).toArray = #[.string s, .int .i64 (L : Int), .int .i64 (M : Int), .int .i64 1, .bool true]) (hs : s.data.toList = r.ai) (hss : S r = s) (hk : r.kind = 1) (hpl : r.plain = true) (hL : r.least = (L : Int)) (hMo : r.most = (M : Int)) (hL9 : L ≤ 90) (hM9 : M ≤ 90) (hex : p + s.size ≤ t.size)
    (HWH : Aside0 (∀ v, plL t 1 (p + s.size) L (L + 1) 0 = .ok v → ∀ w, Calls Tryd.prog 64 #[.string v] w fun e w' => e = .returned (.bool (wholeOf 1 v)) ∧ Below w.heap.size w w'))
    (hvz : ∀ v, plL t 1 (p + s.size) L (L + 1) 0 = .ok v → p + s.size + v.size ≤ t.size) :
    Calls Tryd.prog 36 #[.pointer (some ⟨z, 0, none⟩)] W fun e w' => e = outEl (elR t p sn) ∧ Two z m W w' ∧ ∀ r' v p', elR t p sn = .ok (r', v, p') → ScAt w' z t (p' : Int) m ∧ SeenAt w' m (N + 1) (putS sn r'.ai (p : Int)) := by
  have hH : ∀ args w, (callFunc 64 args).run Tryd.prog w = .ok (.enter 64 args) w := enters_of Tryd.func64 (by kernel_rfl) rfl
  have hln : r.ai.length = s.size := by rw [← hs, Array.length_toList]; rfl
  obtain ⟨fr, hfr⟩ : ∃ fr, p + s.size = fr := ⟨_, rfl⟩
  have hval : valR t r (p + r.ai.length) = plL t 1 fr L (L + 1) 0 := by
    unfold valR
    rw [hln, hfr, hpl, hk, hL, hMo]
    simp only [if_true, Int.toNat_natCast]
  have hfl : p + r.ai.length = fr := by rw [hln, hfr]
  rw [hfr] at HWH hvz hex
  have HVZ := Aside0.mk hvz
  have HP5 : Aside0 (fr ≤ t.size ∧ L ≤ 90 ∧ t.size ≤ 512 ∧ M ≤ 90) := ⟨hex, hL9, ht, hM9⟩
  have QP := Aside0.mk (fun (h : putE sn r.ai ≠ 0) => elR_put (t := t) hrow h)
  have QV := Aside0.mk (fun (x : Int × Int) (h : putE sn r.ai = 0) (hv : plL t 1 fr L (L + 1) 0 = .error x) => elR_val (sn := sn) hrow h (hval.trans hv))
  have Q0 := Aside0.mk (fun (v : ByteArray) (h : putE sn r.ai = 0) (hv : plL t 1 fr L (L + 1) 0 = .ok v) (hw : wholeOf r.kind v = false) => (elR_wh1 (sn := sn) hrow h (hval.trans hv) hw (by first | exact hk | (rw [hk]; decide))))
  have QE := Aside0.mk (fun (v : ByteArray) (h : putE sn r.ai = 0) (hv : plL t 1 fr L (L + 1) 0 = .ok v) (hw : wholeOf r.kind v = true) => (elR_end (sn := sn) hrow h (hval.trans hv) hw))
  have QT := Aside0.mk (fun (v : ByteArray) (h : putE sn r.ai = 0) (hv : plL t 1 fr L (L + 1) 0 = .ok v) (hw : wholeOf r.kind v = true) => (elR_tail (sn := sn) hrow h (hval.trans hv) hw))
  have QS := Aside0.mk (fun (v : ByteArray) (h : putE sn r.ai = 0) (hv : plL t 1 fr L (L + 1) 0 = .ok v) (hw : wholeOf r.kind v = true) => (elR_sep (sn := sn) hrow h (hval.trans hv) hw))
  rw [hfl] at Q0 QE QT QS
  rw [hk] at Q0 QE QT QS
  rw [hpl] at QE QT QS
  obtain ⟨R, hR⟩ : ∃ R, elR t p sn = R := ⟨_, rfl⟩
  rw [hR]
  simp only [hR] at QP QV Q0 QE QT QS
  have b0 := (Below.refl W.heap.size W).alloc (Nat.le_refl _) (.cells #[.string ⟨#[]⟩, .string ⟨#[]⟩] 23)
  have hS0 := hS.of_block (b0.block z hS.lt)
  have X := Aside0.mk (row_calls p hS0 ⟨HT_.out.alloc _⟩ hp (by omega))
  rw [hrow] at X
  simp only [outR, hrc] at X
  have c1 := hS0.cells.2.1
  have HS := Aside0.mk hS
  have HM := Aside0.mk hM
  have HB := Aside0.mk (And.intro hzm hN)
  have HSR := Aside0.mk (And.intro hs hss)
  have HSS := Aside0.mk (show s.size ≤ 140737488351232 by omega)
  have HPP := Aside0.mk (show p ≤ 512 by omega)
  have e0 : (p : Int) + (s.size : Int) = (fr : Int) := by omega
  have e1 : (0 : Int) ≤ (fr : Int) := by omega
  have e2 : (fr : Int) ≤ 100000 := by omega
  have HWA := Aside0.mk (And.intro (wrapJ e0 e1 e2) (wrapK e0 e1 e2))
  clear e0 e1 e2 hS hM hN hzm hp ht hrow hrc hs hss hk hpl hL hMo hL9 hM9 hex hvz hln hfr hval hfl b0 hS0 hR
  go_enter Tryd.func36, Tryd.ntmps36
  go_wp2_with (go_at_call 55; go_loud ((with_reducible refine X.out.mono ?_); rintro e w1 ⟨rfl, hb1⟩; have E1 := ElG.start HS.out HM.out HB.out.1 #[.string s, .int .i64 (L : Int), .int .i64 (M : Int), .int .i64 1, .bool true] hb1; have k2 := E1.sc.cells.2.2.1; have HE1 := Aside0.mk E1; clear E1 hb1))
  clear X
  obtain ⟨pe, hpe⟩ : ∃ pe, putE sn r.ai = pe := ⟨_, rfl⟩
  obtain ⟨sn2, hsn2⟩ : ∃ sn2, putS sn r.ai (p : Int) = sn2 := ⟨_, rfl⟩
  have HP := Aside0.mk (fun (w : World) (hb : Below (w1.alloc (.cells #[.string s, .int .i64 (L : Int), .int .i64 (M : Int), .int .i64 1, .bool true] 51)).heap.size (w1.alloc (.cells #[.string s, .int .i64 (L : Int), .int .i64 (M : Int), .int .i64 1, .bool true] 51)) w) => (show Calls Tryd.prog 47 #[.agg #[.map (some m)], .string s, .int .i64 (p : Int)] w (fun e w' => e = .returned (.int .i64 pe) ∧ ElG W z m w1.heap.size (N + 1) sn2 #[.string s, .int .i64 (L : Int), .int .i64 (M : Int), .int .i64 1, .bool true] t (p : Int) w') from
    (put_calls (HE1.out.below hb).mp (by have := HB.out.2; unfold maxLen; omega) s (by have := HSS.out; unfold maxLen; omega) (p : Int) (wfN p (by have := HPP.out; omega))).mono (by rintro e w' ⟨rfl, q0, q1, q2, q3, q4, q5⟩; rw [HSR.out.1, hsn2] at q0; rw [HSR.out.1, hpe]; exact ⟨rfl, (HE1.out.below hb).put q0 q1 q2 q3 q4 q5⟩)))
  rw [hpe] at QP QV Q0 QE QT QS
  have HPE := Aside0.mk hpe
  have HSN := Aside0.mk hsn2
  clear hpe hsn2
  have a0 := HE1.out.cells.1
  have SS := Aside0.mk (And.intro k2 a0)
  go_region_held3 (fun w' => w'.cell? ⟨z, 2, none⟩ = some (.map (some m)) ∧ w'.cell? ⟨w1.heap.size, 0, none⟩ = some (.string s))
    (first | exact SS.out | exact ⟨E3.out.sc.cells.2.2.1, E3.out.cells.1⟩)
    ((go_at_call 47; go_loud (refine (HP.out _ (by repeat (first | exact Below.refl _ _ | apply below_drew | apply pw_below_drewN | apply below_alloc))).mono ?_; rintro e w3 ⟨rfl, e3⟩; have E3 := Aside0.mk e3; clear e3)))
  clear HP SS HM HE1 HS k2 a0 c1
  obtain ⟨r0, r1, r2, r3, r4⟩ := E3.out.cells
  by_cases hp0 : pe = 0
  case neg =>
    have hE := QP.out hp0
    have HE := Aside0.mk hE
    have n0 : (pe != 0) = true := bne_iff_ne.2 hp0
    have n1 : (pe == 0) = false := beq_eq_false_iff_ne.2 hp0
    have X := Aside0.mk (fun w => wrong_calls z pe (p : Int) w)
    clear hE hp0
    go_wp2_with (go_at_call 38; go_loud ((with_reducible refine (X.out _).mono ?_); rintro e w8 ⟨rfl, rfl⟩))
    exact ⟨rfl, by rw [HE.out]; rfl, E3.out.fr, fun r' v p' h => by rw [HE.out] at h; cases h⟩
  case pos =>
    subst hp0
    have HF := Aside0.mk (fun w => form_days s (L : Int) (M : Int) 1 true w (by decide) (by decide))
    have X := Aside0.mk (plain_walk fr L s (M : Int) 1 true E3.out.sc HP5.out.1 (by have := HP5.out.2.1; omega) (by have := HP5.out.2.2.1; omega) (by decide) ⟨fun w => (HF.out w).mono (by rintro e w' ⟨rfl, h⟩; exact ⟨⟨_, _, _, rfl⟩, h⟩)⟩)
    rcases hv : plL t 1 fr L (L + 1) 0 with ⟨c, q⟩ | v
    · have hE := QV.out _ (by simp) hv
      have HE := Aside0.mk hE
      rw [hv] at X
      simp only [outS, faultE] at X
      clear hE hv
      obtain ⟨hw, hw2⟩ := HWA.out
      go_wp2_with (go_at_call 56; go_loud ((with_reducible refine X.out.mono ?_); rintro e w4 ⟨rfl, hb4⟩; have E4 := Aside0.mk (E3.out.below hb4); clear hb4))
      exact ⟨rfl, by rw [HE.out]; rfl, E4.out.fr, fun r' v p' h => by rw [HE.out] at h; cases h⟩
    · rw [hv] at X
      simp only [outS] at X
      have HV := Aside0.mk hv
      obtain ⟨p1, hp1⟩ : ∃ p1, fr + v.size = p1 := ⟨_, rfl⟩
      have hp1b : p1 ≤ t.size := by rw [← hp1]; exact HVZ.out v hv
      have e0 : (fr : Int) + (v.size : Int) = (p1 : Int) := by omega
      have e1 : (0 : Int) ≤ (p1 : Int) := by omega
      have e2 : (p1 : Int) ≤ 100000 := by have := HP5.out.2.2.1; omega
      have HPB := Aside0.mk hp1b
      have HP1 := Aside0.mk hp1
      have XW := Aside0.mk (HWH.out v hv)
      have hw3 := wrapJ e0 e1 e2
      have hw4 := wrapK e0 e1 e2
      obtain ⟨hw, hw2⟩ := HWA.out
      clear hv hp1 hp1b e0 e1 e2
      go_wp2_with (go_at_call 56; go_loud ((with_reducible refine X.out.mono ?_); rintro e w4 ⟨rfl, hb4⟩; have E4 := E3.out.below hb4; have s1 := E4.sc.cells.2.1; have s2 := E4.sc.cells.2.2.2; have E5 := E4.set (p1 : Int); obtain ⟨u0, u1, u2, u3, u4⟩ := E5.cells; have HE5 := Aside0.mk E5; clear E4 E5 hb4))
      clear X r0 r1 r2 r3 r4 hw hw2 hw3 hw4
      have HF := Aside0.mk (fun w => form_days s (L : Int) (M : Int) 1 true w (by decide) (by decide))
      go_wp2_with (go_at_call 51; go_loud ((with_reducible refine (HF.out _).mono ?_); rintro e w6 ⟨rfl, hb6⟩; have E6 := Aside0.mk ((HE5.out.below hb6).below ((Below.refl w6.heap.size w6).alloc (Nat.le_refl _) (.cells #[.func (.func 62) #[] #[], .int .i64 20, .func (.func 64) #[] #[], .int .i64 28, .bool false] 99))); clear hb6))
      clear HF
      have kf : (w6.alloc (.cells #[.func (.func 62) #[] #[], .int .i64 20, .func (.func 64) #[] #[], .int .i64 28, .bool false] 99)).heap[w6.heap.size]? = some (.cells #[.func (.func 62) #[] #[], .int .i64 20, .func (.func 64) #[] #[], .int .i64 28, .bool false] 99 (0, 0)) := heap_alloc_new _ _
      have KF := Aside0.mk kf
      clear kf
      rcases hwq : wholeOf 1 v with _ | _
      · have hE := Q0.out v (by simp) HV.out hwq
        have HE := Aside0.mk hE
        rw [hwq] at XW
        have X := Aside0.mk (fun w => wrong_calls z 28 (fr : Int) w)
        clear hE hwq
        go_wp2_with (first | (go_at_call 64; go_loud ((with_reducible refine (XW.out _).mono ?_); rintro e w7 ⟨rfl, hb7⟩; have hkf := (hb7.block w6.heap.size (by simp)).trans KF.out; have E7 := Aside0.mk (E6.out.below hb7); have y1 := E7.out.sc.cells.2.1; have j3 : w7.cell? ⟨w6.heap.size, 3, none⟩ = some (.int .i64 28) := (by simp [World.cell?, hkf]); have j4 : w7.cell? ⟨w6.heap.size, 4, none⟩ = some (.bool false) := (by simp [World.cell?, hkf]); clear hkf hb7)) | (go_at_call 38; go_loud ((with_reducible refine (X.out _).mono ?_); rintro e w8 ⟨rfl, rfl⟩)))
        exact ⟨rfl, by rw [HE.out]; rfl, E7.out.fr, fun r' v p' h => by rw [HE.out] at h; cases h⟩
      · rw [hwq] at XW
        go_wp2_with (go_at_call 64; go_loud ((with_reducible refine (XW.out _).mono ?_); rintro e w7 ⟨rfl, hb7⟩; have E7 := Aside0.mk (E6.out.below hb7); clear hb7))
        clear XW KF HE5 s1 s2 u0 u1 u2 u3 u4
        obtain ⟨v0, v1, v2, v3, v4⟩ := E7.out.cells
        obtain ⟨y0, y1, y2, y3⟩ := E7.out.sc.cells
        have rbx := E7.out.rb
        have f0 : w7.frozen? ⟨W.heap.size, 0, none⟩ = false := by simp [World.frozen?, rbx]
        have f1 : w7.frozen? ⟨W.heap.size, 1, none⟩ = false := by simp [World.frozen?, rbx]
        have f2 : w7.cell? ⟨W.heap.size, 0, none⟩ = some (.string ⟨#[]⟩) := by simp [World.cell?, rbx]
        have f3 : w7.cell? ⟨W.heap.size, 1, none⟩ = some (.string ⟨#[]⟩) := by simp [World.cell?, rbx]
        have lt7 : W.heap.size < w7.heap.size := (Array.getElem?_eq_some_iff.1 rbx).1
        have ne1 : (z = W.heap.size) = False := eq_false (by have := E7.out.ne; omega)
        have ne2 : (W.heap.size = z) = False := eq_false (by have := E7.out.ne; omega)
        have FZ := Aside0.mk (fun (u : World) (hu : Below w7.heap.size w7 u) => ElG.fin (E7.out.below hu) (.string s) (.string v))
        have FY := Aside0.mk (fun (u : World) (hu : Below w7.heap.size w7 u) => ElG.fin ((E7.out.below hu).set ((p1 + 1 : Nat) : Int)) (.string s) (.string v))
        clear rbx
        have hE := QE.out v (by simp) HV.out hwq (by simp)
        have HE := Aside0.mk hE
        clear hE hwq
        go_wp2
        try go_quiet (fail)
        go_wp2
        refine bodyPost_ret (v := .agg #[.string s, .string v]) (by simp [results, Tryd.results36, go_sem, lt7, f0, f1, f2, f3]) rfl ⟨by rw [HE.out]; simp only [outEl]; rw [HSR.out.2], ?_, ?_⟩
        · exact (FZ.out _ (by repeat (first | exact Below.refl _ _ | apply below_drew | apply pw_below_drewN))).1
        · intro r' v' p' h
          rw [HE.out] at h
          cases h
          rw [HSN.out, HP1.out]
          exact (FZ.out _ (by repeat (first | exact Below.refl _ _ | apply below_drew | apply pw_below_drewN))).2
end Go.Proofs.YtofagdjijpjlgaaDoor.X
set_option linter.unusedVariables false
set_option linter.unusedSimpArgs false
namespace Go.Proofs.YtofagdjijpjlgaaDoor.X
open Go Go.RowKit Go.Proofs.YtofagdjijpjlgaaDoorW.PrintWords Go.Proofs.YtofagdjijpjlgaaDoorW.PrintLast Go.Proofs.YtofagdjijpjlgaaDoorW.PrintMore Go.Proofs.YtofagdjijpjlgaaDoor.PBase
variable {W w w' : World} {z m N : Nat} {sn : Sn} {t : ByteArray}
set_option maxHeartbeats 16000000
set_option maxRecDepth 100000
theorem element_p2 (r : Row5) (s : ByteArray) (L M p : Nat) (hS : ScAt W z t (p : Int) m) (hM : SeenAt W m N sn) (hN : N ≤ 1000) (HT_ : Aside0 (Tab W)) (hzm : z ≠ m) (hp : p ≤ t.size) (ht : t.size ≤ 512)
    (hrow : rowR t p = .ok r) (hrc : (rowC r).toArray = #[.string s, .int .i64 (L : Int), .int .i64 (M : Int), .int .i64 2, .bool true]) (hs : s.data.toList = r.ai) (hss : S r = s) (hk : r.kind = 2) (hpl : r.plain = true) (hL : r.least = (L : Int)) (hMo : r.most = (M : Int)) (hL9 : L ≤ 90) (hM9 : M ≤ 90) (hex : p + s.size ≤ t.size)
    (HWH : Aside0 (∀ v, plL t 2 (p + s.size) L (L + 1) 0 = .ok v → ∀ w, Calls Tryd.prog 65 #[.string v] w fun e w' => e = .returned (.bool (wholeOf 2 v)) ∧ Below w.heap.size w w'))
    (hvz : ∀ v, plL t 2 (p + s.size) L (L + 1) 0 = .ok v → p + s.size + v.size ≤ t.size) :
    Calls Tryd.prog 36 #[.pointer (some ⟨z, 0, none⟩)] W fun e w' => e = outEl (elR t p sn) ∧ Two z m W w' ∧ ∀ r' v p', elR t p sn = .ok (r', v, p') → ScAt w' z t (p' : Int) m ∧ SeenAt w' m (N + 1) (putS sn r'.ai (p : Int)) := by
  have hH : ∀ args w, (callFunc 65 args).run Tryd.prog w = .ok (.enter 65 args) w := enters_of Tryd.func65 (by kernel_rfl) rfl
  have hln : r.ai.length = s.size := by rw [← hs, Array.length_toList]; rfl
  obtain ⟨fr, hfr⟩ : ∃ fr, p + s.size = fr := ⟨_, rfl⟩
  have hval : valR t r (p + r.ai.length) = plL t 2 fr L (L + 1) 0 := by
    unfold valR
    rw [hln, hfr, hpl, hk, hL, hMo]
    simp only [if_true, Int.toNat_natCast]
  have hfl : p + r.ai.length = fr := by rw [hln, hfr]
  rw [hfr] at HWH hvz hex
  have HVZ := Aside0.mk hvz
  have HP5 : Aside0 (fr ≤ t.size ∧ L ≤ 90 ∧ t.size ≤ 512 ∧ M ≤ 90) := ⟨hex, hL9, ht, hM9⟩
  have QP := Aside0.mk (fun (h : putE sn r.ai ≠ 0) => elR_put (t := t) hrow h)
  have QV := Aside0.mk (fun (x : Int × Int) (h : putE sn r.ai = 0) (hv : plL t 2 fr L (L + 1) 0 = .error x) => elR_val (sn := sn) hrow h (hval.trans hv))
  have QE := Aside0.mk (fun (v : ByteArray) (h : putE sn r.ai = 0) (hv : plL t 2 fr L (L + 1) 0 = .ok v) (hw : wholeOf r.kind v = true) => (elR_end (sn := sn) hrow h (hval.trans hv) hw))
  have QT := Aside0.mk (fun (v : ByteArray) (h : putE sn r.ai = 0) (hv : plL t 2 fr L (L + 1) 0 = .ok v) (hw : wholeOf r.kind v = true) => (elR_tail (sn := sn) hrow h (hval.trans hv) hw))
  have QS := Aside0.mk (fun (v : ByteArray) (h : putE sn r.ai = 0) (hv : plL t 2 fr L (L + 1) 0 = .ok v) (hw : wholeOf r.kind v = true) => (elR_sep (sn := sn) hrow h (hval.trans hv) hw))
  rw [hfl] at QE QT QS
  rw [hk] at QE QT QS
  rw [hpl] at QE QT QS
  obtain ⟨R, hR⟩ : ∃ R, elR t p sn = R := ⟨_, rfl⟩
  rw [hR]
  simp only [hR] at QP QV QE QT QS
  have b0 := (Below.refl W.heap.size W).alloc (Nat.le_refl _) (.cells #[.string ⟨#[]⟩, .string ⟨#[]⟩] 23)
  have hS0 := hS.of_block (b0.block z hS.lt)
  have X := Aside0.mk (row_calls p hS0 ⟨HT_.out.alloc _⟩ hp (by omega))
  rw [hrow] at X
  simp only [outR, hrc] at X
  have c1 := hS0.cells.2.1
  have HS := Aside0.mk hS
  have HM := Aside0.mk hM
  have HB := Aside0.mk (And.intro hzm hN)
  have HSR := Aside0.mk (And.intro hs hss)
  have HSS := Aside0.mk (show s.size ≤ 140737488351232 by omega)
  have HPP := Aside0.mk (show p ≤ 512 by omega)
  have e0 : (p : Int) + (s.size : Int) = (fr : Int) := by omega
  have e1 : (0 : Int) ≤ (fr : Int) := by omega
  have e2 : (fr : Int) ≤ 100000 := by omega
  have HWA := Aside0.mk (And.intro (wrapJ e0 e1 e2) (wrapK e0 e1 e2))
  clear e0 e1 e2 hS hM hN hzm hp ht hrow hrc hs hss hk hpl hL hMo hL9 hM9 hex hvz hln hfr hval hfl b0 hS0 hR
  go_enter Tryd.func36, Tryd.ntmps36
  go_wp2_with (go_at_call 55; go_loud ((with_reducible refine X.out.mono ?_); rintro e w1 ⟨rfl, hb1⟩; have E1 := ElG.start HS.out HM.out HB.out.1 #[.string s, .int .i64 (L : Int), .int .i64 (M : Int), .int .i64 2, .bool true] hb1; have k2 := E1.sc.cells.2.2.1; have HE1 := Aside0.mk E1; clear E1 hb1))
  clear X
  obtain ⟨pe, hpe⟩ : ∃ pe, putE sn r.ai = pe := ⟨_, rfl⟩
  obtain ⟨sn2, hsn2⟩ : ∃ sn2, putS sn r.ai (p : Int) = sn2 := ⟨_, rfl⟩
  have HP := Aside0.mk (fun (w : World) (hb : Below (w1.alloc (.cells #[.string s, .int .i64 (L : Int), .int .i64 (M : Int), .int .i64 2, .bool true] 51)).heap.size (w1.alloc (.cells #[.string s, .int .i64 (L : Int), .int .i64 (M : Int), .int .i64 2, .bool true] 51)) w) => (show Calls Tryd.prog 47 #[.agg #[.map (some m)], .string s, .int .i64 (p : Int)] w (fun e w' => e = .returned (.int .i64 pe) ∧ ElG W z m w1.heap.size (N + 1) sn2 #[.string s, .int .i64 (L : Int), .int .i64 (M : Int), .int .i64 2, .bool true] t (p : Int) w') from
    (put_calls (HE1.out.below hb).mp (by have := HB.out.2; unfold maxLen; omega) s (by have := HSS.out; unfold maxLen; omega) (p : Int) (wfN p (by have := HPP.out; omega))).mono (by rintro e w' ⟨rfl, q0, q1, q2, q3, q4, q5⟩; rw [HSR.out.1, hsn2] at q0; rw [HSR.out.1, hpe]; exact ⟨rfl, (HE1.out.below hb).put q0 q1 q2 q3 q4 q5⟩)))
  rw [hpe] at QP QV QE QT QS
  have HPE := Aside0.mk hpe
  have HSN := Aside0.mk hsn2
  clear hpe hsn2
  have a0 := HE1.out.cells.1
  have SS := Aside0.mk (And.intro k2 a0)
  go_region_held3 (fun w' => w'.cell? ⟨z, 2, none⟩ = some (.map (some m)) ∧ w'.cell? ⟨w1.heap.size, 0, none⟩ = some (.string s))
    (first | exact SS.out | exact ⟨E3.out.sc.cells.2.2.1, E3.out.cells.1⟩)
    ((go_at_call 47; go_loud (refine (HP.out _ (by repeat (first | exact Below.refl _ _ | apply below_drew | apply pw_below_drewN | apply below_alloc))).mono ?_; rintro e w3 ⟨rfl, e3⟩; have E3 := Aside0.mk e3; clear e3)))
  clear HP SS HM HE1 HS k2 a0 c1
  obtain ⟨r0, r1, r2, r3, r4⟩ := E3.out.cells
  by_cases hp0 : pe = 0
  case neg =>
    have hE := QP.out hp0
    have HE := Aside0.mk hE
    have n0 : (pe != 0) = true := bne_iff_ne.2 hp0
    have n1 : (pe == 0) = false := beq_eq_false_iff_ne.2 hp0
    have X := Aside0.mk (fun w => wrong_calls z pe (p : Int) w)
    clear hE hp0
    go_wp2_with (go_at_call 38; go_loud ((with_reducible refine (X.out _).mono ?_); rintro e w8 ⟨rfl, rfl⟩))
    exact ⟨rfl, by rw [HE.out]; rfl, E3.out.fr, fun r' v p' h => by rw [HE.out] at h; cases h⟩
  case pos =>
    subst hp0
    have HF := Aside0.mk (fun w => form_digits s (L : Int) (M : Int) 2 true w (by decide) (by decide) (by decide))
    have X := Aside0.mk (plain_walk fr L s (M : Int) 2 true E3.out.sc HP5.out.1 (by have := HP5.out.2.1; omega) (by have := HP5.out.2.2.1; omega) (by decide) ⟨fun w => (HF.out w).mono (by rintro e w' ⟨rfl, h⟩; exact ⟨⟨_, _, _, rfl⟩, h⟩)⟩)
    rcases hv : plL t 2 fr L (L + 1) 0 with ⟨c, q⟩ | v
    · have hE := QV.out _ (by simp) hv
      have HE := Aside0.mk hE
      rw [hv] at X
      simp only [outS, faultE] at X
      clear hE hv
      obtain ⟨hw, hw2⟩ := HWA.out
      go_wp2_with (go_at_call 56; go_loud ((with_reducible refine X.out.mono ?_); rintro e w4 ⟨rfl, hb4⟩; have E4 := Aside0.mk (E3.out.below hb4); clear hb4))
      exact ⟨rfl, by rw [HE.out]; rfl, E4.out.fr, fun r' v p' h => by rw [HE.out] at h; cases h⟩
    · rw [hv] at X
      simp only [outS] at X
      have HV := Aside0.mk hv
      obtain ⟨p1, hp1⟩ : ∃ p1, fr + v.size = p1 := ⟨_, rfl⟩
      have hp1b : p1 ≤ t.size := by rw [← hp1]; exact HVZ.out v hv
      have e0 : (fr : Int) + (v.size : Int) = (p1 : Int) := by omega
      have e1 : (0 : Int) ≤ (p1 : Int) := by omega
      have e2 : (p1 : Int) ≤ 100000 := by have := HP5.out.2.2.1; omega
      have HPB := Aside0.mk hp1b
      have HP1 := Aside0.mk hp1
      have XW := Aside0.mk (HWH.out v hv)
      have hw3 := wrapJ e0 e1 e2
      have hw4 := wrapK e0 e1 e2
      obtain ⟨hw, hw2⟩ := HWA.out
      clear hv hp1 hp1b e0 e1 e2
      go_wp2_with (go_at_call 56; go_loud ((with_reducible refine X.out.mono ?_); rintro e w4 ⟨rfl, hb4⟩; have E4 := E3.out.below hb4; have s1 := E4.sc.cells.2.1; have s2 := E4.sc.cells.2.2.2; have E5 := E4.set (p1 : Int); obtain ⟨u0, u1, u2, u3, u4⟩ := E5.cells; have HE5 := Aside0.mk E5; clear E4 E5 hb4))
      clear X r0 r1 r2 r3 r4 hw hw2 hw3 hw4
      have HF := Aside0.mk (fun w => form_digits s (L : Int) (M : Int) 2 true w (by decide) (by decide) (by decide))
      go_wp2_with (go_at_call 51; go_loud ((with_reducible refine (HF.out _).mono ?_); rintro e w6 ⟨rfl, hb6⟩; have E6 := Aside0.mk ((HE5.out.below hb6).below ((Below.refl w6.heap.size w6).alloc (Nat.le_refl _) (.cells #[.func (.func 62) #[] #[], .int .i64 20, .func (.func 65) #[] #[], .int .i64 0, .bool false] 99))); clear hb6))
      clear HF
      have kf : (w6.alloc (.cells #[.func (.func 62) #[] #[], .int .i64 20, .func (.func 65) #[] #[], .int .i64 0, .bool false] 99)).heap[w6.heap.size]? = some (.cells #[.func (.func 62) #[] #[], .int .i64 20, .func (.func 65) #[] #[], .int .i64 0, .bool false] 99 (0, 0)) := heap_alloc_new _ _
      have KF := Aside0.mk kf
      clear kf
      rcases hwq : wholeOf 2 v with _ | _
      · exact absurd hwq (by unfold wholeOf; simp)
      · rw [hwq] at XW
        go_wp2_with (go_at_call 65; go_loud ((with_reducible refine (XW.out _).mono ?_); rintro e w7 ⟨rfl, hb7⟩; have E7 := Aside0.mk (E6.out.below hb7); clear hb7))
        clear XW KF HE5 s1 s2 u0 u1 u2 u3 u4
        obtain ⟨v0, v1, v2, v3, v4⟩ := E7.out.cells
        obtain ⟨y0, y1, y2, y3⟩ := E7.out.sc.cells
        have rbx := E7.out.rb
        have f0 : w7.frozen? ⟨W.heap.size, 0, none⟩ = false := by simp [World.frozen?, rbx]
        have f1 : w7.frozen? ⟨W.heap.size, 1, none⟩ = false := by simp [World.frozen?, rbx]
        have f2 : w7.cell? ⟨W.heap.size, 0, none⟩ = some (.string ⟨#[]⟩) := by simp [World.cell?, rbx]
        have f3 : w7.cell? ⟨W.heap.size, 1, none⟩ = some (.string ⟨#[]⟩) := by simp [World.cell?, rbx]
        have lt7 : W.heap.size < w7.heap.size := (Array.getElem?_eq_some_iff.1 rbx).1
        have ne1 : (z = W.heap.size) = False := eq_false (by have := E7.out.ne; omega)
        have ne2 : (W.heap.size = z) = False := eq_false (by have := E7.out.ne; omega)
        have FZ := Aside0.mk (fun (u : World) (hu : Below w7.heap.size w7 u) => ElG.fin (E7.out.below hu) (.string s) (.string v))
        have FY := Aside0.mk (fun (u : World) (hu : Below w7.heap.size w7 u) => ElG.fin ((E7.out.below hu).set ((p1 + 1 : Nat) : Int)) (.string s) (.string v))
        clear rbx
        have hE := QE.out v (by simp) HV.out hwq (by simp)
        have HE := Aside0.mk hE
        clear hE hwq
        go_wp2
        try go_quiet (fail)
        go_wp2
        refine bodyPost_ret (v := .agg #[.string s, .string v]) (by simp [results, Tryd.results36, go_sem, lt7, f0, f1, f2, f3]) rfl ⟨by rw [HE.out]; simp only [outEl]; rw [HSR.out.2], ?_, ?_⟩
        · exact (FZ.out _ (by repeat (first | exact Below.refl _ _ | apply below_drew | apply pw_below_drewN))).1
        · intro r' v' p' h
          rw [HE.out] at h
          cases h
          rw [HSN.out, HP1.out]
          exact (FZ.out _ (by repeat (first | exact Below.refl _ _ | apply below_drew | apply pw_below_drewN))).2
end Go.Proofs.YtofagdjijpjlgaaDoor.X
set_option linter.unusedVariables false
set_option linter.unusedSimpArgs false
namespace Go.Proofs.YtofagdjijpjlgaaDoor.X
open Go Go.RowKit Go.Proofs.YtofagdjijpjlgaaDoorW.PrintWords Go.Proofs.YtofagdjijpjlgaaDoorW.PrintLast Go.Proofs.YtofagdjijpjlgaaDoorW.PrintMore Go.Proofs.YtofagdjijpjlgaaDoor.PBase
variable {W w w' : World} {z m N : Nat} {sn : Sn} {t : ByteArray}
set_option maxHeartbeats 16000000
set_option maxRecDepth 100000
theorem element_e2 (r : Row5) (s : ByteArray) (L M p : Nat) (hS : ScAt W z t (p : Int) m) (hM : SeenAt W m N sn) (hN : N ≤ 1000) (HT_ : Aside0 (Tab W)) (hzm : z ≠ m) (hp : p ≤ t.size) (ht : t.size ≤ 512)
    (hrow : rowR t p = .ok r) (hrc : (rowC r).toArray = #[.string s, .int .i64 (L : Int), .int .i64 (M : Int), .int .i64 2, .bool false]) (hs : s.data.toList = r.ai) (hss : S r = s) (hk : r.kind = 2) (hpl : r.plain = false) (hL : r.least = (L : Int)) (hMo : r.most = (M : Int)) (hL9 : L ≤ 90) (hM9 : M ≤ 90) (hex : p + s.size ≤ t.size)
    (HWH : Aside0 (∀ v, enR t 2 (p + s.size) L M = .ok v → ∀ w, Calls Tryd.prog 65 #[.string v] w fun e w' => e = .returned (.bool (wholeOf 2 v)) ∧ Below w.heap.size w w'))
    (hvz : ∀ v, enR t 2 (p + s.size) L M = .ok v → p + s.size + v.size ≤ t.size) :
    Calls Tryd.prog 36 #[.pointer (some ⟨z, 0, none⟩)] W fun e w' => e = outEl (elR t p sn) ∧ Two z m W w' ∧ ∀ r' v p', elR t p sn = .ok (r', v, p') → ScAt w' z t (p' : Int) m ∧ SeenAt w' m (N + 1) (putS sn r'.ai (p : Int)) := by
  have hH : ∀ args w, (callFunc 65 args).run Tryd.prog w = .ok (.enter 65 args) w := enters_of Tryd.func65 (by kernel_rfl) rfl
  have hln : r.ai.length = s.size := by rw [← hs, Array.length_toList]; rfl
  obtain ⟨fr, hfr⟩ : ∃ fr, p + s.size = fr := ⟨_, rfl⟩
  have hval : valR t r (p + r.ai.length) = enR t 2 fr L M := by
    unfold valR
    rw [hln, hfr, hpl, hk, hL, hMo]
    simp only [Bool.false_eq_true, if_false, Int.toNat_natCast]
  have hfl : p + r.ai.length = fr := by rw [hln, hfr]
  rw [hfr] at HWH hvz hex
  have HVZ := Aside0.mk hvz
  have HP5 : Aside0 (fr ≤ t.size ∧ L ≤ 90 ∧ t.size ≤ 512 ∧ M ≤ 90) := ⟨hex, hL9, ht, hM9⟩
  have QP := Aside0.mk (fun (h : putE sn r.ai ≠ 0) => elR_put (t := t) hrow h)
  have QV := Aside0.mk (fun (x : Int × Int) (h : putE sn r.ai = 0) (hv : enR t 2 fr L M = .error x) => elR_val (sn := sn) hrow h (hval.trans hv))
  have QE := Aside0.mk (fun (v : ByteArray) (h : putE sn r.ai = 0) (hv : enR t 2 fr L M = .ok v) (hw : wholeOf r.kind v = true) => (elR_end (sn := sn) hrow h (hval.trans hv) hw))
  have QT := Aside0.mk (fun (v : ByteArray) (h : putE sn r.ai = 0) (hv : enR t 2 fr L M = .ok v) (hw : wholeOf r.kind v = true) => (elR_tail (sn := sn) hrow h (hval.trans hv) hw))
  have QS := Aside0.mk (fun (v : ByteArray) (h : putE sn r.ai = 0) (hv : enR t 2 fr L M = .ok v) (hw : wholeOf r.kind v = true) => (elR_sep (sn := sn) hrow h (hval.trans hv) hw))
  rw [hfl] at QE QT QS
  rw [hk] at QE QT QS
  rw [hpl] at QE QT QS
  obtain ⟨R, hR⟩ : ∃ R, elR t p sn = R := ⟨_, rfl⟩
  rw [hR]
  simp only [hR] at QP QV QE QT QS
  have b0 := (Below.refl W.heap.size W).alloc (Nat.le_refl _) (.cells #[.string ⟨#[]⟩, .string ⟨#[]⟩] 23)
  have hS0 := hS.of_block (b0.block z hS.lt)
  have X := Aside0.mk (row_calls p hS0 ⟨HT_.out.alloc _⟩ hp (by omega))
  rw [hrow] at X
  simp only [outR, hrc] at X
  have c1 := hS0.cells.2.1
  have HS := Aside0.mk hS
  have HM := Aside0.mk hM
  have HB := Aside0.mk (And.intro hzm hN)
  have HSR := Aside0.mk (And.intro hs hss)
  have HSS := Aside0.mk (show s.size ≤ 140737488351232 by omega)
  have HPP := Aside0.mk (show p ≤ 512 by omega)
  have e0 : (p : Int) + (s.size : Int) = (fr : Int) := by omega
  have e1 : (0 : Int) ≤ (fr : Int) := by omega
  have e2 : (fr : Int) ≤ 100000 := by omega
  have HWA := Aside0.mk (And.intro (wrapJ e0 e1 e2) (wrapK e0 e1 e2))
  clear e0 e1 e2 hS hM hN hzm hp ht hrow hrc hs hss hk hpl hL hMo hL9 hM9 hex hvz hln hfr hval hfl b0 hS0 hR
  go_enter Tryd.func36, Tryd.ntmps36
  go_wp2_with (go_at_call 55; go_loud ((with_reducible refine X.out.mono ?_); rintro e w1 ⟨rfl, hb1⟩; have E1 := ElG.start HS.out HM.out HB.out.1 #[.string s, .int .i64 (L : Int), .int .i64 (M : Int), .int .i64 2, .bool false] hb1; have k2 := E1.sc.cells.2.2.1; have HE1 := Aside0.mk E1; clear E1 hb1))
  clear X
  obtain ⟨pe, hpe⟩ : ∃ pe, putE sn r.ai = pe := ⟨_, rfl⟩
  obtain ⟨sn2, hsn2⟩ : ∃ sn2, putS sn r.ai (p : Int) = sn2 := ⟨_, rfl⟩
  have HP := Aside0.mk (fun (w : World) (hb : Below (w1.alloc (.cells #[.string s, .int .i64 (L : Int), .int .i64 (M : Int), .int .i64 2, .bool false] 51)).heap.size (w1.alloc (.cells #[.string s, .int .i64 (L : Int), .int .i64 (M : Int), .int .i64 2, .bool false] 51)) w) => (show Calls Tryd.prog 47 #[.agg #[.map (some m)], .string s, .int .i64 (p : Int)] w (fun e w' => e = .returned (.int .i64 pe) ∧ ElG W z m w1.heap.size (N + 1) sn2 #[.string s, .int .i64 (L : Int), .int .i64 (M : Int), .int .i64 2, .bool false] t (p : Int) w') from
    (put_calls (HE1.out.below hb).mp (by have := HB.out.2; unfold maxLen; omega) s (by have := HSS.out; unfold maxLen; omega) (p : Int) (wfN p (by have := HPP.out; omega))).mono (by rintro e w' ⟨rfl, q0, q1, q2, q3, q4, q5⟩; rw [HSR.out.1, hsn2] at q0; rw [HSR.out.1, hpe]; exact ⟨rfl, (HE1.out.below hb).put q0 q1 q2 q3 q4 q5⟩)))
  rw [hpe] at QP QV QE QT QS
  have HPE := Aside0.mk hpe
  have HSN := Aside0.mk hsn2
  clear hpe hsn2
  have a0 := HE1.out.cells.1
  have SS := Aside0.mk (And.intro k2 a0)
  go_region_held3 (fun w' => w'.cell? ⟨z, 2, none⟩ = some (.map (some m)) ∧ w'.cell? ⟨w1.heap.size, 0, none⟩ = some (.string s))
    (first | exact SS.out | exact ⟨E3.out.sc.cells.2.2.1, E3.out.cells.1⟩)
    ((go_at_call 47; go_loud (refine (HP.out _ (by repeat (first | exact Below.refl _ _ | apply below_drew | apply pw_below_drewN | apply below_alloc))).mono ?_; rintro e w3 ⟨rfl, e3⟩; have E3 := Aside0.mk e3; clear e3)))
  clear HP SS HM HE1 HS k2 a0 c1
  obtain ⟨r0, r1, r2, r3, r4⟩ := E3.out.cells
  by_cases hp0 : pe = 0
  case neg =>
    have hE := QP.out hp0
    have HE := Aside0.mk hE
    have n0 : (pe != 0) = true := bne_iff_ne.2 hp0
    have n1 : (pe == 0) = false := beq_eq_false_iff_ne.2 hp0
    have X := Aside0.mk (fun w => wrong_calls z pe (p : Int) w)
    clear hE hp0
    go_wp2_with (go_at_call 38; go_loud ((with_reducible refine (X.out _).mono ?_); rintro e w8 ⟨rfl, rfl⟩))
    exact ⟨rfl, by rw [HE.out]; rfl, E3.out.fr, fun r' v p' h => by rw [HE.out] at h; cases h⟩
  case pos =>
    subst hp0
    have HF := Aside0.mk (fun w => form_digits s (L : Int) (M : Int) 2 false w (by decide) (by decide) (by decide))
    have X := Aside0.mk (ended_digits fr L M s 2 false E3.out.sc HP5.out.1 (by have := HP5.out.2.1; omega) (by have := HP5.out.2.2.2; omega) (by have := HP5.out.2.2.1; omega) (by decide) ⟨fun w => (HF.out w).mono (by rintro e w' ⟨rfl, h⟩; exact ⟨⟨_, _, _, rfl⟩, h⟩)⟩)
    rcases hv : enR t 2 fr L M with ⟨c, q⟩ | v
    · have hE := QV.out _ (by simp) hv
      have HE := Aside0.mk hE
      rw [hv] at X
      simp only [outS, faultE] at X
      clear hE hv
      obtain ⟨hw, hw2⟩ := HWA.out
      go_wp2_with (go_at_call 57; go_loud ((with_reducible refine X.out.mono ?_); rintro e w4 ⟨rfl, hb4⟩; have E4 := Aside0.mk (E3.out.below hb4); clear hb4))
      exact ⟨rfl, by rw [HE.out]; rfl, E4.out.fr, fun r' v p' h => by rw [HE.out] at h; cases h⟩
    · rw [hv] at X
      simp only [outS] at X
      have HV := Aside0.mk hv
      obtain ⟨p1, hp1⟩ : ∃ p1, fr + v.size = p1 := ⟨_, rfl⟩
      have hp1b : p1 ≤ t.size := by rw [← hp1]; exact HVZ.out v hv
      have e0 : (fr : Int) + (v.size : Int) = (p1 : Int) := by omega
      have e1 : (0 : Int) ≤ (p1 : Int) := by omega
      have e2 : (p1 : Int) ≤ 100000 := by have := HP5.out.2.2.1; omega
      have HPB := Aside0.mk hp1b
      have HP1 := Aside0.mk hp1
      have XW := Aside0.mk (HWH.out v hv)
      have hw3 := wrapJ e0 e1 e2
      have hw4 := wrapK e0 e1 e2
      obtain ⟨hw, hw2⟩ := HWA.out
      clear hv hp1 hp1b e0 e1 e2
      go_wp2_with (go_at_call 57; go_loud ((with_reducible refine X.out.mono ?_); rintro e w4 ⟨rfl, hb4⟩; have E4 := E3.out.below hb4; have s1 := E4.sc.cells.2.1; have s2 := E4.sc.cells.2.2.2; have E5 := E4.set (p1 : Int); obtain ⟨u0, u1, u2, u3, u4⟩ := E5.cells; have HE5 := Aside0.mk E5; clear E4 E5 hb4))
      clear X r0 r1 r2 r3 r4 hw hw2 hw3 hw4
      have HF := Aside0.mk (fun w => form_digits s (L : Int) (M : Int) 2 false w (by decide) (by decide) (by decide))
      go_wp2_with (go_at_call 51; go_loud ((with_reducible refine (HF.out _).mono ?_); rintro e w6 ⟨rfl, hb6⟩; have E6 := Aside0.mk ((HE5.out.below hb6).below ((Below.refl w6.heap.size w6).alloc (Nat.le_refl _) (.cells #[.func (.func 62) #[] #[], .int .i64 20, .func (.func 65) #[] #[], .int .i64 0, .bool false] 99))); clear hb6))
      clear HF
      have kf : (w6.alloc (.cells #[.func (.func 62) #[] #[], .int .i64 20, .func (.func 65) #[] #[], .int .i64 0, .bool false] 99)).heap[w6.heap.size]? = some (.cells #[.func (.func 62) #[] #[], .int .i64 20, .func (.func 65) #[] #[], .int .i64 0, .bool false] 99 (0, 0)) := heap_alloc_new _ _
      have KF := Aside0.mk kf
      clear kf
      rcases hwq : wholeOf 2 v with _ | _
      · exact absurd hwq (by unfold wholeOf; simp)
      · rw [hwq] at XW
        go_wp2_with (go_at_call 65; go_loud ((with_reducible refine (XW.out _).mono ?_); rintro e w7 ⟨rfl, hb7⟩; have E7 := Aside0.mk (E6.out.below hb7); clear hb7))
        clear XW KF HE5 s1 s2 u0 u1 u2 u3 u4
        obtain ⟨v0, v1, v2, v3, v4⟩ := E7.out.cells
        obtain ⟨y0, y1, y2, y3⟩ := E7.out.sc.cells
        have rbx := E7.out.rb
        have f0 : w7.frozen? ⟨W.heap.size, 0, none⟩ = false := by simp [World.frozen?, rbx]
        have f1 : w7.frozen? ⟨W.heap.size, 1, none⟩ = false := by simp [World.frozen?, rbx]
        have f2 : w7.cell? ⟨W.heap.size, 0, none⟩ = some (.string ⟨#[]⟩) := by simp [World.cell?, rbx]
        have f3 : w7.cell? ⟨W.heap.size, 1, none⟩ = some (.string ⟨#[]⟩) := by simp [World.cell?, rbx]
        have lt7 : W.heap.size < w7.heap.size := (Array.getElem?_eq_some_iff.1 rbx).1
        have ne1 : (z = W.heap.size) = False := eq_false (by have := E7.out.ne; omega)
        have ne2 : (W.heap.size = z) = False := eq_false (by have := E7.out.ne; omega)
        have FZ := Aside0.mk (fun (u : World) (hu : Below w7.heap.size w7 u) => ElG.fin (E7.out.below hu) (.string s) (.string v))
        have FY := Aside0.mk (fun (u : World) (hu : Below w7.heap.size w7 u) => ElG.fin ((E7.out.below hu).set ((p1 + 1 : Nat) : Int)) (.string s) (.string v))
        clear rbx
        have hpb := HPB.out
        have hts := HP5.out.2.2.1
        by_cases hlt : p1 < t.size
        · have q1 : decide ((p1 : Int) < (t.size : Int)) = true := decide_eq_true (by omega)
          have q2 : decide (p1 < t.size) = true := decide_eq_true hlt
          have e1 : (-1 : Int) ≤ (t.size : Int) - 1 := by omega
          have e2 : (t.size : Int) - 1 ≤ 100000 := by omega
          by_cases hl : p1 + 1 = t.size
          · have hE := QT.out v (by simp) HV.out hwq ⟨by simp, by rw [HP1.out]; exact hlt⟩ (by rw [HP1.out]; exact hl)
            have HE := Aside0.mk hE
            have q3 : ((p1 : Int) == (t.size : Int) - 1) = true := beq_iff_eq.2 (by omega)
            have X := Aside0.mk (fun w => wrong_calls z 4 (p1 : Int) w)
            have hwa := wrapJm (Eq.refl ((t.size : Int) - 1)) e1 e2
            have hwb := wrapKm (Eq.refl ((t.size : Int) - 1)) e1 e2
            clear hE hwq hlt hl hpb hts e1 e2
            go_wp2
            go_quiet (fail)
            go_wp2
            go_quiet (fail)
            go_wp2_with (go_at_call 38; go_loud ((with_reducible refine (X.out _).mono ?_); rintro e w8 ⟨rfl, rfl⟩))
            exact ⟨rfl, by rw [HE.out, HP1.out]; rfl, (E7.out.below (by repeat (first | exact Below.refl _ _ | apply below_drew | apply pw_below_drewN))).fr, fun r' v p' h => by rw [HE.out] at h; cases h⟩
          · have hE := QS.out v (by simp) HV.out hwq ⟨by simp, by rw [HP1.out]; exact hlt⟩ (by rw [HP1.out]; exact hl)
            have HE := Aside0.mk hE
            have q3 : ((p1 : Int) == (t.size : Int) - 1) = false := beq_eq_false_iff_ne.2 (by omega)
            have e3 : (p1 : Int) + 1 = ((p1 + 1 : Nat) : Int) := by omega
            have e4 : (0 : Int) ≤ ((p1 + 1 : Nat) : Int) := by omega
            have e5 : ((p1 + 1 : Nat) : Int) ≤ 100000 := by omega
            have hwa := wrapJm (Eq.refl ((t.size : Int) - 1)) e1 e2
            have hwb := wrapKm (Eq.refl ((t.size : Int) - 1)) e1 e2
            have hwc := wrapJ e3 e4 e5
            have hwd := wrapK e3 e4 e5
            clear hE hwq hlt hl hpb hts e1 e2 e3 e4 e5
            go_wp2
            go_quiet (fail)
            go_wp2
            go_quiet (fail)
            go_wp2
            have RA : ∀ (k : Nat) (q : Value), ((((w7.drewN k).setCell ⟨z, 1, none⟩ q).setCell ⟨W.heap.size, 0, none⟩ (.string s)).setCell ⟨W.heap.size, 1, none⟩ (.string v)).cell? ⟨W.heap.size, 0, none⟩ = some (.string s) := fun k q => (fin2 ((Below.heap_setCell (w7.drewN k) ⟨z, 1, none⟩ q W.heap.size (by have := E7.out.ne; show W.heap.size ≠ z; omega)).trans E7.out.rb) (.string s) (.string v)).1
            have RB : ∀ (k : Nat) (q : Value), ((((w7.drewN k).setCell ⟨z, 1, none⟩ q).setCell ⟨W.heap.size, 0, none⟩ (.string s)).setCell ⟨W.heap.size, 1, none⟩ (.string v)).cell? ⟨W.heap.size, 1, none⟩ = some (.string v) := fun k q => (fin2 ((Below.heap_setCell (w7.drewN k) ⟨z, 1, none⟩ q W.heap.size (by have := E7.out.ne; show W.heap.size ≠ z; omega)).trans E7.out.rb) (.string s) (.string v)).2
            refine bodyPost_ret (v := .agg #[.string s, .string v]) (by simp [results, Tryd.results36, go_sem, RA, RB]) rfl ⟨by rw [HE.out]; simp only [outEl]; rw [HSR.out.2], ?_, ?_⟩
            · exact (FY.out _ (by repeat (first | exact Below.refl _ _ | apply below_drew | apply pw_below_drewN))).1
            · intro r' v' p' h
              rw [HE.out] at h
              cases h
              rw [HSN.out, HP1.out]
              exact (FY.out _ (by repeat (first | exact Below.refl _ _ | apply below_drew | apply pw_below_drewN))).2
        · have hE := QE.out v (by simp) HV.out hwq (by rw [HP1.out]; simp; omega)
          have HE := Aside0.mk hE
          have q1 : decide ((p1 : Int) < (t.size : Int)) = false := decide_eq_false (by omega)
          have q2 : decide (p1 < t.size) = false := decide_eq_false hlt
          clear hE hwq hlt hpb hts
          go_wp2
          go_quiet (fail)
          go_wp2
          refine bodyPost_ret (v := .agg #[.string s, .string v]) (by simp [results, Tryd.results36, go_sem, lt7, f0, f1, f2, f3]) rfl ⟨by rw [HE.out]; simp only [outEl]; rw [HSR.out.2], ?_, ?_⟩
          · exact (FZ.out _ (by repeat (first | exact Below.refl _ _ | apply below_drew | apply pw_below_drewN))).1
          · intro r' v' p' h
            rw [HE.out] at h
            cases h
            rw [HSN.out, HP1.out]
            exact (FZ.out _ (by repeat (first | exact Below.refl _ _ | apply below_drew | apply pw_below_drewN))).2
end Go.Proofs.YtofagdjijpjlgaaDoor.X
set_option linter.unusedVariables false
set_option linter.unusedSimpArgs false
namespace Go.Proofs.YtofagdjijpjlgaaDoor.X
open Go Go.RowKit Go.Proofs.YtofagdjijpjlgaaDoorW.PrintWords Go.Proofs.YtofagdjijpjlgaaDoorW.PrintLast Go.Proofs.YtofagdjijpjlgaaDoorW.PrintMore Go.Proofs.YtofagdjijpjlgaaDoor.PBase
variable {W w w' : World} {z m N : Nat} {sn : Sn} {t : ByteArray}
set_option maxHeartbeats 16000000
set_option maxRecDepth 100000
theorem element_e3 (r : Row5) (s : ByteArray) (L M p : Nat) (hS : ScAt W z t (p : Int) m) (hM : SeenAt W m N sn) (hN : N ≤ 1000) (HT_ : Aside0 (Tab W)) (hzm : z ≠ m) (hp : p ≤ t.size) (ht : t.size ≤ 512)
    (hrow : rowR t p = .ok r) (hrc : (rowC r).toArray = #[.string s, .int .i64 (L : Int), .int .i64 (M : Int), .int .i64 3, .bool false]) (hs : s.data.toList = r.ai) (hss : S r = s) (hk : r.kind = 3) (hpl : r.plain = false) (hL : r.least = (L : Int)) (hMo : r.most = (M : Int)) (hL9 : L ≤ 90) (hM9 : M ≤ 90) (hex : p + s.size ≤ t.size)
    (HWH : Aside0 (∀ v, enR t 3 (p + s.size) L M = .ok v → ∀ w, Calls Tryd.prog 65 #[.string v] w fun e w' => e = .returned (.bool (wholeOf 3 v)) ∧ Below w.heap.size w w'))
    (hvz : ∀ v, enR t 3 (p + s.size) L M = .ok v → p + s.size + v.size ≤ t.size) :
    Calls Tryd.prog 36 #[.pointer (some ⟨z, 0, none⟩)] W fun e w' => e = outEl (elR t p sn) ∧ Two z m W w' ∧ ∀ r' v p', elR t p sn = .ok (r', v, p') → ScAt w' z t (p' : Int) m ∧ SeenAt w' m (N + 1) (putS sn r'.ai (p : Int)) := by
  have hH : ∀ args w, (callFunc 65 args).run Tryd.prog w = .ok (.enter 65 args) w := enters_of Tryd.func65 (by kernel_rfl) rfl
  have hln : r.ai.length = s.size := by rw [← hs, Array.length_toList]; rfl
  obtain ⟨fr, hfr⟩ : ∃ fr, p + s.size = fr := ⟨_, rfl⟩
  have hval : valR t r (p + r.ai.length) = enR t 3 fr L M := by
    unfold valR
    rw [hln, hfr, hpl, hk, hL, hMo]
    simp only [Bool.false_eq_true, if_false, Int.toNat_natCast]
  have hfl : p + r.ai.length = fr := by rw [hln, hfr]
  rw [hfr] at HWH hvz hex
  have HVZ := Aside0.mk hvz
  have HP5 : Aside0 (fr ≤ t.size ∧ L ≤ 90 ∧ t.size ≤ 512 ∧ M ≤ 90) := ⟨hex, hL9, ht, hM9⟩
  have QP := Aside0.mk (fun (h : putE sn r.ai ≠ 0) => elR_put (t := t) hrow h)
  have QV := Aside0.mk (fun (x : Int × Int) (h : putE sn r.ai = 0) (hv : enR t 3 fr L M = .error x) => elR_val (sn := sn) hrow h (hval.trans hv))
  have QE := Aside0.mk (fun (v : ByteArray) (h : putE sn r.ai = 0) (hv : enR t 3 fr L M = .ok v) (hw : wholeOf r.kind v = true) => (elR_end (sn := sn) hrow h (hval.trans hv) hw))
  have QT := Aside0.mk (fun (v : ByteArray) (h : putE sn r.ai = 0) (hv : enR t 3 fr L M = .ok v) (hw : wholeOf r.kind v = true) => (elR_tail (sn := sn) hrow h (hval.trans hv) hw))
  have QS := Aside0.mk (fun (v : ByteArray) (h : putE sn r.ai = 0) (hv : enR t 3 fr L M = .ok v) (hw : wholeOf r.kind v = true) => (elR_sep (sn := sn) hrow h (hval.trans hv) hw))
  rw [hfl] at QE QT QS
  rw [hk] at QE QT QS
  rw [hpl] at QE QT QS
  obtain ⟨R, hR⟩ : ∃ R, elR t p sn = R := ⟨_, rfl⟩
  rw [hR]
  simp only [hR] at QP QV QE QT QS
  have b0 := (Below.refl W.heap.size W).alloc (Nat.le_refl _) (.cells #[.string ⟨#[]⟩, .string ⟨#[]⟩] 23)
  have hS0 := hS.of_block (b0.block z hS.lt)
  have X := Aside0.mk (row_calls p hS0 ⟨HT_.out.alloc _⟩ hp (by omega))
  rw [hrow] at X
  simp only [outR, hrc] at X
  have c1 := hS0.cells.2.1
  have HS := Aside0.mk hS
  have HM := Aside0.mk hM
  have HB := Aside0.mk (And.intro hzm hN)
  have HSR := Aside0.mk (And.intro hs hss)
  have HSS := Aside0.mk (show s.size ≤ 140737488351232 by omega)
  have HPP := Aside0.mk (show p ≤ 512 by omega)
  have e0 : (p : Int) + (s.size : Int) = (fr : Int) := by omega
  have e1 : (0 : Int) ≤ (fr : Int) := by omega
  have e2 : (fr : Int) ≤ 100000 := by omega
  have HWA := Aside0.mk (And.intro (wrapJ e0 e1 e2) (wrapK e0 e1 e2))
  clear e0 e1 e2 hS hM hN hzm hp ht hrow hrc hs hss hk hpl hL hMo hL9 hM9 hex hvz hln hfr hval hfl b0 hS0 hR
  go_enter Tryd.func36, Tryd.ntmps36
  go_wp2_with (go_at_call 55; go_loud ((with_reducible refine X.out.mono ?_); rintro e w1 ⟨rfl, hb1⟩; have E1 := ElG.start HS.out HM.out HB.out.1 #[.string s, .int .i64 (L : Int), .int .i64 (M : Int), .int .i64 3, .bool false] hb1; have k2 := E1.sc.cells.2.2.1; have HE1 := Aside0.mk E1; clear E1 hb1))
  clear X
  obtain ⟨pe, hpe⟩ : ∃ pe, putE sn r.ai = pe := ⟨_, rfl⟩
  obtain ⟨sn2, hsn2⟩ : ∃ sn2, putS sn r.ai (p : Int) = sn2 := ⟨_, rfl⟩
  have HP := Aside0.mk (fun (w : World) (hb : Below (w1.alloc (.cells #[.string s, .int .i64 (L : Int), .int .i64 (M : Int), .int .i64 3, .bool false] 51)).heap.size (w1.alloc (.cells #[.string s, .int .i64 (L : Int), .int .i64 (M : Int), .int .i64 3, .bool false] 51)) w) => (show Calls Tryd.prog 47 #[.agg #[.map (some m)], .string s, .int .i64 (p : Int)] w (fun e w' => e = .returned (.int .i64 pe) ∧ ElG W z m w1.heap.size (N + 1) sn2 #[.string s, .int .i64 (L : Int), .int .i64 (M : Int), .int .i64 3, .bool false] t (p : Int) w') from
    (put_calls (HE1.out.below hb).mp (by have := HB.out.2; unfold maxLen; omega) s (by have := HSS.out; unfold maxLen; omega) (p : Int) (wfN p (by have := HPP.out; omega))).mono (by rintro e w' ⟨rfl, q0, q1, q2, q3, q4, q5⟩; rw [HSR.out.1, hsn2] at q0; rw [HSR.out.1, hpe]; exact ⟨rfl, (HE1.out.below hb).put q0 q1 q2 q3 q4 q5⟩)))
  rw [hpe] at QP QV QE QT QS
  have HPE := Aside0.mk hpe
  have HSN := Aside0.mk hsn2
  clear hpe hsn2
  have a0 := HE1.out.cells.1
  have SS := Aside0.mk (And.intro k2 a0)
  go_region_held3 (fun w' => w'.cell? ⟨z, 2, none⟩ = some (.map (some m)) ∧ w'.cell? ⟨w1.heap.size, 0, none⟩ = some (.string s))
    (first | exact SS.out | exact ⟨E3.out.sc.cells.2.2.1, E3.out.cells.1⟩)
    ((go_at_call 47; go_loud (refine (HP.out _ (by repeat (first | exact Below.refl _ _ | apply below_drew | apply pw_below_drewN | apply below_alloc))).mono ?_; rintro e w3 ⟨rfl, e3⟩; have E3 := Aside0.mk e3; clear e3)))
  clear HP SS HM HE1 HS k2 a0 c1
  obtain ⟨r0, r1, r2, r3, r4⟩ := E3.out.cells
  by_cases hp0 : pe = 0
  case neg =>
    have hE := QP.out hp0
    have HE := Aside0.mk hE
    have n0 : (pe != 0) = true := bne_iff_ne.2 hp0
    have n1 : (pe == 0) = false := beq_eq_false_iff_ne.2 hp0
    have X := Aside0.mk (fun w => wrong_calls z pe (p : Int) w)
    clear hE hp0
    go_wp2_with (go_at_call 38; go_loud ((with_reducible refine (X.out _).mono ?_); rintro e w8 ⟨rfl, rfl⟩))
    exact ⟨rfl, by rw [HE.out]; rfl, E3.out.fr, fun r' v p' h => by rw [HE.out] at h; cases h⟩
  case pos =>
    subst hp0
    have HF := Aside0.mk (fun w => form_chars s (L : Int) (M : Int) 3 false w (by decide) (by decide) (by decide))
    have X := Aside0.mk (ended_chars fr L M s 3 false E3.out.sc HP5.out.1 (by have := HP5.out.2.1; omega) (by have := HP5.out.2.2.2; omega) (by have := HP5.out.2.2.1; omega) (by decide) ⟨fun w => (HF.out w).mono (by rintro e w' ⟨rfl, h⟩; exact ⟨⟨_, _, _, rfl⟩, h⟩)⟩)
    rcases hv : enR t 3 fr L M with ⟨c, q⟩ | v
    · have hE := QV.out _ (by simp) hv
      have HE := Aside0.mk hE
      rw [hv] at X
      simp only [outS, faultE] at X
      clear hE hv
      obtain ⟨hw, hw2⟩ := HWA.out
      go_wp2_with (go_at_call 57; go_loud ((with_reducible refine X.out.mono ?_); rintro e w4 ⟨rfl, hb4⟩; have E4 := Aside0.mk (E3.out.below hb4); clear hb4))
      exact ⟨rfl, by rw [HE.out]; rfl, E4.out.fr, fun r' v p' h => by rw [HE.out] at h; cases h⟩
    · rw [hv] at X
      simp only [outS] at X
      have HV := Aside0.mk hv
      obtain ⟨p1, hp1⟩ : ∃ p1, fr + v.size = p1 := ⟨_, rfl⟩
      have hp1b : p1 ≤ t.size := by rw [← hp1]; exact HVZ.out v hv
      have e0 : (fr : Int) + (v.size : Int) = (p1 : Int) := by omega
      have e1 : (0 : Int) ≤ (p1 : Int) := by omega
      have e2 : (p1 : Int) ≤ 100000 := by have := HP5.out.2.2.1; omega
      have HPB := Aside0.mk hp1b
      have HP1 := Aside0.mk hp1
      have XW := Aside0.mk (HWH.out v hv)
      have hw3 := wrapJ e0 e1 e2
      have hw4 := wrapK e0 e1 e2
      obtain ⟨hw, hw2⟩ := HWA.out
      clear hv hp1 hp1b e0 e1 e2
      go_wp2_with (go_at_call 57; go_loud ((with_reducible refine X.out.mono ?_); rintro e w4 ⟨rfl, hb4⟩; have E4 := E3.out.below hb4; have s1 := E4.sc.cells.2.1; have s2 := E4.sc.cells.2.2.2; have E5 := E4.set (p1 : Int); obtain ⟨u0, u1, u2, u3, u4⟩ := E5.cells; have HE5 := Aside0.mk E5; clear E4 E5 hb4))
      clear X r0 r1 r2 r3 r4 hw hw2 hw3 hw4
      have HF := Aside0.mk (fun w => form_chars s (L : Int) (M : Int) 3 false w (by decide) (by decide) (by decide))
      go_wp2_with (go_at_call 51; go_loud ((with_reducible refine (HF.out _).mono ?_); rintro e w6 ⟨rfl, hb6⟩; have E6 := Aside0.mk ((HE5.out.below hb6).below ((Below.refl w6.heap.size w6).alloc (Nat.le_refl _) (.cells #[.func (.func 66) #[] #[], .int .i64 27, .func (.func 65) #[] #[], .int .i64 0, .bool false] 99))); clear hb6))
      clear HF
      have kf : (w6.alloc (.cells #[.func (.func 66) #[] #[], .int .i64 27, .func (.func 65) #[] #[], .int .i64 0, .bool false] 99)).heap[w6.heap.size]? = some (.cells #[.func (.func 66) #[] #[], .int .i64 27, .func (.func 65) #[] #[], .int .i64 0, .bool false] 99 (0, 0)) := heap_alloc_new _ _
      have KF := Aside0.mk kf
      clear kf
      rcases hwq : wholeOf 3 v with _ | _
      · exact absurd hwq (by unfold wholeOf; simp)
      · rw [hwq] at XW
        go_wp2_with (go_at_call 65; go_loud ((with_reducible refine (XW.out _).mono ?_); rintro e w7 ⟨rfl, hb7⟩; have E7 := Aside0.mk (E6.out.below hb7); clear hb7))
        clear XW KF HE5 s1 s2 u0 u1 u2 u3 u4
        obtain ⟨v0, v1, v2, v3, v4⟩ := E7.out.cells
        obtain ⟨y0, y1, y2, y3⟩ := E7.out.sc.cells
        have rbx := E7.out.rb
        have f0 : w7.frozen? ⟨W.heap.size, 0, none⟩ = false := by simp [World.frozen?, rbx]
        have f1 : w7.frozen? ⟨W.heap.size, 1, none⟩ = false := by simp [World.frozen?, rbx]
        have f2 : w7.cell? ⟨W.heap.size, 0, none⟩ = some (.string ⟨#[]⟩) := by simp [World.cell?, rbx]
        have f3 : w7.cell? ⟨W.heap.size, 1, none⟩ = some (.string ⟨#[]⟩) := by simp [World.cell?, rbx]
        have lt7 : W.heap.size < w7.heap.size := (Array.getElem?_eq_some_iff.1 rbx).1
        have ne1 : (z = W.heap.size) = False := eq_false (by have := E7.out.ne; omega)
        have ne2 : (W.heap.size = z) = False := eq_false (by have := E7.out.ne; omega)
        have FZ := Aside0.mk (fun (u : World) (hu : Below w7.heap.size w7 u) => ElG.fin (E7.out.below hu) (.string s) (.string v))
        have FY := Aside0.mk (fun (u : World) (hu : Below w7.heap.size w7 u) => ElG.fin ((E7.out.below hu).set ((p1 + 1 : Nat) : Int)) (.string s) (.string v))
        clear rbx
        have hpb := HPB.out
        have hts := HP5.out.2.2.1
        by_cases hlt : p1 < t.size
        · have q1 : decide ((p1 : Int) < (t.size : Int)) = true := decide_eq_true (by omega)
          have q2 : decide (p1 < t.size) = true := decide_eq_true hlt
          have e1 : (-1 : Int) ≤ (t.size : Int) - 1 := by omega
          have e2 : (t.size : Int) - 1 ≤ 100000 := by omega
          by_cases hl : p1 + 1 = t.size
          · have hE := QT.out v (by simp) HV.out hwq ⟨by simp, by rw [HP1.out]; exact hlt⟩ (by rw [HP1.out]; exact hl)
            have HE := Aside0.mk hE
            have q3 : ((p1 : Int) == (t.size : Int) - 1) = true := beq_iff_eq.2 (by omega)
            have X := Aside0.mk (fun w => wrong_calls z 4 (p1 : Int) w)
            have hwa := wrapJm (Eq.refl ((t.size : Int) - 1)) e1 e2
            have hwb := wrapKm (Eq.refl ((t.size : Int) - 1)) e1 e2
            clear hE hwq hlt hl hpb hts e1 e2
            go_wp2
            go_quiet (fail)
            go_wp2
            go_quiet (fail)
            go_wp2_with (go_at_call 38; go_loud ((with_reducible refine (X.out _).mono ?_); rintro e w8 ⟨rfl, rfl⟩))
            exact ⟨rfl, by rw [HE.out, HP1.out]; rfl, (E7.out.below (by repeat (first | exact Below.refl _ _ | apply below_drew | apply pw_below_drewN))).fr, fun r' v p' h => by rw [HE.out] at h; cases h⟩
          · have hE := QS.out v (by simp) HV.out hwq ⟨by simp, by rw [HP1.out]; exact hlt⟩ (by rw [HP1.out]; exact hl)
            have HE := Aside0.mk hE
            have q3 : ((p1 : Int) == (t.size : Int) - 1) = false := beq_eq_false_iff_ne.2 (by omega)
            have e3 : (p1 : Int) + 1 = ((p1 + 1 : Nat) : Int) := by omega
            have e4 : (0 : Int) ≤ ((p1 + 1 : Nat) : Int) := by omega
            have e5 : ((p1 + 1 : Nat) : Int) ≤ 100000 := by omega
            have hwa := wrapJm (Eq.refl ((t.size : Int) - 1)) e1 e2
            have hwb := wrapKm (Eq.refl ((t.size : Int) - 1)) e1 e2
            have hwc := wrapJ e3 e4 e5
            have hwd := wrapK e3 e4 e5
            clear hE hwq hlt hl hpb hts e1 e2 e3 e4 e5
            go_wp2
            go_quiet (fail)
            go_wp2
            go_quiet (fail)
            go_wp2
            have RA : ∀ (k : Nat) (q : Value), ((((w7.drewN k).setCell ⟨z, 1, none⟩ q).setCell ⟨W.heap.size, 0, none⟩ (.string s)).setCell ⟨W.heap.size, 1, none⟩ (.string v)).cell? ⟨W.heap.size, 0, none⟩ = some (.string s) := fun k q => (fin2 ((Below.heap_setCell (w7.drewN k) ⟨z, 1, none⟩ q W.heap.size (by have := E7.out.ne; show W.heap.size ≠ z; omega)).trans E7.out.rb) (.string s) (.string v)).1
            have RB : ∀ (k : Nat) (q : Value), ((((w7.drewN k).setCell ⟨z, 1, none⟩ q).setCell ⟨W.heap.size, 0, none⟩ (.string s)).setCell ⟨W.heap.size, 1, none⟩ (.string v)).cell? ⟨W.heap.size, 1, none⟩ = some (.string v) := fun k q => (fin2 ((Below.heap_setCell (w7.drewN k) ⟨z, 1, none⟩ q W.heap.size (by have := E7.out.ne; show W.heap.size ≠ z; omega)).trans E7.out.rb) (.string s) (.string v)).2
            refine bodyPost_ret (v := .agg #[.string s, .string v]) (by simp [results, Tryd.results36, go_sem, RA, RB]) rfl ⟨by rw [HE.out]; simp only [outEl]; rw [HSR.out.2], ?_, ?_⟩
            · exact (FY.out _ (by repeat (first | exact Below.refl _ _ | apply below_drew | apply pw_below_drewN))).1
            · intro r' v' p' h
              rw [HE.out] at h
              cases h
              rw [HSN.out, HP1.out]
              exact (FY.out _ (by repeat (first | exact Below.refl _ _ | apply below_drew | apply pw_below_drewN))).2
        · have hE := QE.out v (by simp) HV.out hwq (by rw [HP1.out]; simp; omega)
          have HE := Aside0.mk hE
          have q1 : decide ((p1 : Int) < (t.size : Int)) = false := decide_eq_false (by omega)
          have q2 : decide (p1 < t.size) = false := decide_eq_false hlt
          clear hE hwq hlt hpb hts
          go_wp2
          go_quiet (fail)
          go_wp2
          refine bodyPost_ret (v := .agg #[.string s, .string v]) (by simp [results, Tryd.results36, go_sem, lt7, f0, f1, f2, f3]) rfl ⟨by rw [HE.out]; simp only [outEl]; rw [HSR.out.2], ?_, ?_⟩
          · exact (FZ.out _ (by repeat (first | exact Below.refl _ _ | apply below_drew | apply pw_below_drewN))).1
          · intro r' v' p' h
            rw [HE.out] at h
            cases h
            rw [HSN.out, HP1.out]
            exact (FZ.out _ (by repeat (first | exact Below.refl _ _ | apply below_drew | apply pw_below_drewN))).2
end Go.Proofs.YtofagdjijpjlgaaDoor.X
