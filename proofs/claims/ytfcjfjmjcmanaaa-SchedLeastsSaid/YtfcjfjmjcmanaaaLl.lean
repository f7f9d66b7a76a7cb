/- SchedLeasts: the law's walk. -/
import Derived.Test.YtfcjfjmjcmanaaaLk
set_option linter.unusedVariables false
namespace Go.Proofs.Ytfcjfjmjcmanaaa.X
open Go.RowKit Go.Proofs.Ytfcjfjmjcmanaaa.PBase Go.Proofs.YtfcjfjmjcmanaaaW.PrintWords Go.Proofs.YtfcjfjmjcmanaaaW.PrintLast Go.Proofs.YtfcjfjmjcmanaaaW.PrintMore
theorem info58 : (Try.prog.info? 58).map (fun i => (i.zero, i.size, i.bytes)) = some (some (.agg #[.int .i64 0, .int .i64 0]), 2, 16) := by kernel_rfl
theorem info3' : (Try.prog.info? 3).map (fun i => (i.zero, i.size, i.bytes)) = some (some (.int .i64 0), 1, 8) := by kernel_rfl
theorem pd_last (ps : List (Int × Int)) {p : Int × Int} {Q : List (Int × Int)} (h : ps ++ [p] = Q) : pd Q (ps.length : Int) = p := by
  unfold pd
  rw [← h, Int.toNat_natCast, List.getD_eq_getElem?_getD, List.getElem?_append_right (Nat.le_refl _)]
  simp
set_option maxRecDepth 100000 in
set_option maxHeartbeats 8000000 in
theorem schedLeasts_walk (A0 : Option Addr) (c0 : Nat) (l : List Int) (A1 : Option Addr) (c1 : Nat) (ps : List (Int × Int)) {W : World} (hr0 : Kd.C (Kd.int .i64) W A0 l.length l) (hc0 : l.length ≤ c0) (hr1 : Kd.C Kp W A1 ps.length ps) (hc1 : ps.length ≤ c1)
    (hl : l.length ≤ 17592186043904) (hp : ps.length ≤ 8796093021952) :
    Calls Try.prog 7 #[.slice A0 l.length c0, .slice A1 ps.length c1] W fun e W' => e = .returned (.bool true) ∧ Below W.heap.size W W' := by
  have cl := lent.calls 20 A0 c0 l (l ++ hnine 0 9) W hr0 hc0 (hlent_eq l hl)
  have HR0 := Aside0.mk hr0
  have HC0 := Aside0.mk hc0
  have HR1 := Aside0.mk hr1
  have HC1' := Aside0.mk hc1
  have HL := Aside0.mk hl
  have HP := Aside0.mk hp
  obtain ⟨L, hL⟩ : ∃ L, (leastOf l ps).1 = L := ⟨_, rfl⟩
  obtain ⟨E, hE⟩ : ∃ E, (leastOf l ps).2 = E := ⟨_, rfl⟩
  have hLl := leastOf_len l ps
  have hpl := fun A c B d w a b e => pl_calls A c l B d ps w a b e
  have hrl := fun A c B d w a b e => rl_calls A c l B d ps w a b e
  rw [hL] at hLl hpl hrl
  rw [hE] at hpl hrl
  have HPL := Aside0.mk hpl
  have HRL := Aside0.mk hrl
  have HSS := Aside0.mk (hsame_self L (by omega))
  obtain ⟨Q, hQ⟩ : ∃ Q, ps ++ [((77 : Int), (78 : Int))] = Q := ⟨_, rfl⟩
  have HQ := Aside0.mk hQ
  have hQl : Q.length = ps.length + 1 := by rw [← hQ]; simp
  have HQL := Aside0.mk hQl
  obtain ⟨i058, hi58, _, hsz58, _⟩ := info_parts info58
  clear hr0 hc0 hr1 hc1 hl hp hLl hL hE hpl hrl hQ hQl
  go_enter Try.func7, Try.ntmps7
  go_wp2_with (first
    | (go_at_call 30; refine cl.mono ?_; rintro e w3 ⟨A, c, rfl, hc, hC, hlc, B3⟩; have HC1 := Aside0.mk hC; have Hc := Aside0.mk hc; have HB3 := Aside0.mk B3; clear hC hc B3 hlc)
    | ((with_reducible refine gate_builtin (b := .append) (xs := #[.tmp 14, .tmp 15]) rfl ?_); at_builtin; refine Kd.R_append_rows Kp (w0 := w3) w3.heap.size rfl (.tmp 14) (.tmp 15) 56 58 (.agg #[.int .i64 0, .int .i64 0]) 16 rfl Try.underlying56 info58 rfl (by decide) (by omega) (.slice none 0 0) ([] : List (Int × Int)) ps _ _ _ (fun _ => True) (fun _ => False) rfl rfl (Kd.R_nil _ _ _ _ (fun _ => True)) (Kd.C_below HR1.out HB3.out) (fun _ _ h => h) (fun _ h => h.elim) (fun _ _ => trivial) (Below.refl _ _) (Nat.le_refl _) (by have := HP.out; simp only [List.length_nil]; omega) ?_; intro v4 w4 ho hb hg hat; have HO4 := Aside0.mk ho; have HB4 := Aside0.mk hb; clear ho hb hg hat)
    | ((with_reducible refine gate_builtin (b := .append) (xs := #[.tmp 17, .tmp 19]) rfl ?_); at_builtin; refine Kd.R_append Kp (w0 := w3) w3.heap.size rfl (.tmp 17) (.tmp 19) 56 58 (.agg #[.int .i64 0, .int .i64 0]) 16 rfl Try.underlying56 info58 rfl (by decide) (by omega) _ _ ((77 : Int), (78 : Int)) [.int .i64 77, .int .i64 78] (fun _ => True) (fun _ => False) rfl rfl ⟨[.int .i64 77], [.int .i64 78], rfl, rfl, rfl⟩ (fun _ hk => hk.elim) (fun _ _ => trivial) HO4.out HB4.out HB4.out.size (by have := HP.out; simp only [List.nil_append]; omega) ?_; intro v5 w5 ho hb hg hat; have hq := ho; rw [List.nil_append, HQ.out] at hq; obtain ⟨A5, c5, rfl⟩ := Kd.R_slice hq; have HO5 := Aside0.mk (Kd.R_reads' hq).2.2; have HC5 := Aside0.mk (Kd.R_reads' hq).2.1; have HB5 := Aside0.mk hb; have hcut := cut_to (P := Try.prog) 56 58 .i64 Try.underlying56 hi58 A5 Q.length c5 (ps.length : Int) (by omega) (by have := HQL.out; omega) HC5.out; rw [Int.toNat_natCast] at hcut; have HCP : Aside0 (Kd.C Kp w5 A5 ps.length ps) := ⟨by have h := Kd.C_take (m := ps.length) HO5.out (by have := HQL.out; omega); rw [← HQ.out, List.take_left'  rfl] at h; exact h⟩; have HCO : Aside0 (Kd.C (Kd.int .i64) w5 A l.length l) := ⟨by have h := Kd.C_take (m := l.length) (Kd.C_below HC1.out HB5.out) (by simp); simpa using h⟩; clear ho hb hg hat hq)
    | (go_at_call 36; refine (HPL.out A c A5 c5 w5 HCO.out (by have := Hc.out; simp at this; omega) HCP.out).mono ?_; rintro e w6 ⟨A6, c6, rfl, hc6, hC6, B6⟩; have HC6 := Aside0.mk hC6; have Hc6 := Aside0.mk hc6; have HB6 := Aside0.mk B6; clear hc6 hC6 B6)
    | (go_at_call 37; have HR6 := Aside0.mk (below_step (below_step HB3.out HB5.out) HB6.out); refine (HRL.out A0 c0 A1 c1 w6 (Kd.C_below HR0.out HR6.out) HC0.out (Kd.C_below HR1.out HR6.out)).mono ?_; rintro e w7 ⟨A7, c7, rfl, hc7, hC7, B7⟩; have HC7 := Aside0.mk hC7; have Hc7 := Aside0.mk hc7; have HB7 := Aside0.mk B7; clear hc7 hC7 B7)
    | (go_at_call 24; refine (larderlaw07_same.calls (L.length + 2) A6 c6 L A7 c7 L true w7 (Kd.C_below HC6.out HB7.out) Hc6.out HC7.out Hc7.out HSS.out).mono ?_; rintro e w8 ⟨rfl, ⟨m8, rfl⟩⟩)
    | (go_at_call 33; refine (kept_calls (l.length + 20) A c (l ++ hnine 0 9) A0 c0 l true (w7.drewN m8) (Kd.C_drewN (Kd.C_below HC1.out (below_step (below_step HB5.out HB6.out) HB7.out)) m8) Hc.out (Kd.C_drewN (Kd.C_below HR0.out (below_step HR6.out HB7.out)) m8) HC0.out (by simp [hnine]) (by have := HL.out; omega) (hkept_loop l HL.out (l.length + 9) 0 _ (by omega) (by omega))).mono ?_; rintro e w9 ⟨rfl, ⟨m9, rfl⟩⟩; obtain ⟨ad, e5, hpa⟩ := at_pair (Kd.C_below HO5.out (below_step HB6.out HB7.out)) (ps.length : Int) (by omega) (by have := HQL.out; omega); subst e5; have hpd : pd Q (ps.length : Int) = (77, 78) := pd_last ps HQ.out; rw [hpd, Int.toNat_natCast] at hpa; obtain ⟨hc1, hc3⟩ := hpa; have hc2 : w7.cell? ((ad.add (ps.length * 2)).add 1) = some (.int .i64 78) := (by rw [add_add, add_next]; exact hc3); have hlq : ps.length < Q.length := (by have := HQL.out; omega); replace hlq := eq_true hlq; clear hpd))
  have HQ7 := Aside0.mk (Kd.C_below HO5.out (below_step HB6.out HB7.out))
  have HR7 := Aside0.mk (Kd.C_below HR1.out (below_step HR6.out HB7.out))
  have HBE := Aside0.mk (below_step HR6.out HB7.out)
  clear hc1 hc2 hc3 hlq hcut
  go_loopw [11] (fun p wr => ∃ i : Int, p = .int .i64 i ∧ Aside0 (0 ≤ i ∧ i ≤ (ps.length : Int)) ∧ Drawn0 w7 wr) (fun p _ => ((ps.length : Int) - intOf p).toNat)
  case atStart => exact ⟨0, rfl, ⟨by omega⟩, ⟨_, rfl⟩⟩
  case round =>
    obtain ⟨i, rfl, Hi, ⟨m, rfl⟩⟩ := hrel
    by_cases hlt : i < (ps.length : Int)
    · have p0 : 0 ≤ i := Hi.out.1
      have hltb : decide (i < (ps.length : Int)) = true := decide_eq_true hlt
      have hlq : i < (Q.length : Int) := by have := HQL.out; omega
      obtain ⟨ad2, e2, hpa⟩ := at_pair HQ7.out i p0 hlq
      obtain rfl : ad = ad2 := by injection e2
      obtain ⟨ad1, rfl, hpb⟩ := at_pair HR7.out i p0 hlt
      have hpq : pd Q i = pd ps i := by
        unfold pd
        rw [← HQ.out, List.getD_eq_getElem?_getD, List.getD_eq_getElem?_getD, List.getElem?_append_left (by omega)]
      rw [hpq] at hpa
      obtain ⟨⟨x, y⟩, hx⟩ : ∃ x, pd ps i = x := ⟨_, rfl⟩
      rw [hx] at hpa hpb
      obtain ⟨hc1, hc3⟩ := hpa
      obtain ⟨hd1, hd3⟩ := hpb
      have hc2 : w7.cell? ((ad.add (i.toNat * 2)).add 1) = some (.int .i64 y) := by rw [add_add, add_next]; exact hc3
      have hd2 : w7.cell? ((ad1.add (i.toNat * 2)).add 1) = some (.int .i64 y) := by rw [add_add, add_next]; exact hd3
      have hw1 : wrap64 (i + 1) = i + 1 := hwrId (by omega) (by have := HP.out; omega)
      have HI := Aside0.mk (show 0 ≤ i ∧ i < (ps.length : Int) from ⟨p0, hlt⟩)
      replace p0 := eq_true p0
      replace hlt := eq_true hlt
      replace hlq := eq_true hlq
      clear hx hpq e2 Hi
      go_wp2
      go_quiet (fail)
      go_wp2
      exact ⟨⟨wrap64 (i + 1), rfl, ⟨by rw [hw1]; have := HI.out; omega⟩, ⟨_, rfl⟩⟩, by rw [hw1]; simp only [intOf]; have := HI.out; omega⟩
    · have hltb : decide (i < (ps.length : Int)) = false := decide_eq_false hlt
      clear hlt Hi
      go_wp2
      go_ret
      exact ⟨rfl, pw_below_drewN HBE.out m⟩
end Go.Proofs.Ytfcjfjmjcmanaaa.X
