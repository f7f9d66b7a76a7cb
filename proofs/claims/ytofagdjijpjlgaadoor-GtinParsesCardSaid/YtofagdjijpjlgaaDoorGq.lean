/- gtin: what the scanner reads, in plain words. gtin: strings.Cut at the byte 29. gtin: the scanner's row, whole. gtin: the scanner's plain, whole. gtin: the scanner's ended, whole. gtin: the scanner's element: its states; the model's steps. -/
import Derived.Test.YtofagdjijpjlgaaDoorZcq
import Derived.Test.YtofagdjijpjlgaaDoorBbq
import Derived.Test.YtofagdjijpjlgaaDoorXyq
import Derived.Test.YtofagdjijpjlgaaDoorXp
import Derived.Test.YtofagdjijpjlgaaDoorXxq
import Derived.Deep.RegionHeld3
set_option linter.unusedVariables false
set_option linter.unusedSimpArgs false
namespace Go.Proofs.YtofagdjijpjlgaaDoor.X
open Go Go.RowKit Go.Proofs.YtofagdjijpjlgaaDoorW.PrintWords Go.Proofs.YtofagdjijpjlgaaDoorW.PrintLast Go.Proofs.YtofagdjijpjlgaaDoorW.PrintMore Go.Proofs.YtofagdjijpjlgaaDoor.PBase
/-- A fault's code and place, or what was read. -/
abbrev Fl := Except (Int × Int)
def faultE (c q : Int) : Ending := .panicked [{ v := faultV c q, recovered := false }]
def outS : Fl ByteArray → Ending
  | .ok v => .returned (.string v)
  | .error (c, q) => faultE c q
def outR : Fl Row5 → Ending
  | .ok r => .returned (.agg (rowC r).toArray)
  | .error (c, q) => faultE c q
/-- Does a row from place i on have an Ai that begins with this text? -/
def shortFrom (rest : List UInt8) : Nat → Nat → Bool
  | 0, _ => false
  | f + 1, i => if i < 39 then (if Lib.hasPrefix (rowAt i).ai rest = true then true else shortFrom rest f (i + 1)) else false
def restOf (t : ByteArray) (p : Nat) : List UInt8 := (t.extract p t.size).data.toList
def rowR (t : ByteArray) (p : Nat) : Fl Row5 :=
  match prefFrom (restOf t p) 40 0 with
  | some r => .ok r
  | none => if shortFrom (restOf t p) 40 0 = true then .error (3, (t.size : Int)) else .error (23, (p : Int))
def mayOf (kd : Int) (c : Int) : Bool := if kd = 3 then isC c else isD c
def wrongOf (kd : Int) : Int := if kd = 3 then 27 else 20
/-- A value of one length. -/
def plL (t : ByteArray) (kd : Int) (fr l : Nat) : Nat → Nat → Fl ByteArray
  | 0, _ => .ok (t.extract fr (fr + l))
  | f + 1, i => if i < l then (if t.size ≤ fr + i then .error (3, (t.size : Int)) else if mayOf kd (bt t ((fr + i : Nat) : Int)) = true then plL t kd fr l f (i + 1) else .error (wrongOf kd, ((fr + i : Nat) : Int))) else .ok (t.extract fr (fr + l))
/-- A value that is ended. -/
def enL (v : ByteArray) (kd : Int) (fr l m : Nat) : Nat → Nat → Fl ByteArray
  | 0, _ => .ok v
  | f + 1, i => if i < v.size then (if m ≤ i then .error (26, ((fr + i : Nat) : Int)) else if mayOf kd (bt v (i : Int)) = true then enL v kd fr l m f (i + 1) else .error (wrongOf kd, ((fr + i : Nat) : Int))) else if v.size < l then .error (3, ((fr + v.size : Nat) : Int)) else .ok v
def cutV (t : ByteArray) (p : Nat) : ByteArray := ⟨((restOf t p).takeWhile (fun c => c != 29)).toArray⟩
def enR (t : ByteArray) (kd : Int) (fr l m : Nat) : Fl ByteArray := if (cutV t fr).size = 0 then .error (3, (fr : Int)) else enL (cutV t fr) kd fr l m ((cutV t fr).size + 1) 0
def valR (t : ByteArray) (r : Row5) (fr : Nat) : Fl ByteArray := if r.plain = true then plL t r.kind fr r.least.toNat (r.least.toNat + 1) 0 else enR t r.kind fr r.least.toNat r.most.toNat
/-- Is the value what its kind wants? -/
def wholeOf (kd : Int) (v : ByteArray) : Bool := if kd = 0 then (gtin_sound.f 200 v).getD false else if kd = 1 then (gtin_isDay.f v).getD false else true
def elR (t : ByteArray) (p : Nat) (sn : Sn) : Fl (Row5 × ByteArray × Nat) :=
  match rowR t p with
  | .error x => .error x
  | .ok r => if putE sn r.ai = 0 then
      (match valR t r (p + r.ai.length) with
      | .error x => .error x
      | .ok v => if wholeOf r.kind v = true then
          (if r.plain = false ∧ p + r.ai.length + v.size < t.size then
            (if p + r.ai.length + v.size + 1 = t.size then .error (4, ((p + r.ai.length + v.size : Nat) : Int)) else .ok (r, v, p + r.ai.length + v.size + 1))
          else .ok (r, v, p + r.ai.length + v.size))
        else if r.kind = 0 then .error (22, ((p + r.ai.length + v.size : Nat) : Int) - 1) else .error (28, ((p + r.ai.length : Nat) : Int)))
    else .error (putE sn r.ai, (p : Int))
end Go.Proofs.YtofagdjijpjlgaaDoor.X
set_option linter.unusedVariables false
set_option linter.unusedSimpArgs false
namespace Go.Proofs.YtofagdjijpjlgaaDoor.X
open Go Go.RowKit Go.Proofs.YtofagdjijpjlgaaDoorW.PrintWords Go.Proofs.YtofagdjijpjlgaaDoorW.PrintLast Go.Proofs.YtofagdjijpjlgaaDoorW.PrintMore Go.Proofs.YtofagdjijpjlgaaDoor.PBase
theorem indexByte_take (c : UInt8) : ∀ l : List UInt8, (Lib.indexByte l c = -1 ∧ l.takeWhile (fun x => x != c) = l) ∨ ∃ i : Nat, i < l.length ∧ Lib.indexByte l c = i ∧ l.takeWhile (fun x => x != c) = l.take i
  | [] => .inl ⟨rfl, rfl⟩
  | b :: l => by
    by_cases h : b = c
    · exact .inr ⟨0, by simp, by simp [Lib.indexByte, h], by simp [h]⟩
    · rcases indexByte_take c l with ⟨h1, h2⟩ | ⟨i, h0, h1, h2⟩
      · exact .inl ⟨by simp [Lib.indexByte, h, h1], by simp [h, h2]⟩
      · refine .inr ⟨i + 1, by simpa using h0, ?_, by simp [h, h2]⟩
        have hi : ((i : Int) == -1) = false := by rw [beq_eq_false_iff_ne]; omega
        simp [Lib.indexByte, h, h1, hi]
theorem index_one (s : ByteArray) (w : World) : Calls Tryd.prog 77 #[.string s, .string ⟨#[29]⟩] w fun e w' => e = .returned (.int .i64 (Lib.indexByte s.data.toList 29)) ∧ w' = w :=
  Any.stringslite_Index_one (P := Tryd.prog) (ρ := Tryd.lays145_ren) { Tryd.lays145 with } s 29 w
set_option maxHeartbeats 2000000
set_option maxRecDepth 100000
theorem cut1 (s : ByteArray) (w : World) (hs : s.size ≤ 140737488351232) : Calls Tryd.prog 75 #[.string s, .string ⟨#[29]⟩] w fun e w' => (∃ x y, e = .returned (.tuple #[.string ⟨(s.data.toList.takeWhile (fun c => c != 29)).toArray⟩, .string x, .bool y])) ∧ ∃ n, w' = w.drewN n := by
  have X := index_one s
  rcases indexByte_take 29 s.data.toList with ⟨h1, h2⟩ | ⟨i, h0, h1, h2⟩
  · rw [h2]
    simp only [h1] at X
    have X := Aside0.mk X
    have e0 : (⟨s.data.toList.toArray⟩ : ByteArray) = s := by cases s; simp
    rw [e0]
    go_enter Tryd.func75, Tryd.ntmps75
    go_wp2_with (go_at_call 77; refine (X.out _).mono ?_; rintro e w' ⟨rfl, rfl⟩)
    go_ret3
    exact ⟨⟨_, _, rfl⟩, 0, rfl⟩
  · have h0 : i < s.size := by rw [Array.length_toList] at h0; exact h0
    rw [h2]
    simp only [h1] at X
    have X := Aside0.mk X
    have e0 : (⟨(s.data.toList.take i).toArray⟩ : ByteArray) = s.extract 0 i := by
      apply ByteArray.ext
      apply Array.toList_inj.1
      simp [List.extract_eq_take_drop]
    rw [e0]
    have c0 : ((0 : Int) ≤ (i : Int)) = True := eq_true (by omega)
    have c1 : ((i : Int) ≤ (s.size : Int)) = True := eq_true (by omega)
    have c2 : ((i : Int) + 1 ≤ (s.size : Int)) = True := eq_true (by omega)
    have c3 : ((0 : Int) ≤ (i : Int) + 1) = True := eq_true (by omega)
    have c4 : decide ((i : Int) < 0) = false := decide_eq_false (by omega)
    have c5 : (i ≤ s.size) = True := eq_true (by omega)
    have c6 : (i < s.size) = True := eq_true (by omega)
    have c7 : (i + 1 ≤ s.size) = True := eq_true (by omega)
    have c8 : wrap64 ((i : Int) + 1) = (i : Int) + 1 := wrap_id (by omega) (by omega)
    have c9 : IntKind.i64.wrap ((i : Int) + 1) = (i : Int) + 1 := by rw [IntKind.wrap_i64]; omega
    clear h0 h1 h2 e0
    go_enter Tryd.func75, Tryd.ntmps75
    go_wp2_with (go_at_call 77; refine (X.out _).mono ?_; rintro e w' ⟨rfl, rfl⟩)
    go_quiet (fail)
    go_wp2
    go_ret3
    exact ⟨⟨_, _, rfl⟩, _, rfl⟩
theorem cut29 (s : ByteArray) (w : World) (hs : s.size ≤ 140737488351232) : Calls Tryd.prog 69 #[.string s, .string ⟨#[29]⟩] w fun e w' => (∃ x y, e = .returned (.tuple #[.string ⟨(s.data.toList.takeWhile (fun c => c != 29)).toArray⟩, .string x, .bool y])) ∧ ∃ n, w' = w.drewN n := by
  have X := Aside0.mk (fun w => cut1 s w hs)
  go_enter Tryd.func69, Tryd.ntmps69
  go_wp2_with (go_at_call 75; refine (X.out _).mono ?_; rintro e w' ⟨⟨x, y, rfl⟩, n, rfl⟩)
  go_ret3
  exact ⟨⟨_, _, rfl⟩, _, rfl⟩
end Go.Proofs.YtofagdjijpjlgaaDoor.X
set_option linter.unusedVariables false
set_option linter.unusedSimpArgs false
namespace Go.Proofs.YtofagdjijpjlgaaDoor.X
open Go Go.RowKit Go.Proofs.YtofagdjijpjlgaaDoorW.PrintWords Go.Proofs.YtofagdjijpjlgaaDoorW.PrintLast Go.Proofs.YtofagdjijpjlgaaDoorW.PrintMore
def rowO (A : Option Row5) (B : Bool) (n p : Int) : Ending := match A with
  | some r => .returned (.agg (rowC r).toArray)
  | none => if B = true then faultE 3 n else faultE 23 p
theorem rowO_is (t : ByteArray) (p : Nat) : rowO (prefFrom (restOf t p) 40 0) (shortFrom (restOf t p) 40 0) (t.size : Int) (p : Int) = outR (rowR t p) := by
  unfold rowR rowO
  cases prefFrom (restOf t p) 40 0 with
  | some r => rfl
  | none =>
    simp only
    split <;> rfl
variable {W W' : World} {z m N : Nat} {t : ByteArray}
set_option maxHeartbeats 8000000
set_option maxRecDepth 100000
theorem row_walk (p : Nat) (hS : ScAt W z t (p : Int) m) (HT_ : Aside0 (Tab W)) (hp : p ≤ t.size) (ht : t.size ≤ 140737488351232) :
    Calls Tryd.prog 55 #[.pointer (some ⟨z, 0, none⟩)] W fun e w' => e = rowO (prefFrom (restOf t p) 40 0) (shortFrom (restOf t p) 40 0) (t.size : Int) (p : Int) ∧ Below W.heap.size W w' := by
  obtain ⟨c0, c1, _, _⟩ := (hS.of_block (W' := W.alloc (.cells #[.string ⟨#[]⟩, .int .i64 0, .int .i64 0, .int .i64 0, .bool false] 51)) (Below.heap_alloc _ _ _ hS.lt)).cells
  have HSC := Aside0.mk hS
  unfold restOf
  obtain ⟨Rt, hRt⟩ : ∃ Rt, t.extract p t.size = Rt := ⟨_, rfl⟩
  rw [hRt]
  obtain ⟨A, hA⟩ : ∃ A, prefFrom Rt.data.toList 40 0 = A := ⟨_, rfl⟩
  obtain ⟨B, hB⟩ : ∃ B, shortFrom Rt.data.toList 40 0 = B := ⟨_, rfl⟩
  rw [hA, hB]
  obtain ⟨E, hE⟩ : ∃ E, rowO A B (t.size : Int) (p : Int) = E := ⟨_, rfl⟩
  rw [hE]
  have HF := Aside0.mk hA
  have HG := Aside0.mk hB
  have HE := Aside0.mk hE
  clear hA hB hE hS
  have g0 : ((0 : Int) ≤ (t.size : Int)) = True := eq_true (by omega)
  have g1 : ((p : Int) ≤ (t.size : Int)) = True := eq_true (by omega)
  have g2 : (p ≤ t.size) = True := eq_true hp
  have g3 : ((0 : Int) ≤ (p : Int)) = True := eq_true (by omega)
  obtain ⟨tg, hT0⟩ := HT_.out.out
  have hlt : 0 < W.heap.size := (Array.getElem?_eq_some_iff.1 hT0).1
  obtain ⟨T, hTT⟩ : ∃ T, tabCells = T := ⟨_, rfl⟩
  have hidx := tab_index
  have hsz : (Tryd.prog.info? 97).map (·.size) = some T.size := by rw [← hTT, tab_size]; exact info97
  rw [hTT] at hT0 hidx
  have HI := Aside0.mk hidx
  have HSZ := Aside0.mk hsz
  clear hidx hTT
  go_enter Tryd.func55, Tryd.ntmps55
  go_wp2
  go_quiet (fail)
  clear c0 c1
  obtain ⟨w1, hw1⟩ : ∃ w1, (W.alloc (.cells #[.string ⟨#[]⟩, .int .i64 0, .int .i64 0, .int .i64 0, .bool false] 51)).drewN nq = w1 := ⟨_, rfl⟩
  have hb1 : Below W.heap.size W w1 := by rw [← hw1]; exact pw_below_drewN ((Below.refl _ _).alloc (Nat.le_refl _) _) _
  have hz1 : w1.heap.size = W.heap.size + 1 := by rw [← hw1]; simp
  have hc1 : w1.heap[W.heap.size]? = some (.cells #[.string ⟨#[]⟩, .int .i64 0, .int .i64 0, .int .i64 0, .bool false] 51 (0, 0)) := by rw [← hw1]; exact heap_alloc_new W _
  have hT1 : w1.heap[0]? = some (.cells T tg (0, 0)) := (hb1.block 0 hlt).trans hT0
  rw [hw1]
  go_wp2_with (refine wpList_load_row rfl 97 _ rfl 0 rfl tg T (0, 0) _ hT1 Tryd.underlying97 rfl hsz ?_)
  have HT1 := Aside0.mk hT1
  clear hT0 hsz hT1
  have HB1 := Aside0.mk hb1
  have HZ1 := Aside0.mk hz1
  have HC1 := Aside0.mk hc1
  have HLT := Aside0.mk hlt
  clear hb1 hz1 hc1 hw1 hlt
  go_loopw [5, 18] (fun v5 v18 wr => ∃ i : Nat, v18 = .int .i64 (i : Int) ∧ i ≤ 39 ∧ Aside0 (prefFrom Rt.data.toList (40 - i) i = A) ∧ Aside0 (Below w1.heap.size w1 wr)) (fun _ v18 _ => 39 - (intOf v18).toNat)
  case atStart => exact ⟨0, rfl, by omega, HF, ⟨Below.refl _ _⟩⟩
  case round =>
    obtain ⟨i, rfl, hi, HF1, HB⟩ := hrel
    clear HF
    have hbb := HB.out
    have hsz := hbb.size
    have hz1 := HZ1.out
    have hcell := (hbb.block W.heap.size (by omega)).trans HC1.out
    have hlt2 : W.heap.size < wr.heap.size := by omega
    have q0 : wr.cell? ⟨W.heap.size, 0, none⟩ = some (.string ⟨#[]⟩) := by simp [World.cell?, hcell]
    have q1 : wr.cell? ⟨W.heap.size, 1, none⟩ = some (.int .i64 0) := by simp [World.cell?, hcell]
    have q2 : wr.cell? ⟨W.heap.size, 2, none⟩ = some (.int .i64 0) := by simp [World.cell?, hcell]
    have q3 : wr.cell? ⟨W.heap.size, 3, none⟩ = some (.int .i64 0) := by simp [World.cell?, hcell]
    have q4 : wr.cell? ⟨W.heap.size, 4, none⟩ = some (.bool false) := by simp [World.cell?, hcell]
    have p0 : wr.frozen? ⟨W.heap.size, 0, none⟩ = false := by simp [World.frozen?, hcell]
    have p1 : wr.frozen? ⟨W.heap.size, 1, none⟩ = false := by simp [World.frozen?, hcell]
    have p2 : wr.frozen? ⟨W.heap.size, 2, none⟩ = false := by simp [World.frozen?, hcell]
    have p3 : wr.frozen? ⟨W.heap.size, 3, none⟩ = false := by simp [World.frozen?, hcell]
    have p4 : wr.frozen? ⟨W.heap.size, 4, none⟩ = false := by simp [World.frozen?, hcell]
    clear hsz hz1 hcell
    by_cases hlt9 : i < 39
    · clear hbb
      have hix := HI.out i hlt9
      obtain ⟨r, hr⟩ : ∃ r, rowAt i = r := ⟨_, rfl⟩
      have hff : prefFrom Rt.data.toList (40 - i) i = if Lib.hasPrefix Rt.data.toList r.ai = true then some r else prefFrom Rt.data.toList (40 - (i + 1)) (i + 1) := by
        rw [show 40 - i = (40 - (i + 1)) + 1 from by omega]
        simp only [prefFrom]
        rw [if_pos hlt9, hr]
      rw [hr] at hix
      obtain ⟨s, hs⟩ : ∃ s, S r = s := ⟨_, rfl⟩
      obtain ⟨l, hl⟩ : ∃ l, r.least = l := ⟨_, rfl⟩
      obtain ⟨mm, hm⟩ : ∃ l, r.most = l := ⟨_, rfl⟩
      obtain ⟨kk, hk⟩ : ∃ l, r.kind = l := ⟨_, rfl⟩
      obtain ⟨b, hb⟩ : ∃ l, r.plain = l := ⟨_, rfl⟩
      have hrc : (rowC r).toArray = #[.string s, .int .i64 l, .int .i64 mm, .int .i64 kk, .bool b] := by rw [← hs, ← hl, ← hm, ← hk, ← hb]; rfl
      rw [hrc] at hix
      have hsa : s.data.toList = r.ai := by rw [← hs]; rfl
      obtain ⟨q, hq⟩ : ∃ q, Lib.hasPrefix Rt.data.toList r.ai = q := ⟨_, rfl⟩
      have HP := Aside0.mk (fun (w : World) => (Tryd.strings_HasPrefix Rt s w))
      rw [hsa, hq] at HP
      cases q
      · have hF := HF1.out
        rw [hff, if_neg (by rw [hq]; simp)] at hF
        have HF2 := Aside0.mk hF
        clear hrc hff hs hl hm hk hb hr hq HF1 hF hsa
        have hlt9b : decide ((i : Int) < 39) = true := decide_eq_true (by omega)
        have hi1 : i + 1 ≤ 39 := by omega
        have HLE : Aside0 (w1.heap.size ≤ wr.heap.size) := ⟨HB.out.size⟩
        clear hi hlt9 q0 q1 q2 q3 q4 p0 p1 p2 p3 p4
        go_wp2_with (go_at_call 68; refine (HP.out _).mono ?_; rintro e w3 ⟨rfl, rfl⟩)
        go_roundw
        case rel => exact ⟨i + 1, by go_num, hi1, HF2, ⟨by repeat (first | exact HB.out | refine Below.setCell ?_ (by have := HLE.out; simp; omega) _ | refine Below.alloc ?_ (by have := HLE.out; simp; omega) _)⟩⟩
        case measure => simp [intOf]; omega
      · have hF := HF1.out
        rw [hff, if_pos hq] at hF
        have hE := HE.out
        rw [← hF] at hE
        simp only [rowO] at hE
        rw [hrc] at hE
        have HVV := Aside0.mk hE
        clear hE hrc hff hs hl hm hk hb hr hq HF1 hsa hF
        have hlt9b : decide ((i : Int) < 39) = true := decide_eq_true (by omega)
        clear hi hlt9
        have HBW : Aside0 (Below W.heap.size W wr) := ⟨HB1.out.trans (HB.out.mono (by have := HZ1.out; omega))⟩
        have HLE : Aside0 (W.heap.size ≤ wr.heap.size) := ⟨by omega⟩
        go_wp2_with (go_at_call 68; refine (HP.out _).mono ?_; rintro e w3 ⟨rfl, rfl⟩)
        refine bodyPost_ret (v := .agg #[.string s, .int .i64 l, .int .i64 mm, .int .i64 kk, .bool b]) (by simp [results, Tryd.results55, go_sem, q0, q1, q2, q3, q4, hlt2]) rfl ⟨HVV.out, ?_⟩
        repeat (first | exact HBW.out | refine Below.setCell ?_ (show W.heap.size ≤ W.heap.size from Nat.le_refl _) _ | refine Below.alloc ?_ (by have := HLE.out; simp; omega) _)
    · have hie : i = 39 := by omega
      subst hie
      have hN : none = A := HF1.out
      have hE := HE.out
      rw [← hN] at hE
      simp only [rowO] at hE
      have HE2 := Aside0.mk hE
      clear hE hN HF1 hlt9 hi q0 q1 q2 q3 q4 p0 p1 p2 p3 p4 hlt2 HE
      have hT2 : wr.heap[0]? = some (.cells T tg (0, 0)) := (hbb.block 0 (by have := HLT.out; have := HZ1.out; omega)).trans HT1.out
      have hsz := HSZ.out
      have HBW : Aside0 (Below W.heap.size W wr) := ⟨HB1.out.trans (hbb.mono (by have := HZ1.out; omega))⟩
      clear hbb
      go_wp2_with (refine wpList_load_row rfl 97 _ rfl 0 rfl tg T (0, 0) _ hT2 Tryd.underlying97 rfl hsz ?_)
      clear hsz hT2
      go_loopw [7, 28] (fun v7 v28 wq => ∃ i : Nat, v28 = .int .i64 (i : Int) ∧ i ≤ 39 ∧ Aside0 (shortFrom Rt.data.toList (40 - i) i = B) ∧ Aside0 (Below W.heap.size W wq)) (fun _ v28 _ => 39 - (intOf v28).toNat)
      case atStart => exact ⟨0, rfl, by omega, HG, ⟨by repeat (first | exact HBW.out | apply below_drew | apply pw_below_drewN)⟩⟩
      case round =>
        obtain ⟨i, rfl, hi, HG1, HBZ⟩ := hrel
        have HZZ : Aside0 (W.heap.size ≤ wr.heap.size) := ⟨HBZ.out.size⟩
        by_cases hlt9 : i < 39
        · have hix := HI.out i hlt9
          obtain ⟨r, hr⟩ : ∃ r, rowAt i = r := ⟨_, rfl⟩
          have hff : shortFrom Rt.data.toList (40 - i) i = if Lib.hasPrefix r.ai Rt.data.toList = true then true else shortFrom Rt.data.toList (40 - (i + 1)) (i + 1) := by
            rw [show 40 - i = (40 - (i + 1)) + 1 from by omega]
            simp only [shortFrom]
            rw [if_pos hlt9, hr]
          rw [hr] at hix
          obtain ⟨s, hs⟩ : ∃ s, S r = s := ⟨_, rfl⟩
          obtain ⟨l, hl⟩ : ∃ l, r.least = l := ⟨_, rfl⟩
          obtain ⟨mm, hm⟩ : ∃ l, r.most = l := ⟨_, rfl⟩
          obtain ⟨kk, hk⟩ : ∃ l, r.kind = l := ⟨_, rfl⟩
          obtain ⟨b, hb⟩ : ∃ l, r.plain = l := ⟨_, rfl⟩
          have hrc : (rowC r).toArray = #[.string s, .int .i64 l, .int .i64 mm, .int .i64 kk, .bool b] := by rw [← hs, ← hl, ← hm, ← hk, ← hb]; rfl
          rw [hrc] at hix
          have hsa : s.data.toList = r.ai := by rw [← hs]; rfl
          obtain ⟨q, hq⟩ : ∃ q, Lib.hasPrefix r.ai Rt.data.toList = q := ⟨_, rfl⟩
          have HP := Aside0.mk (fun (w : World) => (Tryd.strings_HasPrefix s Rt w))
          rw [hsa, hq] at HP
          have hlt9b : decide ((i : Int) < 39) = true := decide_eq_true (by omega)
          cases q
          · have hF := HG1.out
            rw [hff, if_neg (by rw [hq]; simp)] at hF
            have HG2 := Aside0.mk hF
            clear hrc hff hs hl hm hk hb hr hq HG1 hF hsa
            have hi1 : i + 1 ≤ 39 := by omega
            clear hi hlt9
            go_wp2_with (go_at_call 68; refine (HP.out _).mono ?_; rintro e w3 ⟨rfl, rfl⟩)
            go_roundw
            case rel => exact ⟨i + 1, by go_num, hi1, HG2, ⟨by repeat (first | exact HBZ.out | refine Below.setCell ?_ (by have := HZZ.out; simp; omega) _ | refine Below.alloc ?_ (by have := HZZ.out; simp; omega) _)⟩⟩
            case measure => simp [intOf]; omega
          · have hF := HG1.out
            rw [hff, if_pos hq] at hF
            have hE := HE2.out
            rw [← hF, if_pos rfl] at hE
            have HVV := Aside0.mk hE
            clear hE hrc hff hs hl hm hk hb hr hq HG1 hsa hF hi hlt9
            have X := Aside0.mk (fun w => wrong_calls z 3 (t.size : Int) w)
            obtain ⟨c0, c1, _, _⟩ := ((HSC.out.of_block (HBZ.out.block z HSC.out.lt)).of_block (W' := wr.alloc (.cells #[.string s, .int .i64 l, .int .i64 mm, .int .i64 kk, .bool b] 51)) (Below.heap_alloc _ _ _ (by have := HSC.out.lt; have := HZZ.out; omega))).cells
            go_wp2_with (first | (go_at_call 68; refine (HP.out _).mono ?_; rintro e w3 ⟨rfl, rfl⟩) | (go_at_call 38; go_loud ((with_reducible refine (X.out _).mono ?_); rintro e w3 ⟨rfl, rfl⟩)))
            refine ⟨rfl, HVV.out, ?_⟩
            repeat (first | exact HBZ.out | refine Below.setCell ?_ (by have := HZZ.out; simp; omega) _ | refine Below.alloc ?_ (by have := HZZ.out; simp; omega) _)
        · have hie : i = 39 := by omega
          subst hie
          have hN : false = B := HG1.out
          have hE := HE2.out
          rw [← hN, if_neg Bool.false_ne_true] at hE
          have HVV := Aside0.mk hE
          clear hE hN HG1 hlt9 hi
          have X := Aside0.mk (fun w => wrong_calls z 23 (p : Int) w)
          obtain ⟨c0, c1, _, _⟩ := (HSC.out.of_block (HBZ.out.block z HSC.out.lt)).cells
          go_wp2_with (go_at_call 38; go_loud ((with_reducible refine (X.out _).mono ?_); rintro e w3 ⟨rfl, rfl⟩))
          exact ⟨rfl, HVV.out, HBZ.out⟩
theorem row_calls (p : Nat) (hS : ScAt W z t (p : Int) m) (HT_ : Aside0 (Tab W)) (hp : p ≤ t.size) (ht : t.size ≤ 140737488351232) :
    Calls Tryd.prog 55 #[.pointer (some ⟨z, 0, none⟩)] W fun e w' => e = outR (rowR t p) ∧ Below W.heap.size W w' := by
  rw [← rowO_is]
  exact row_walk p hS HT_ hp ht
end Go.Proofs.YtofagdjijpjlgaaDoor.X
set_option linter.unusedVariables false
set_option linter.unusedSimpArgs false
namespace Go.Proofs.YtofagdjijpjlgaaDoor.X
open Go Go.RowKit Go.Proofs.YtofagdjijpjlgaaDoorW.PrintWords Go.Proofs.YtofagdjijpjlgaaDoorW.PrintLast Go.Proofs.YtofagdjijpjlgaaDoorW.PrintMore Go.Proofs.YtofagdjijpjlgaaDoor.PBase
variable {W W' : World} {z m N : Nat} {t : ByteArray} {p : Int}
theorem plL_eq (t : ByteArray) (kd : Int) (fr l i : Nat) (h : i < l) : plL t kd fr l (l + 1 - i) i = if t.size ≤ fr + i then .error (3, (t.size : Int)) else if mayOf kd (bt t ((fr + i : Nat) : Int)) = true then plL t kd fr l (l + 1 - (i + 1)) (i + 1) else .error (wrongOf kd, ((fr + i : Nat) : Int)) := by
  rw [show l + 1 - i = (l + 1 - (i + 1)) + 1 by omega]
  simp only [plL]
  rw [if_pos h]
theorem plL_end (t : ByteArray) (kd : Int) (fr l : Nat) : plL t kd fr l (l + 1 - l) l = .ok (t.extract fr (fr + l)) := by
  rw [show l + 1 - l = 0 + 1 by omega]
  simp only [plL]
  rw [if_neg (by omega)]
set_option maxHeartbeats 8000000
set_option maxRecDepth 100000
theorem plain_walk (fr L : Nat) (s : ByteArray) (mm kd : Int) (b : Bool) (hS : ScAt W z t p m) (hfr : fr ≤ t.size) (hL : L ≤ 1000) (ht : t.size ≤ 1000) (hk : kd ≠ 3)
    (HF : Aside0 (∀ w, Calls Tryd.prog 51 #[.agg #[.string s, .int .i64 (L : Int), .int .i64 mm, .int .i64 kd, .bool b]] w fun e w' => (∃ (wh : Nat) (fa : Int) (la : Bool), e = .returned (.agg #[.func (.func 62) #[] #[], .int .i64 20, .func (.func wh) #[] #[], .int .i64 fa, .bool la])) ∧ Below w.heap.size w w')) :
    Calls Tryd.prog 56 #[.pointer (some ⟨z, 0, none⟩), .agg #[.string s, .int .i64 (L : Int), .int .i64 mm, .int .i64 kd, .bool b], .int .i64 (fr : Int)] W fun e w' => e = outS (plL t kd fr L (L + 1) 0) ∧ Below W.heap.size W w' := by
  have hG : ∀ args w, (callFunc 62 args).run Tryd.prog w = .ok (.enter 62 args) w := enters_of Tryd.func62 (by kernel_rfl) rfl
  have HS := Aside0.mk hS
  have HT := Aside0.mk (And.intro ht (And.intro hL hk))
  obtain ⟨R, hR⟩ : ∃ R, plL t kd fr L (L + 1) 0 = R := ⟨_, rfl⟩
  rw [hR]
  obtain ⟨E, hE⟩ : ∃ E, outS R = E := ⟨_, rfl⟩
  rw [hE]
  have HR := Aside0.mk hR
  have HE := Aside0.mk hE
  clear hS ht hL hk hR hE
  go_enter Tryd.func56, Tryd.ntmps56
  go_wp2_with (go_at_call 51; (with_reducible refine (HF.out _).mono ?_); rintro e w1 ⟨⟨wh, fa, la, rfl⟩, hb1⟩; have hz1 : W.heap.size < w1.heap.size := (by have z := hb1.size; simp only [World.size_alloc] at z; omega); have k1 : (w1.alloc (.cells #[.func (.func 62) #[] #[], .int .i64 20, .func (.func wh) #[] #[], .int .i64 fa, .bool la] 99)).cell? ⟨W.heap.size, 1, none⟩ = some (.int .i64 (L : Int)) := (((Below.refl w1.heap.size w1).alloc (Nat.le_refl _) _).cell (p := ⟨W.heap.size, 1, none⟩) hz1).trans ((hb1.cell (p := ⟨W.heap.size, 1, none⟩) (by simp)).trans (by simp)); have HB2 : Aside0 (∀ k, Below W.heap.size W ((w1.alloc (.cells #[.func (.func 62) #[] #[], .int .i64 20, .func (.func wh) #[] #[], .int .i64 fa, .bool la] 99)).drewN k)) := ⟨fun k => by
      have h1 := below_step ((Below.refl W.heap.size W).alloc (Nat.le_refl _) _) hb1
      exact pw_below_drewN (h1.alloc h1.size _) k⟩; clear hb1)
  have K1 := Aside0.mk k1
  clear k1
  go_loopw [8, 13, 16, 33] (fun _ v13 _ _ wr => ∃ (i n : Nat), v13 = .int .i64 (i : Int) ∧ i ≤ L ∧ fr + i ≤ t.size ∧ Aside0 (plL t kd fr L (L + 1 - i) i = R) ∧ wr = (w1.alloc (.cells #[.func (.func 62) #[] #[], .int .i64 20, .func (.func wh) #[] #[], .int .i64 fa, .bool la] 99)).drewN n) (fun _ v13 _ _ _ => L - (intOf v13).toNat)
  case atStart => exact ⟨0, 0, rfl, Nat.zero_le _, hfr, HR, rfl⟩
  case round =>
    obtain ⟨i, n, rfl, hi, hfi, HR1, rfl⟩ := hrel
    clear HR hfr
    obtain ⟨s0, _, _, _⟩ := (HS.out.of_block (W' := w1.alloc (.cells #[.func (.func 62) #[] #[], .int .i64 20, .func (.func wh) #[] #[], .int .i64 fa, .bool la] 99)) ((HB2.out 0).block z HS.out.lt)).cells
    have hsz := HT.out.1
    have hLL := HT.out.2.1
    by_cases hlt : i < L
    · obtain ⟨J, hJ⟩ : ∃ J : Int, (fr : Int) + (i : Int) = J := ⟨_, rfl⟩
      have hJn : J.toNat = fr + i := by omega
      have hRR := HR1.out
      rw [plL_eq _ _ _ _ _ hlt] at hRR
      have g0 : decide ((i : Int) < (L : Int)) = true := decide_eq_true (by omega)
      have g00 : decide (i < L) = true := decide_eq_true (by omega)
      have hw : wrap64 ((fr : Int) + (i : Int)) = J := (wrap_id (x := (fr : Int) + (i : Int)) (by omega) (by omega)).trans hJ
      have hw2 : IntKind.i64.wrap ((fr : Int) + (i : Int)) = J := by rw [IntKind.wrap_i64]; omega
      by_cases hsh : t.size ≤ fr + i
      · rw [if_pos hsh] at hRR
        have hE := HE.out
        rw [← hRR] at hE
        have HE2 := Aside0.mk hE
        have g1 : decide ((t.size : Int) ≤ J) = true := decide_eq_true (by omega)
        have X := Aside0.mk (fun w => wrong_calls z 3 (t.size : Int) w)
        clear hRR hE hsz hJ hJn hi hlt hsh hfi hLL
        go_wp2_with (go_at_call 38; go_loud ((with_reducible refine (X.out _).mono ?_); rintro e w3 ⟨rfl, rfl⟩))
        refine ⟨rfl, HE2.out, ?_⟩
        first | exact HB2.out _ | (have z := HB2.out (n + 0); exact z)
      · rw [if_neg hsh] at hRR
        have hx := hx_of t J.toNat
        have hmay : mayOf kd (bt t ((fr + i : Nat) : Int)) = isD (bt t ((fr + i : Nat) : Int)) := by unfold mayOf; rw [if_neg HT.out.2.2]
        have hwr : wrongOf kd = 20 := by unfold wrongOf; rw [if_neg HT.out.2.2]
        rw [hmay, hwr, ← hJn] at hRR
        obtain ⟨c, hc⟩ : ∃ c, bt t ((J.toNat : Nat) : Int) = c := ⟨_, rfl⟩
        rw [hc] at hx hRR
        have g1 : decide ((t.size : Int) ≤ J) = false := decide_eq_false (by omega)
        have g2 : (0 ≤ J) = True := eq_true (by omega)
        have g3 : (J < (t.size : Int)) = True := eq_true (by omega)
        have g4 : (J.toNat < t.size) = True := eq_true (by omega)
        cases hd : isD c
        · rw [hd, if_neg Bool.false_ne_true, show ((J.toNat : Nat) : Int) = J by omega] at hRR
          have hE := HE.out
          rw [← hRR] at hE
          have HE2 := Aside0.mk hE
          have HM : Aside0 (∀ w : World, Calls Tryd.prog 62 #[.int .u8 c] w fun e w' => e = .returned (.bool false) ∧ Drawn0 w w') := ⟨fun w => by have z := isDigit_any c w; rw [hd] at z; exact z⟩
          have X := Aside0.mk (fun w => wrong_calls z 20 J w)
          clear hRR hE hc hd hsz hJ hJn hi hlt hsh hfi hLL hmay hwr
          go_wp2
          go_quiet ((go_at_call 62; (with_reducible refine (HM.out _).mono ?_); rintro e w' ⟨rfl, ⟨nd, rfl⟩⟩; (try first | exact ⟨rfl, _, World.drewN_drewN _ _ _⟩ | exact ⟨rfl, _, Eq.trans (World.drewN_drewN _ _ _) (congrArg (World.drewN _) (Nat.add_assoc _ _ _))⟩)))
          go_wp2_with (go_at_call 38; go_loud ((with_reducible refine (X.out _).mono ?_); rintro e w3 ⟨rfl, rfl⟩))
          exact ⟨rfl, HE2.out, HB2.out _⟩
        · rw [hd, if_pos rfl] at hRR
          have HR2 := Aside0.mk hRR
          have HM : Aside0 (∀ w : World, Calls Tryd.prog 62 #[.int .u8 c] w fun e w' => e = .returned (.bool true) ∧ Drawn0 w w') := ⟨fun w => by have z := isDigit_any c w; rw [hd] at z; exact z⟩
          have hi1 : i + 1 ≤ L := by omega
          have hi2 : i ≤ 1000 := by omega
          have hfi1 : fr + (i + 1) ≤ t.size := by omega
          clear hRR hc hd hsz hJ hJn hi hlt hsh hfi hLL hmay hwr HR1
          go_wp2
          go_quiet ((go_at_call 62; (with_reducible refine (HM.out _).mono ?_); rintro e w' ⟨rfl, ⟨nd, rfl⟩⟩; (try first | exact ⟨rfl, _, World.drewN_drewN _ _ _⟩ | exact ⟨rfl, _, Eq.trans (World.drewN_drewN _ _ _) (congrArg (World.drewN _) (Nat.add_assoc _ _ _))⟩)))
          go_wp2
          go_roundw
          case rel => exact ⟨i + 1, _, by go_num, hi1, hfi1, HR2, rfl⟩
          case measure => simp [intOf]; omega
    · have hi6 : i = L := by omega
      subst hi6
      have hRR := HR1.out
      rw [plL_end] at hRR
      have hE := HE.out
      rw [← hRR] at hE
      obtain ⟨J, hJ⟩ : ∃ J : Int, (fr : Int) + (i : Int) = J := ⟨_, rfl⟩
      have hJn : fr + i = J.toNat := by omega
      rw [hJn] at hE
      have HE2 := Aside0.mk hE
      have K := K1.out
      have hw : wrap64 ((fr : Int) + (i : Int)) = J := (wrap_id (x := (fr : Int) + (i : Int)) (by omega) (by omega)).trans hJ
      have hw2 : IntKind.i64.wrap ((fr : Int) + (i : Int)) = J := by rw [IntKind.wrap_i64]; omega
      have g8 : (J ≤ (t.size : Int)) = True := eq_true (by omega)
      have g9 : (J.toNat ≤ t.size) = True := eq_true (by omega)
      have g10 : ((fr : Int) ≤ J) = True := eq_true (by omega)
      have g11 : (0 ≤ J) = True := eq_true (by omega)
      have g12 : ((0 : Int) ≤ (fr : Int)) = True := eq_true (by omega)
      have g13 : decide ((i : Int) < (i : Int)) = false := decide_eq_false (by omega)
      clear hsz hlt hi hLL hRR hE hJ hJn hfi HR1
      go_wp2
      go_quiet (fail)
      go_wp2
      go_ret
      refine ⟨HE2.out, ?_⟩
      have z := HB2.out (n + nq)
      rw [← World.drewN_drewN] at z
      exact z
end Go.Proofs.YtofagdjijpjlgaaDoor.X
set_option linter.unusedVariables false
set_option linter.unusedSimpArgs false
namespace Go.Proofs.YtofagdjijpjlgaaDoor.X
open Go Go.RowKit Go.Proofs.YtofagdjijpjlgaaDoorW.PrintWords Go.Proofs.YtofagdjijpjlgaaDoorW.PrintLast Go.Proofs.YtofagdjijpjlgaaDoorW.PrintMore Go.Proofs.YtofagdjijpjlgaaDoor.PBase
variable {W W' : World} {z m N : Nat} {t : ByteArray} {p : Int}
theorem enL_eq (v : ByteArray) (kd : Int) (fr l m i : Nat) (h : i < v.size) : enL v kd fr l m (v.size + 1 - i) i = if m ≤ i then .error (26, ((fr + i : Nat) : Int)) else if mayOf kd (bt v (i : Int)) = true then enL v kd fr l m (v.size + 1 - (i + 1)) (i + 1) else .error (wrongOf kd, ((fr + i : Nat) : Int)) := by
  rw [show v.size + 1 - i = (v.size + 1 - (i + 1)) + 1 by omega]
  simp only [enL]
  rw [if_pos h]
theorem enL_end (v : ByteArray) (kd : Int) (fr l m : Nat) : enL v kd fr l m (v.size + 1 - v.size) v.size = if v.size < l then .error (3, ((fr + v.size : Nat) : Int)) else .ok v := by
  rw [show v.size + 1 - v.size = 0 + 1 by omega]
  simp only [enL]
  rw [if_neg (by omega)]
theorem cutV_size (t : ByteArray) (fr : Nat) : (cutV t fr).size ≤ t.size - fr := by
  have h : (cutV t fr).size = ((restOf t fr).takeWhile (fun c => c != 29)).length := by
    unfold cutV
    simp [ByteArray.size]
  have h2 := List.Sublist.length_le (List.takeWhile_sublist (l := restOf t fr) (fun c => c != 29))
  have h3 : (restOf t fr).length = t.size - fr := by
    unfold restOf
    rw [Array.length_toList, ByteArray.size_data, ByteArray.size_extract]
    omega
  omega
theorem wrapJ {a b : Int} (e : a = b) (h0 : 0 ≤ b) (h1 : b ≤ 100000) : wrap64 a = b := by rw [e, wrap_id (by omega) (by omega)]
theorem wrapK {a b : Int} (e : a = b) (h0 : 0 ≤ b) (h1 : b ≤ 100000) : IntKind.i64.wrap a = b := by rw [e, IntKind.wrap_i64]; omega
set_option maxHeartbeats 8000000
set_option maxRecDepth 100000
theorem ended_digits (fr L M : Nat) (s : ByteArray) (kd : Int) (b : Bool) (hS : ScAt W z t p m) (hfr : fr ≤ t.size) (hL : L ≤ 1000) (hM : M ≤ 1000) (ht : t.size ≤ 1000) (hk : kd ≠ 3)
    (HF : Aside0 (∀ w, Calls Tryd.prog 51 #[.agg #[.string s, .int .i64 (L : Int), .int .i64 (M : Int), .int .i64 kd, .bool b]] w fun e w' => (∃ (wh : Nat) (fa : Int) (la : Bool), e = .returned (.agg #[.func (.func 62) #[] #[], .int .i64 20, .func (.func wh) #[] #[], .int .i64 fa, .bool la])) ∧ Below w.heap.size w w')) :
    Calls Tryd.prog 57 #[.pointer (some ⟨z, 0, none⟩), .agg #[.string s, .int .i64 (L : Int), .int .i64 (M : Int), .int .i64 kd, .bool b], .int .i64 (fr : Int)] W fun e w' => e = outS (enR t kd fr L M) ∧ Below W.heap.size W w' := by
  have hG : ∀ args w, (callFunc 62 args).run Tryd.prog w = .ok (.enter 62 args) w := enters_of Tryd.func62 (by kernel_rfl) rfl
  have HS := Aside0.mk hS
  have HT := Aside0.mk (And.intro ht (And.intro hL (And.intro hM hk)))
  obtain ⟨R, hR⟩ : ∃ R, enR t kd fr L M = R := ⟨_, rfl⟩
  rw [hR]
  obtain ⟨E, hE⟩ : ∃ E, outS R = E := ⟨_, rfl⟩
  rw [hE]
  have HE := Aside0.mk hE
  unfold enR at hR
  have hvs := cutV_size t fr
  have HX := fun w => cut29 (t.extract fr t.size) w (by rw [ByteArray.size_extract]; omega)
  have hcv : (⟨((t.extract fr t.size).data.toList.takeWhile (fun c => c != 29)).toArray⟩ : ByteArray) = cutV t fr := rfl
  rw [hcv] at HX
  clear hcv
  obtain ⟨v, hv⟩ : ∃ v, cutV t fr = v := ⟨_, rfl⟩
  rw [hv] at hR hvs HX
  obtain ⟨c0, _, _, _⟩ := (hS.of_block (W' := W.alloc (.cells #[.string s, .int .i64 (L : Int), .int .i64 (M : Int), .int .i64 kd, .bool b] 51)) (Below.heap_alloc _ _ _ hS.lt)).cells
  have g1 : ((fr : Int) ≤ (t.size : Int)) = True := eq_true (by omega)
  have g2 : (fr ≤ t.size) = True := eq_true hfr
  have g3 : ((0 : Int) ≤ (fr : Int)) = True := eq_true (by omega)
  have HX := Aside0.mk HX
  by_cases hv0 : v.size = 0
  · rw [if_pos hv0] at hR
    have hv00 : v = ⟨#[]⟩ := by
      apply ByteArray.ext
      apply Array.eq_empty_of_size_eq_zero
      exact hv0
    subst hv00
    have HE2 := HE.out
    rw [← hR] at HE2
    have HE2 := Aside0.mk HE2
    have X := Aside0.mk (fun w => wrong_calls z 3 (fr : Int) w)
    clear hS hfr ht hL hM hk hR hE hv hvs hv0 HE
    go_enter Tryd.func57, Tryd.ntmps57
    go_wp2_with (first | (go_at_call 69; (with_reducible refine (HX.out _).mono ?_); rintro e w1 ⟨⟨x, y, rfl⟩, n, rfl⟩) | (go_at_call 38; go_loud ((with_reducible refine (X.out _).mono ?_); rintro e w3 ⟨rfl, rfl⟩)))
    refine ⟨rfl, HE2.out, ?_⟩
    exact pw_below_drewN ((Below.refl _ _).alloc (Nat.le_refl _) _) _
  · rw [if_neg hv0] at hR
    have HR := Aside0.mk hR
    have HV := Aside0.mk (And.intro hvs hfr)
    have n1 : (v.toList == []) = false := by
      rw [ByteArray.toList_eq, beq_eq_false_iff_ne]
      intro e
      apply hv0
      have := congrArg List.length e
      rw [Array.length_toList] at this
      exact this
    have n2 : v ≠ ByteArray.empty := fun e => hv0 (by rw [e]; rfl)
    have n4 : decide (v = ByteArray.empty) = false := decide_eq_false n2
    have n5 : ¬ [] = v.toList := fun e => by rw [← e] at n1; cases n1
    have n6 : ([] == v.toList) = false := beq_eq_false_iff_ne.2 n5
    clear hS hfr ht hL hM hk hR hE hv hvs hv0 n2
    go_enter Tryd.func57, Tryd.ntmps57
    go_wp2_with (first | (go_at_call 69; (with_reducible refine (HX.out _).mono ?_); rintro e w1 ⟨⟨x, y, rfl⟩, n, rfl⟩) | (go_at_call 51; (with_reducible refine (HF.out _).mono ?_); rintro e w1 ⟨⟨wh, fa, la, rfl⟩, hb1⟩; have hz1 : W.heap.size < w1.heap.size := (by have z := hb1.size; simp only [World.heap_drewN, World.size_alloc] at z; omega); have ha : Below W.heap.size W w1 := ((pw_below_drewN ((Below.refl W.heap.size W).alloc (Nat.le_refl _) _) n).trans (hb1.mono (by simp))); have hk1 : w1.heap[W.heap.size]? = some (.cells #[.string s, .int .i64 (L : Int), .int .i64 (M : Int), .int .i64 kd, .bool b] 51 (0, 0)) := ((hb1.block W.heap.size (by simp)).trans (heap_alloc_new W _)); have hk2 : (w1.alloc (.cells #[.func (.func 62) #[] #[], .int .i64 20, .func (.func wh) #[] #[], .int .i64 fa, .bool la] 99)).heap[W.heap.size]? = some (.cells #[.string s, .int .i64 (L : Int), .int .i64 (M : Int), .int .i64 kd, .bool b] 51 (0, 0)) := (Below.heap_alloc _ _ _ hz1).trans hk1; have HB2 : Aside0 (∀ k, Below W.heap.size W ((w1.alloc (.cells #[.func (.func 62) #[] #[], .int .i64 20, .func (.func wh) #[] #[], .int .i64 fa, .bool la] 99)).drewN k)) := ⟨fun k => pw_below_drewN (ha.alloc ha.size _) k⟩; have KK := Aside0.mk hk2; clear hb1 ha hk1 hk2))
    clear n1 n4 n5 n6 c0
    go_loopw [11, 32, 35, 45] (fun _ v32 _ _ wr => ∃ (i n : Nat), v32 = .int .i64 (i : Int) ∧ i ≤ v.size ∧ Aside0 (enL v kd fr L M (v.size + 1 - i) i = R) ∧ wr = (w1.alloc (.cells #[.func (.func 62) #[] #[], .int .i64 20, .func (.func wh) #[] #[], .int .i64 fa, .bool la] 99)).drewN n) (fun _ v32 _ _ _ => v.size - (intOf v32).toNat)
    case atStart => exact ⟨0, 0, rfl, Nat.zero_le _, HR, rfl⟩
    case round =>
      obtain ⟨i, n, rfl, hi, HR1, rfl⟩ := hrel
      clear HR
      have hkk := KK.out
      have k1 : (w1.alloc (.cells #[.func (.func 62) #[] #[], .int .i64 20, .func (.func wh) #[] #[], .int .i64 fa, .bool la] 99)).cell? ⟨W.heap.size, 1, none⟩ = some (.int .i64 (L : Int)) := by simp [World.cell?, hkk]
      have k2 : (w1.alloc (.cells #[.func (.func 62) #[] #[], .int .i64 20, .func (.func wh) #[] #[], .int .i64 fa, .bool la] 99)).cell? ⟨W.heap.size, 2, none⟩ = some (.int .i64 (M : Int)) := by simp [World.cell?, hkk]
      clear hkk
      have ht := HT.out.1
      have hLL := HT.out.2.1
      have hMM := HT.out.2.2.1
      have hv1 := HV.out.1
      have hv2 := HV.out.2
      by_cases hlt : i < v.size
      · obtain ⟨J, hJ⟩ : ∃ J : Int, (fr : Int) + (i : Int) = J := ⟨_, rfl⟩
        have hRR := HR1.out
        rw [enL_eq _ _ _ _ _ _ hlt, show ((fr + i : Nat) : Int) = J by omega] at hRR
        have g0 : decide ((i : Int) < (v.size : Int)) = true := decide_eq_true (by omega)
        have g00 : decide (i < v.size) = true := decide_eq_true (by omega)
        have hfi : fr + i ≤ t.size := by omega
        have j0 : 0 ≤ J := by omega
        have j1 : J ≤ 100000 := by omega
        have hw : wrap64 ((fr : Int) + (i : Int)) = J := wrapJ hJ j0 j1
        have hw2 : IntKind.i64.wrap ((fr : Int) + (i : Int)) = J := wrapK hJ j0 j1
        have HWW := Aside0.mk (And.intro hw hw2)
        clear hfi j0 j1 hw hw2
        by_cases hsh : M ≤ i
        · rw [if_pos hsh] at hRR
          have hE := HE.out
          rw [← hRR] at hE
          have HE2 := Aside0.mk hE
          have b1 : decide ((M : Int) ≤ (i : Int)) = true := decide_eq_true (by omega)
          have b2 : decide (M ≤ i) = true := decide_eq_true hsh
          have X := Aside0.mk (fun w => wrong_calls z 26 J w)
          clear hRR hE ht hJ hi hlt hsh hLL hMM hv1 hv2 HR1
          obtain ⟨hw, hw2⟩ := HWW.out
          go_wp2_with (go_at_call 38; go_loud ((with_reducible refine (X.out _).mono ?_); rintro e w3 ⟨rfl, rfl⟩))
          exact ⟨rfl, HE2.out, HB2.out _⟩
        · rw [if_neg hsh] at hRR
          have b1 : decide ((M : Int) ≤ (i : Int)) = false := decide_eq_false (by omega)
          have b2 : decide (M ≤ i) = false := decide_eq_false hsh
          have hx := hx_of v i
          have hmay : mayOf kd (bt v (i : Int)) = isD (bt v (i : Int)) := by unfold mayOf; rw [if_neg HT.out.2.2.2]
          have hwr : wrongOf kd = 20 := by unfold wrongOf; rw [if_neg HT.out.2.2.2]
          rw [hmay, hwr] at hRR
          obtain ⟨c, hc⟩ : ∃ c, bt v (i : Int) = c := ⟨_, rfl⟩
          rw [hc] at hx hRR
          have g2' : ((0 : Int) ≤ (i : Int)) = True := eq_true (by omega)
          have g3' : ((i : Int) < (v.size : Int)) = True := eq_true (by omega)
          have g4' : (i < v.size) = True := eq_true (by omega)
          cases hd : isD c
          · rw [hd, if_neg Bool.false_ne_true] at hRR
            have hE := HE.out
            rw [← hRR] at hE
            have HE2 := Aside0.mk hE
            have HM : Aside0 (∀ w : World, Calls Tryd.prog 62 #[.int .u8 c] w fun e w' => e = .returned (.bool false) ∧ Drawn0 w w') := ⟨fun w => by have z := isDigit_any c w; rw [hd] at z; exact z⟩
            have X := Aside0.mk (fun w => wrong_calls z 20 J w)
            clear hRR hE hc hd ht hJ hi hlt hsh hLL hMM hv1 hv2 hmay hwr HR1
            obtain ⟨hw, hw2⟩ := HWW.out
            go_wp2
            go_quiet ((go_at_call 62; (with_reducible refine (HM.out _).mono ?_); rintro e w' ⟨rfl, ⟨nd, rfl⟩⟩; (try first | exact ⟨rfl, _, World.drewN_drewN _ _ _⟩ | exact ⟨rfl, _, Eq.trans (World.drewN_drewN _ _ _) (congrArg (World.drewN _) (Nat.add_assoc _ _ _))⟩)))
            go_wp2_with (go_at_call 38; go_loud ((with_reducible refine (X.out _).mono ?_); rintro e w3 ⟨rfl, rfl⟩))
            exact ⟨rfl, HE2.out, HB2.out _⟩
          · rw [hd, if_pos rfl] at hRR
            have HR2 := Aside0.mk hRR
            have HM : Aside0 (∀ w : World, Calls Tryd.prog 62 #[.int .u8 c] w fun e w' => e = .returned (.bool true) ∧ Drawn0 w w') := ⟨fun w => by have z := isDigit_any c w; rw [hd] at z; exact z⟩
            have hi1 : i + 1 ≤ v.size := by omega
            have hi2 : i ≤ 1000 := by omega
            clear hRR hc hd ht hJ hi hlt hsh hLL hMM hv1 hv2 hmay hwr HR1
            obtain ⟨hw, hw2⟩ := HWW.out
            go_wp2
            go_quiet ((go_at_call 62; (with_reducible refine (HM.out _).mono ?_); rintro e w' ⟨rfl, ⟨nd, rfl⟩⟩; (try first | exact ⟨rfl, _, World.drewN_drewN _ _ _⟩ | exact ⟨rfl, _, Eq.trans (World.drewN_drewN _ _ _) (congrArg (World.drewN _) (Nat.add_assoc _ _ _))⟩)))
            go_wp2
            go_roundw
            case rel => exact ⟨i + 1, _, by go_num, hi1, HR2, rfl⟩
            case measure => clear hw hw2; simp [intOf]; omega
      · have hi6 : i = v.size := by omega
        subst hi6
        have hRR := HR1.out
        obtain ⟨J, hJ⟩ : ∃ J : Int, (fr : Int) + (v.size : Int) = J := ⟨_, rfl⟩
        rw [enL_end, show ((fr + v.size : Nat) : Int) = J by omega] at hRR
        have hfi : fr + v.size ≤ t.size := by omega
        have j0 : 0 ≤ J := by omega
        have j1 : J ≤ 100000 := by omega
        have hw : wrap64 ((fr : Int) + (v.size : Int)) = J := wrapJ hJ j0 j1
        have hw2 : IntKind.i64.wrap ((fr : Int) + (v.size : Int)) = J := wrapK hJ j0 j1
        have HWW := Aside0.mk (And.intro hw hw2)
        clear hfi j0 j1 hw hw2
        have g13 : decide ((v.size : Int) < (v.size : Int)) = false := decide_eq_false (by omega)
        by_cases hsh : v.size < L
        · rw [if_pos hsh] at hRR
          have hE := HE.out
          rw [← hRR] at hE
          have HE2 := Aside0.mk hE
          have b1 : decide ((v.size : Int) < (L : Int)) = true := decide_eq_true (by omega)
          have b2 : decide (v.size < L) = true := decide_eq_true hsh
          have X := Aside0.mk (fun w => wrong_calls z 3 J w)
          clear hRR hE ht hJ hi hlt hsh hLL hMM hv1 hv2 HR1
          obtain ⟨hw, hw2⟩ := HWW.out
          go_wp2_with (go_at_call 38; go_loud ((with_reducible refine (X.out _).mono ?_); rintro e w3 ⟨rfl, rfl⟩))
          exact ⟨rfl, HE2.out, HB2.out _⟩
        · rw [if_neg hsh] at hRR
          have hE := HE.out
          rw [← hRR] at hE
          have HE2 := Aside0.mk hE
          have b1 : decide ((v.size : Int) < (L : Int)) = false := decide_eq_false (by omega)
          have b2 : decide (v.size < L) = false := decide_eq_false hsh
          clear hRR hE ht hJ hi hlt hsh hLL hMM hv1 hv2 HR1
          obtain ⟨hw, hw2⟩ := HWW.out
          go_wp2
          go_ret
          exact ⟨HE2.out, HB2.out _⟩
theorem ended_chars (fr L M : Nat) (s : ByteArray) (kd : Int) (b : Bool) (hS : ScAt W z t p m) (hfr : fr ≤ t.size) (hL : L ≤ 1000) (hM : M ≤ 1000) (ht : t.size ≤ 1000) (hk : kd = 3)
    (HF : Aside0 (∀ w, Calls Tryd.prog 51 #[.agg #[.string s, .int .i64 (L : Int), .int .i64 (M : Int), .int .i64 kd, .bool b]] w fun e w' => (∃ (wh : Nat) (fa : Int) (la : Bool), e = .returned (.agg #[.func (.func 66) #[] #[], .int .i64 27, .func (.func wh) #[] #[], .int .i64 fa, .bool la])) ∧ Below w.heap.size w w')) :
    Calls Tryd.prog 57 #[.pointer (some ⟨z, 0, none⟩), .agg #[.string s, .int .i64 (L : Int), .int .i64 (M : Int), .int .i64 kd, .bool b], .int .i64 (fr : Int)] W fun e w' => e = outS (enR t kd fr L M) ∧ Below W.heap.size W w' := by
  have hG : ∀ args w, (callFunc 66 args).run Tryd.prog w = .ok (.enter 66 args) w := enters_of Tryd.func66 (by kernel_rfl) rfl
  have HS := Aside0.mk hS
  have HT := Aside0.mk (And.intro ht (And.intro hL (And.intro hM hk)))
  obtain ⟨R, hR⟩ : ∃ R, enR t kd fr L M = R := ⟨_, rfl⟩
  rw [hR]
  obtain ⟨E, hE⟩ : ∃ E, outS R = E := ⟨_, rfl⟩
  rw [hE]
  have HE := Aside0.mk hE
  unfold enR at hR
  have hvs := cutV_size t fr
  have HX := fun w => cut29 (t.extract fr t.size) w (by rw [ByteArray.size_extract]; omega)
  have hcv : (⟨((t.extract fr t.size).data.toList.takeWhile (fun c => c != 29)).toArray⟩ : ByteArray) = cutV t fr := rfl
  rw [hcv] at HX
  clear hcv
  obtain ⟨v, hv⟩ : ∃ v, cutV t fr = v := ⟨_, rfl⟩
  rw [hv] at hR hvs HX
  obtain ⟨c0, _, _, _⟩ := (hS.of_block (W' := W.alloc (.cells #[.string s, .int .i64 (L : Int), .int .i64 (M : Int), .int .i64 kd, .bool b] 51)) (Below.heap_alloc _ _ _ hS.lt)).cells
  have g1 : ((fr : Int) ≤ (t.size : Int)) = True := eq_true (by omega)
  have g2 : (fr ≤ t.size) = True := eq_true hfr
  have g3 : ((0 : Int) ≤ (fr : Int)) = True := eq_true (by omega)
  have HX := Aside0.mk HX
  by_cases hv0 : v.size = 0
  · rw [if_pos hv0] at hR
    have hv00 : v = ⟨#[]⟩ := by
      apply ByteArray.ext
      apply Array.eq_empty_of_size_eq_zero
      exact hv0
    subst hv00
    have HE2 := HE.out
    rw [← hR] at HE2
    have HE2 := Aside0.mk HE2
    have X := Aside0.mk (fun w => wrong_calls z 3 (fr : Int) w)
    clear hS hfr ht hL hM hk hR hE hv hvs hv0 HE
    go_enter Tryd.func57, Tryd.ntmps57
    go_wp2_with (first | (go_at_call 69; (with_reducible refine (HX.out _).mono ?_); rintro e w1 ⟨⟨x, y, rfl⟩, n, rfl⟩) | (go_at_call 38; go_loud ((with_reducible refine (X.out _).mono ?_); rintro e w3 ⟨rfl, rfl⟩)))
    refine ⟨rfl, HE2.out, ?_⟩
    exact pw_below_drewN ((Below.refl _ _).alloc (Nat.le_refl _) _) _
  · rw [if_neg hv0] at hR
    have HR := Aside0.mk hR
    have HV := Aside0.mk (And.intro hvs hfr)
    have n1 : (v.toList == []) = false := by
      rw [ByteArray.toList_eq, beq_eq_false_iff_ne]
      intro e
      apply hv0
      have := congrArg List.length e
      rw [Array.length_toList] at this
      exact this
    have n2 : v ≠ ByteArray.empty := fun e => hv0 (by rw [e]; rfl)
    have n4 : decide (v = ByteArray.empty) = false := decide_eq_false n2
    have n5 : ¬ [] = v.toList := fun e => by rw [← e] at n1; cases n1
    have n6 : ([] == v.toList) = false := beq_eq_false_iff_ne.2 n5
    clear hS hfr ht hL hM hk hR hE hv hvs hv0 n2
    go_enter Tryd.func57, Tryd.ntmps57
    go_wp2_with (first | (go_at_call 69; (with_reducible refine (HX.out _).mono ?_); rintro e w1 ⟨⟨x, y, rfl⟩, n, rfl⟩) | (go_at_call 51; (with_reducible refine (HF.out _).mono ?_); rintro e w1 ⟨⟨wh, fa, la, rfl⟩, hb1⟩; have hz1 : W.heap.size < w1.heap.size := (by have z := hb1.size; simp only [World.heap_drewN, World.size_alloc] at z; omega); have ha : Below W.heap.size W w1 := ((pw_below_drewN ((Below.refl W.heap.size W).alloc (Nat.le_refl _) _) n).trans (hb1.mono (by simp))); have hk1 : w1.heap[W.heap.size]? = some (.cells #[.string s, .int .i64 (L : Int), .int .i64 (M : Int), .int .i64 kd, .bool b] 51 (0, 0)) := ((hb1.block W.heap.size (by simp)).trans (heap_alloc_new W _)); have hk2 : (w1.alloc (.cells #[.func (.func 66) #[] #[], .int .i64 27, .func (.func wh) #[] #[], .int .i64 fa, .bool la] 99)).heap[W.heap.size]? = some (.cells #[.string s, .int .i64 (L : Int), .int .i64 (M : Int), .int .i64 kd, .bool b] 51 (0, 0)) := (Below.heap_alloc _ _ _ hz1).trans hk1; have HB2 : Aside0 (∀ k, Below W.heap.size W ((w1.alloc (.cells #[.func (.func 66) #[] #[], .int .i64 27, .func (.func wh) #[] #[], .int .i64 fa, .bool la] 99)).drewN k)) := ⟨fun k => pw_below_drewN (ha.alloc ha.size _) k⟩; have KK := Aside0.mk hk2; clear hb1 ha hk1 hk2))
    clear n1 n4 n5 n6 c0
    go_loopw [11, 32, 35, 45] (fun _ v32 _ _ wr => ∃ (i n : Nat), v32 = .int .i64 (i : Int) ∧ i ≤ v.size ∧ Aside0 (enL v kd fr L M (v.size + 1 - i) i = R) ∧ wr = (w1.alloc (.cells #[.func (.func 66) #[] #[], .int .i64 27, .func (.func wh) #[] #[], .int .i64 fa, .bool la] 99)).drewN n) (fun _ v32 _ _ _ => v.size - (intOf v32).toNat)
    case atStart => exact ⟨0, 0, rfl, Nat.zero_le _, HR, rfl⟩
    case round =>
      obtain ⟨i, n, rfl, hi, HR1, rfl⟩ := hrel
      clear HR
      have hkk := KK.out
      have k1 : (w1.alloc (.cells #[.func (.func 66) #[] #[], .int .i64 27, .func (.func wh) #[] #[], .int .i64 fa, .bool la] 99)).cell? ⟨W.heap.size, 1, none⟩ = some (.int .i64 (L : Int)) := by simp [World.cell?, hkk]
      have k2 : (w1.alloc (.cells #[.func (.func 66) #[] #[], .int .i64 27, .func (.func wh) #[] #[], .int .i64 fa, .bool la] 99)).cell? ⟨W.heap.size, 2, none⟩ = some (.int .i64 (M : Int)) := by simp [World.cell?, hkk]
      clear hkk
      have ht := HT.out.1
      have hLL := HT.out.2.1
      have hMM := HT.out.2.2.1
      have hv1 := HV.out.1
      have hv2 := HV.out.2
      by_cases hlt : i < v.size
      · obtain ⟨J, hJ⟩ : ∃ J : Int, (fr : Int) + (i : Int) = J := ⟨_, rfl⟩
        have hRR := HR1.out
        rw [enL_eq _ _ _ _ _ _ hlt, show ((fr + i : Nat) : Int) = J by omega] at hRR
        have g0 : decide ((i : Int) < (v.size : Int)) = true := decide_eq_true (by omega)
        have g00 : decide (i < v.size) = true := decide_eq_true (by omega)
        have hfi : fr + i ≤ t.size := by omega
        have j0 : 0 ≤ J := by omega
        have j1 : J ≤ 100000 := by omega
        have hw : wrap64 ((fr : Int) + (i : Int)) = J := wrapJ hJ j0 j1
        have hw2 : IntKind.i64.wrap ((fr : Int) + (i : Int)) = J := wrapK hJ j0 j1
        have HWW := Aside0.mk (And.intro hw hw2)
        clear hfi j0 j1 hw hw2
        by_cases hsh : M ≤ i
        · rw [if_pos hsh] at hRR
          have hE := HE.out
          rw [← hRR] at hE
          have HE2 := Aside0.mk hE
          have b1 : decide ((M : Int) ≤ (i : Int)) = true := decide_eq_true (by omega)
          have b2 : decide (M ≤ i) = true := decide_eq_true hsh
          have X := Aside0.mk (fun w => wrong_calls z 26 J w)
          clear hRR hE ht hJ hi hlt hsh hLL hMM hv1 hv2 HR1
          obtain ⟨hw, hw2⟩ := HWW.out
          go_wp2_with (go_at_call 38; go_loud ((with_reducible refine (X.out _).mono ?_); rintro e w3 ⟨rfl, rfl⟩))
          exact ⟨rfl, HE2.out, HB2.out _⟩
        · rw [if_neg hsh] at hRR
          have b1 : decide ((M : Int) ≤ (i : Int)) = false := decide_eq_false (by omega)
          have b2 : decide (M ≤ i) = false := decide_eq_false hsh
          have hx := hx_of v i
          have hmay : mayOf kd (bt v (i : Int)) = isC (bt v (i : Int)) := by unfold mayOf; rw [if_pos HT.out.2.2.2]
          have hwr : wrongOf kd = 27 := by unfold wrongOf; rw [if_pos HT.out.2.2.2]
          rw [hmay, hwr] at hRR
          obtain ⟨c, hc⟩ : ∃ c, bt v (i : Int) = c := ⟨_, rfl⟩
          rw [hc] at hx hRR
          have g2' : ((0 : Int) ≤ (i : Int)) = True := eq_true (by omega)
          have g3' : ((i : Int) < (v.size : Int)) = True := eq_true (by omega)
          have g4' : (i < v.size) = True := eq_true (by omega)
          cases hd : isC c
          · rw [hd, if_neg Bool.false_ne_true] at hRR
            have hE := HE.out
            rw [← hRR] at hE
            have HE2 := Aside0.mk hE
            have HM : Aside0 (∀ w : World, Calls Tryd.prog 66 #[.int .u8 c] w fun e w' => e = .returned (.bool false) ∧ Drawn0 w w') := ⟨fun w => by have z := isChar_any c w; rw [hd] at z; exact z⟩
            have X := Aside0.mk (fun w => wrong_calls z 27 J w)
            clear hRR hE hc hd ht hJ hi hlt hsh hLL hMM hv1 hv2 hmay hwr HR1
            obtain ⟨hw, hw2⟩ := HWW.out
            go_wp2
            go_quiet ((go_at_call 66; (with_reducible refine (HM.out _).mono ?_); rintro e w' ⟨rfl, ⟨nd, rfl⟩⟩; (try first | exact ⟨rfl, _, World.drewN_drewN _ _ _⟩ | exact ⟨rfl, _, Eq.trans (World.drewN_drewN _ _ _) (congrArg (World.drewN _) (Nat.add_assoc _ _ _))⟩)))
            go_wp2_with (go_at_call 38; go_loud ((with_reducible refine (X.out _).mono ?_); rintro e w3 ⟨rfl, rfl⟩))
            exact ⟨rfl, HE2.out, HB2.out _⟩
          · rw [hd, if_pos rfl] at hRR
            have HR2 := Aside0.mk hRR
            have HM : Aside0 (∀ w : World, Calls Tryd.prog 66 #[.int .u8 c] w fun e w' => e = .returned (.bool true) ∧ Drawn0 w w') := ⟨fun w => by have z := isChar_any c w; rw [hd] at z; exact z⟩
            have hi1 : i + 1 ≤ v.size := by omega
            have hi2 : i ≤ 1000 := by omega
            clear hRR hc hd ht hJ hi hlt hsh hLL hMM hv1 hv2 hmay hwr HR1
            obtain ⟨hw, hw2⟩ := HWW.out
            go_wp2
            go_quiet ((go_at_call 66; (with_reducible refine (HM.out _).mono ?_); rintro e w' ⟨rfl, ⟨nd, rfl⟩⟩; (try first | exact ⟨rfl, _, World.drewN_drewN _ _ _⟩ | exact ⟨rfl, _, Eq.trans (World.drewN_drewN _ _ _) (congrArg (World.drewN _) (Nat.add_assoc _ _ _))⟩)))
            go_wp2
            go_roundw
            case rel => exact ⟨i + 1, _, by go_num, hi1, HR2, rfl⟩
            case measure => clear hw hw2; simp [intOf]; omega
      · have hi6 : i = v.size := by omega
        subst hi6
        have hRR := HR1.out
        obtain ⟨J, hJ⟩ : ∃ J : Int, (fr : Int) + (v.size : Int) = J := ⟨_, rfl⟩
        rw [enL_end, show ((fr + v.size : Nat) : Int) = J by omega] at hRR
        have hfi : fr + v.size ≤ t.size := by omega
        have j0 : 0 ≤ J := by omega
        have j1 : J ≤ 100000 := by omega
        have hw : wrap64 ((fr : Int) + (v.size : Int)) = J := wrapJ hJ j0 j1
        have hw2 : IntKind.i64.wrap ((fr : Int) + (v.size : Int)) = J := wrapK hJ j0 j1
        have HWW := Aside0.mk (And.intro hw hw2)
        clear hfi j0 j1 hw hw2
        have g13 : decide ((v.size : Int) < (v.size : Int)) = false := decide_eq_false (by omega)
        by_cases hsh : v.size < L
        · rw [if_pos hsh] at hRR
          have hE := HE.out
          rw [← hRR] at hE
          have HE2 := Aside0.mk hE
          have b1 : decide ((v.size : Int) < (L : Int)) = true := decide_eq_true (by omega)
          have b2 : decide (v.size < L) = true := decide_eq_true hsh
          have X := Aside0.mk (fun w => wrong_calls z 3 J w)
          clear hRR hE ht hJ hi hlt hsh hLL hMM hv1 hv2 HR1
          obtain ⟨hw, hw2⟩ := HWW.out
          go_wp2_with (go_at_call 38; go_loud ((with_reducible refine (X.out _).mono ?_); rintro e w3 ⟨rfl, rfl⟩))
          exact ⟨rfl, HE2.out, HB2.out _⟩
        · rw [if_neg hsh] at hRR
          have hE := HE.out
          rw [← hRR] at hE
          have HE2 := Aside0.mk hE
          have b1 : decide ((v.size : Int) < (L : Int)) = false := decide_eq_false (by omega)
          have b2 : decide (v.size < L) = false := decide_eq_false hsh
          clear hRR hE ht hJ hi hlt hsh hLL hMM hv1 hv2 HR1
          obtain ⟨hw, hw2⟩ := HWW.out
          go_wp2
          go_ret
          exact ⟨HE2.out, HB2.out _⟩
end Go.Proofs.YtofagdjijpjlgaaDoor.X
set_option linter.unusedVariables false
set_option linter.unusedSimpArgs false
namespace Go.Proofs.YtofagdjijpjlgaaDoor.X
open Go Go.RowKit Go.Proofs.YtofagdjijpjlgaaDoorW.PrintWords Go.Proofs.YtofagdjijpjlgaaDoorW.PrintLast Go.Proofs.YtofagdjijpjlgaaDoorW.PrintMore Go.Proofs.YtofagdjijpjlgaaDoor.PBase
theorem wrapJm {a b : Int} (e : a = b) (h0 : -1 ≤ b) (h1 : b ≤ 100000) : wrap64 a = b := by rw [e, wrap_id (by omega) (by omega)]
theorem wrapKm {a b : Int} (e : a = b) (h0 : -1 ≤ b) (h1 : b ≤ 100000) : IntKind.i64.wrap a = b := by rw [e, IntKind.wrap_i64]; omega
theorem wfN (i : Nat) (h : i ≤ 9223372036854775807) : (Lit.int .i64 (i : Int)).wf = true := by
  simp [Lit.wf]
  exact ⟨show (-9223372036854775808 : Int) ≤ _ by omega, show _ ≤ (9223372036854775807 : Int) by omega⟩
/-- All blocks but two stay. -/
structure Two (z m : Nat) (W w : World) : Prop where
  os : w.os = W.os
  tape : w.tape = W.tape
  output : w.output = W.output
  size : W.heap.size ≤ w.heap.size
  block : ∀ i, i < W.heap.size → i ≠ z → i ≠ m → w.heap[i]? = W.heap[i]?
variable {W w w' w1 : World} {z m b N : Nat} {sn : Sn} {C : Array Value} {t : ByteArray} {p : Int}
theorem Two.refl (z m : Nat) (W : World) : Two z m W W := ⟨rfl, rfl, rfl, Nat.le_refl _, fun _ _ _ _ => rfl⟩
theorem Two.trans (h : Two z m W w) (h' : Two z m w w') : Two z m W w' :=
  ⟨h'.os.trans h.os, h'.tape.trans h.tape, h'.output.trans h.output, Nat.le_trans h.size h'.size, fun i hi h1 h2 => (h'.block i (by have := h.size; omega) h1 h2).trans (h.block i hi h1 h2)⟩
theorem Two.of_below {B : Nat} (h : Below B w w') (hB : w.heap.size ≤ B) : Two z m w w' := ⟨h.os, h.tape, h.output, h.size, fun i hi _ _ => h.block i (by omega)⟩
theorem Two.below {B : Nat} (h : Two z m W w) (h1 : B ≤ z) (h2 : B ≤ m) (h3 : B ≤ W.heap.size) : Below B W w := ⟨h.os, h.tape, h.output, h.size, fun i hi => h.block i (by omega) (by omega) (by omega)⟩
/-- The scanner, what was seen, a row in its box, the result's box. -/
structure ElG (W : World) (z m b N : Nat) (sn : Sn) (C : Array Value) (t : ByteArray) (p : Int) (w : World) : Prop where
  sc : ScAt w z t p m
  mp : SeenAt w m N sn
  bx : w.heap[b]? = some (.cells C 51 (0, 0))
  rb : w.heap[W.heap.size]? = some (.cells #[.string ⟨#[]⟩, .string ⟨#[]⟩] 23 (0, 0))
  fr : Two z m W w
  ne : z ≠ m ∧ b ≠ z ∧ b ≠ m ∧ z < W.heap.size ∧ m < W.heap.size
theorem ElG.below (h : ElG W z m b N sn C t p w) (hb : Below w.heap.size w w') : ElG W z m b N sn C t p w' :=
  ⟨h.sc.of_block (hb.block z h.sc.lt), h.mp.of_block (hb.block m h.mp.lt), (hb.block b (Array.getElem?_eq_some_iff.1 h.bx).1).trans h.bx, (hb.block _ (Array.getElem?_eq_some_iff.1 h.rb).1).trans h.rb, h.fr.trans (Two.of_below hb (Nat.le_refl _)), h.ne⟩
theorem ElG.put {N' : Nat} {sn' : Sn} (h : ElG W z m b N sn C t p w) (hm : SeenAt w' m N' sn') (hf : ∀ i, i < w.heap.size → i ≠ m → w'.heap[i]? = w.heap[i]?) (hs : w.heap.size ≤ w'.heap.size) (ho : w'.os = w.os) (ht : w'.tape = w.tape) (hu : w'.output = w.output) : ElG W z m b N' sn' C t p w' :=
  ⟨h.sc.of_block (hf z h.sc.lt h.ne.1), hm, (hf b (Array.getElem?_eq_some_iff.1 h.bx).1 h.ne.2.2.1).trans h.bx, (hf _ (Array.getElem?_eq_some_iff.1 h.rb).1 (by have := h.ne.2.2.2.2; omega)).trans h.rb, h.fr.trans ⟨ho, ht, hu, hs, fun i hi _ h2 => hf i hi h2⟩, h.ne⟩
theorem ElG.set (h : ElG W z m b N sn C t p w) (p' : Int) : ElG W z m b N sn C t p' (w.setCell ⟨z, 1, none⟩ (.int .i64 p')) := by
  have hsc : w.heap[z]? = some (.cells #[.string t, .int .i64 p, .map (some m)] 73 (0, 0)) := h.sc
  have hl := (Array.getElem?_eq_some_iff.1 hsc).1
  have hr' : w.heap[z] = .cells #[.string t, .int .i64 p, .map (some m)] 73 (0, 0) := (Array.getElem?_eq_some_iff.1 hsc).2
  have hne := h.ne
  refine ⟨?_, h.mp.of_block (Below.heap_setCell w _ _ m (fun e => hne.1 e.symm)), (Below.heap_setCell w _ _ b hne.2.1).trans h.bx, (Below.heap_setCell w _ _ _ (by show W.heap.size ≠ z; omega)).trans h.rb, h.fr.trans ⟨rfl, rfl, rfl, by simp, fun i _ h1 _ => Below.heap_setCell w _ _ i h1⟩, hne⟩
  show (w.setCell ⟨z, 1, none⟩ (.int .i64 p')).heap[z]? = _
  unfold World.setCell
  rw [Array.getElem?_eq_getElem (by simp; exact hl), Array.getElem_modify, if_pos rfl, hr']
  rfl
theorem ElG.cells {a0 a1 a2 a3 a4 : Value} (h : ElG W z m b N sn #[a0, a1, a2, a3, a4] t p w) : w.cell? ⟨b, 0, none⟩ = some a0 ∧ w.cell? ⟨b, 1, none⟩ = some a1 ∧ w.cell? ⟨b, 2, none⟩ = some a2 ∧ w.cell? ⟨b, 3, none⟩ = some a3 ∧ w.cell? ⟨b, 4, none⟩ = some a4 := by
  have hb := h.bx
  refine ⟨?_, ?_, ?_, ?_, ?_⟩ <;> simp [World.cell?, hb]
theorem ElG.start (hS : ScAt W z t p m) (hM : SeenAt W m N sn) (hzm : z ≠ m) (C : Array Value) (hb : Below (W.alloc (.cells #[.string ⟨#[]⟩, .string ⟨#[]⟩] 23)).heap.size (W.alloc (.cells #[.string ⟨#[]⟩, .string ⟨#[]⟩] 23)) w1) : ElG W z m w1.heap.size N sn C t p (w1.alloc (.cells C 51)) := by
  have hz1 := hb.size
  simp only [World.size_alloc] at hz1
  have hz := hS.lt
  have hm := hM.lt
  have b1 : Below W.heap.size W (w1.alloc (.cells C 51)) := (((Below.refl W.heap.size W).alloc (Nat.le_refl _) _).trans (hb.mono (by simp))).alloc (by omega) _
  refine ⟨hS.of_block (b1.block z hz), hM.of_block (b1.block m hm), heap_alloc_new _ _, ?_, Two.of_below b1 (Nat.le_refl _), hzm, by omega, by omega, hz, hm⟩
  rw [Below.heap_alloc _ _ _ (by omega), hb.block _ (by simp)]
  exact heap_alloc_new W _
/-- The result is laid into its box. -/
theorem ElG.fin (h : ElG W z m b N sn C t p w) (x y : Value) : Two z m W ((w.setCell ⟨W.heap.size, 0, none⟩ x).setCell ⟨W.heap.size, 1, none⟩ y) ∧ ScAt ((w.setCell ⟨W.heap.size, 0, none⟩ x).setCell ⟨W.heap.size, 1, none⟩ y) z t p m ∧ SeenAt ((w.setCell ⟨W.heap.size, 0, none⟩ x).setCell ⟨W.heap.size, 1, none⟩ y) m N sn := by
  have hb : ∀ i, i ≠ W.heap.size → ((w.setCell ⟨W.heap.size, 0, none⟩ x).setCell ⟨W.heap.size, 1, none⟩ y).heap[i]? = w.heap[i]? := fun i hi => (Below.heap_setCell _ _ _ i hi).trans (Below.heap_setCell _ _ _ i hi)
  have hne := h.ne
  exact ⟨⟨h.fr.os, h.fr.tape, h.fr.output, by have := h.fr.size; simp; omega, fun i hi h1 h2 => (hb i (by omega)).trans (h.fr.block i hi h1 h2)⟩, h.sc.of_block (hb z (by omega)), h.mp.of_block (hb m (by omega))⟩
theorem fin_set {W : World} {g o : Nat} {cur : Array Value} {ty : TypeId} {fr : Nat × Nat} {v : Value} (h : W.heap[g]? = some (.cells cur ty fr)) : (W.setCell ⟨g, o, none⟩ v).heap[g]? = some (.cells (cur.setIfInBounds o v) ty fr) := by
  have hl := (Array.getElem?_eq_some_iff.1 h).1
  have hr' : W.heap[g] = .cells cur ty fr := (Array.getElem?_eq_some_iff.1 h).2
  unfold World.setCell
  rw [Array.getElem?_eq_getElem (by simp; exact hl), Array.getElem_modify, if_pos rfl, hr']
  rfl
theorem fin2 {k : Nat} {a a' : Value} (h : w.heap[k]? = some (.cells #[a, a'] 23 (0, 0))) (x y : Value) : ((w.setCell ⟨k, 0, none⟩ x).setCell ⟨k, 1, none⟩ y).cell? ⟨k, 0, none⟩ = some x ∧ ((w.setCell ⟨k, 0, none⟩ x).setCell ⟨k, 1, none⟩ y).cell? ⟨k, 1, none⟩ = some y := by
  have h2 := fin_set (o := 1) (v := y) (fin_set (o := 0) (v := x) h)
  constructor <;> simp [World.cell?, h2]
def outEl : Fl (Row5 × ByteArray × Nat) → Ending
  | .ok (r, v, _) => .returned (.agg #[.string (S r), .string v])
  | .error (c, q) => faultE c q
section
variable {p : Nat} {r : Row5} {v : ByteArray}
theorem elR_row {x : Int × Int} (hrow : rowR t p = .error x) : elR t p sn = .error x := by unfold elR; rw [hrow]
theorem elR_put (hrow : rowR t p = .ok r) (h : putE sn r.ai ≠ 0) : elR t p sn = .error (putE sn r.ai, (p : Int)) := by unfold elR; rw [hrow]; simp only; rw [if_neg h]
theorem elR_val {x : Int × Int} (hrow : rowR t p = .ok r) (h : putE sn r.ai = 0) (hv : valR t r (p + r.ai.length) = .error x) : elR t p sn = .error x := by unfold elR; rw [hrow]; simp only; rw [if_pos h, hv]
theorem elR_wh0 (hrow : rowR t p = .ok r) (h : putE sn r.ai = 0) (hv : valR t r (p + r.ai.length) = .ok v) (hw : wholeOf r.kind v = false) (hk : r.kind = 0) : elR t p sn = .error (22, ((p + r.ai.length + v.size : Nat) : Int) - 1) := by
  unfold elR; rw [hrow]; simp only; rw [if_pos h, hv]; simp only; rw [hw, if_neg Bool.false_ne_true, if_pos hk]
theorem elR_wh1 (hrow : rowR t p = .ok r) (h : putE sn r.ai = 0) (hv : valR t r (p + r.ai.length) = .ok v) (hw : wholeOf r.kind v = false) (hk : r.kind ≠ 0) : elR t p sn = .error (28, ((p + r.ai.length : Nat) : Int)) := by
  unfold elR; rw [hrow]; simp only; rw [if_pos h, hv]; simp only; rw [hw, if_neg Bool.false_ne_true, if_neg hk]
theorem elR_end (hrow : rowR t p = .ok r) (h : putE sn r.ai = 0) (hv : valR t r (p + r.ai.length) = .ok v) (hw : wholeOf r.kind v = true) (hc : ¬ (r.plain = false ∧ p + r.ai.length + v.size < t.size)) : elR t p sn = .ok (r, v, p + r.ai.length + v.size) := by
  unfold elR; rw [hrow]; simp only; rw [if_pos h, hv]; simp only; rw [hw, if_pos rfl, if_neg hc]
theorem elR_tail (hrow : rowR t p = .ok r) (h : putE sn r.ai = 0) (hv : valR t r (p + r.ai.length) = .ok v) (hw : wholeOf r.kind v = true) (hc : r.plain = false ∧ p + r.ai.length + v.size < t.size) (he : p + r.ai.length + v.size + 1 = t.size) : elR t p sn = .error (4, ((p + r.ai.length + v.size : Nat) : Int)) := by
  unfold elR; rw [hrow]; simp only; rw [if_pos h, hv]; simp only; rw [hw, if_pos rfl, if_pos hc, if_pos he]
theorem elR_sep (hrow : rowR t p = .ok r) (h : putE sn r.ai = 0) (hv : valR t r (p + r.ai.length) = .ok v) (hw : wholeOf r.kind v = true) (hc : r.plain = false ∧ p + r.ai.length + v.size < t.size) (he : p + r.ai.length + v.size + 1 ≠ t.size) : elR t p sn = .ok (r, v, p + r.ai.length + v.size + 1) := by
  unfold elR; rw [hrow]; simp only; rw [if_pos h, hv]; simp only; rw [hw, if_pos rfl, if_pos hc, if_neg he]
end
end Go.Proofs.YtofagdjijpjlgaaDoor.X
