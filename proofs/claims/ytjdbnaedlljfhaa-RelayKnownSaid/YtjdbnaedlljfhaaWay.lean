/- The relay's laws on what Check is asked. -/
import Derived.Test.YtjdbnaedlljfhaaWorks
namespace Go.Proofs.Ytjdbnaedlljfhaa
open Go.RowKit Go.ChangeShapes Go.WideShapes

set_option maxRecDepth 100000 in
set_option maxHeartbeats 1000000 in
theorem open_way {H : Type} {enc : TypeId × Value → H} {w : World} {base0 : Nat} {spare : Nat → Bool} {held : Bool} {r : Reach} {b0 : Nat} {v : Value} {d : DataW H} {p : List MemPlace} (hv : Value.okWide Try.prog w r b0 26 v) (h : DataW.Trod enc Try.prog w base0 spare held 26 v d p) :
    ∃ (c f : ByteArray) (stamp base rate delta mn mx : Int) (off : Bool) (ia ie oa oe ht mg : Int), v = .agg #[.string c, .string f, .int .i64 stamp, .int .i64 base, .int .i64 rate, .int .i64 delta, .int .i64 mn, .int .i64 mx, .bool off, .int .i64 ia, .int .i64 ie, .int .i64 oa, .int .i64 oe, .int .i64 ht, .int .i64 mg] := by
  obtain ⟨cs, rfl, hsz⟩ := okWide_struct Try.underlying26 hv
  obtain ⟨l⟩ := cs
  have hC : Try.prog.cellsOf 26 = 15 := by kernel_rfl
  have hC24 : Try.prog.cellsOf 24 = 9 := by kernel_rfl
  match l, hsz.trans hC with
  | [x0, x1, x2, x3, x4, x5, x6, x7, x8, x9, x10, x11, x12, x13, x14], _ =>
    obtain ⟨fuel, hf⟩ := h
    obtain ⟨xs, n, _, _, _, hlen, hg⟩ := DataW.trod_struct Try.underlying26 hf
    match xs, hlen with
    | [y0, y1, y2, y3, y4, y5, y6], _ =>
      have g0 : DataW.trod enc Try.prog w base0 spare held n 24 (([x0, x1, x2, x3, x4, x5, x6, x7, x8, x9, x10, x11, x12, x13, x14].drop 0).take (Try.prog.cellsOf 24)) = some y0 := hg 0 _ rfl
      rw [hC24] at g0
      have g0 : DataW.trod enc Try.prog w base0 spare held n 24 [x0, x1, x2, x3, x4, x5, x6, x7, x8] = some y0 := g0
      obtain ⟨zs, n', _, _, _, hlen', hg'⟩ := DataW.trod_struct Try.underlying24 g0
      match zs, hlen' with
      | [z0, z1, z2, z3, z4, z5, z6, z7, z8], _ =>
        have c0 : Try.prog.cellsOf 9 = 1 := by kernel_rfl
        have j0 : DataW.trod enc Try.prog w base0 spare held n' 9 (([x0, x1, x2, x3, x4, x5, x6, x7, x8].drop 0).take (Try.prog.cellsOf 9)) = some z0 := hg' 0 _ rfl
        rw [c0] at j0
        have j0 : DataW.trod enc Try.prog w base0 spare held n' 9 [x0] = some z0 := j0
        obtain ⟨a0, e0, _, _⟩ := DataW.trod_string Try.underlying9 j0
        simp only [List.cons.injEq, and_true] at e0
        have c1 : Try.prog.cellsOf 22 = 1 := by kernel_rfl
        have j1 : DataW.trod enc Try.prog w base0 spare held n' 22 (([x0, x1, x2, x3, x4, x5, x6, x7, x8].drop 1).take (Try.prog.cellsOf 22)) = some z1 := hg' 1 _ rfl
        rw [c1] at j1
        have j1 : DataW.trod enc Try.prog w base0 spare held n' 22 [x1] = some z1 := j1
        obtain ⟨a1, e1, _, _⟩ := DataW.trod_string Try.underlying22 j1
        simp only [List.cons.injEq, and_true] at e1
        have c2 : Try.prog.cellsOf 2 = 1 := by kernel_rfl
        have j2 : DataW.trod enc Try.prog w base0 spare held n' 2 (([x0, x1, x2, x3, x4, x5, x6, x7, x8].drop 2).take (Try.prog.cellsOf 2)) = some z2 := hg' 2 _ rfl
        rw [c2] at j2
        have j2 : DataW.trod enc Try.prog w base0 spare held n' 2 [x2] = some z2 := j2
        obtain ⟨a2, e2, _, _⟩ := DataW.trod_int Try.underlying2 j2
        simp only [List.cons.injEq, and_true] at e2
        have c3 : Try.prog.cellsOf 2 = 1 := by kernel_rfl
        have j3 : DataW.trod enc Try.prog w base0 spare held n' 2 (([x0, x1, x2, x3, x4, x5, x6, x7, x8].drop 3).take (Try.prog.cellsOf 2)) = some z3 := hg' 3 _ rfl
        rw [c3] at j3
        have j3 : DataW.trod enc Try.prog w base0 spare held n' 2 [x3] = some z3 := j3
        obtain ⟨a3, e3, _, _⟩ := DataW.trod_int Try.underlying2 j3
        simp only [List.cons.injEq, and_true] at e3
        have c4 : Try.prog.cellsOf 2 = 1 := by kernel_rfl
        have j4 : DataW.trod enc Try.prog w base0 spare held n' 2 (([x0, x1, x2, x3, x4, x5, x6, x7, x8].drop 4).take (Try.prog.cellsOf 2)) = some z4 := hg' 4 _ rfl
        rw [c4] at j4
        have j4 : DataW.trod enc Try.prog w base0 spare held n' 2 [x4] = some z4 := j4
        obtain ⟨a4, e4, _, _⟩ := DataW.trod_int Try.underlying2 j4
        simp only [List.cons.injEq, and_true] at e4
        have c5 : Try.prog.cellsOf 3 = 1 := by kernel_rfl
        have j5 : DataW.trod enc Try.prog w base0 spare held n' 3 (([x0, x1, x2, x3, x4, x5, x6, x7, x8].drop 5).take (Try.prog.cellsOf 3)) = some z5 := hg' 5 _ rfl
        rw [c5] at j5
        have j5 : DataW.trod enc Try.prog w base0 spare held n' 3 [x5] = some z5 := j5
        obtain ⟨a5, e5, _, _⟩ := DataW.trod_int Try.underlying3 j5
        simp only [List.cons.injEq, and_true] at e5
        have c6 : Try.prog.cellsOf 2 = 1 := by kernel_rfl
        have j6 : DataW.trod enc Try.prog w base0 spare held n' 2 (([x0, x1, x2, x3, x4, x5, x6, x7, x8].drop 6).take (Try.prog.cellsOf 2)) = some z6 := hg' 6 _ rfl
        rw [c6] at j6
        have j6 : DataW.trod enc Try.prog w base0 spare held n' 2 [x6] = some z6 := j6
        obtain ⟨a6, e6, _, _⟩ := DataW.trod_int Try.underlying2 j6
        simp only [List.cons.injEq, and_true] at e6
        have c7 : Try.prog.cellsOf 2 = 1 := by kernel_rfl
        have j7 : DataW.trod enc Try.prog w base0 spare held n' 2 (([x0, x1, x2, x3, x4, x5, x6, x7, x8].drop 7).take (Try.prog.cellsOf 2)) = some z7 := hg' 7 _ rfl
        rw [c7] at j7
        have j7 : DataW.trod enc Try.prog w base0 spare held n' 2 [x7] = some z7 := j7
        obtain ⟨a7, e7, _, _⟩ := DataW.trod_int Try.underlying2 j7
        simp only [List.cons.injEq, and_true] at e7
        have c8 : Try.prog.cellsOf 4 = 1 := by kernel_rfl
        have j8 : DataW.trod enc Try.prog w base0 spare held n' 4 (([x0, x1, x2, x3, x4, x5, x6, x7, x8].drop 8).take (Try.prog.cellsOf 4)) = some z8 := hg' 8 _ rfl
        rw [c8] at j8
        have j8 : DataW.trod enc Try.prog w base0 spare held n' 4 [x8] = some z8 := j8
        obtain ⟨a8, e8, _⟩ := DataW.trod_bool Try.underlying4 j8
        simp only [List.cons.injEq, and_true] at e8
        have c9 : Try.prog.cellsOf 2 = 1 := by kernel_rfl
        have j9 : DataW.trod enc Try.prog w base0 spare held n 2 (([x0, x1, x2, x3, x4, x5, x6, x7, x8, x9, x10, x11, x12, x13, x14].drop 9).take (Try.prog.cellsOf 2)) = some y1 := hg 1 _ rfl
        rw [c9] at j9
        have j9 : DataW.trod enc Try.prog w base0 spare held n 2 [x9] = some y1 := j9
        obtain ⟨a9, e9, _, _⟩ := DataW.trod_int Try.underlying2 j9
        simp only [List.cons.injEq, and_true] at e9
        have c10 : Try.prog.cellsOf 3 = 1 := by kernel_rfl
        have j10 : DataW.trod enc Try.prog w base0 spare held n 3 (([x0, x1, x2, x3, x4, x5, x6, x7, x8, x9, x10, x11, x12, x13, x14].drop 10).take (Try.prog.cellsOf 3)) = some y2 := hg 2 _ rfl
        rw [c10] at j10
        have j10 : DataW.trod enc Try.prog w base0 spare held n 3 [x10] = some y2 := j10
        obtain ⟨a10, e10, _, _⟩ := DataW.trod_int Try.underlying3 j10
        simp only [List.cons.injEq, and_true] at e10
        have c11 : Try.prog.cellsOf 2 = 1 := by kernel_rfl
        have j11 : DataW.trod enc Try.prog w base0 spare held n 2 (([x0, x1, x2, x3, x4, x5, x6, x7, x8, x9, x10, x11, x12, x13, x14].drop 11).take (Try.prog.cellsOf 2)) = some y3 := hg 3 _ rfl
        rw [c11] at j11
        have j11 : DataW.trod enc Try.prog w base0 spare held n 2 [x11] = some y3 := j11
        obtain ⟨a11, e11, _, _⟩ := DataW.trod_int Try.underlying2 j11
        simp only [List.cons.injEq, and_true] at e11
        have c12 : Try.prog.cellsOf 3 = 1 := by kernel_rfl
        have j12 : DataW.trod enc Try.prog w base0 spare held n 3 (([x0, x1, x2, x3, x4, x5, x6, x7, x8, x9, x10, x11, x12, x13, x14].drop 12).take (Try.prog.cellsOf 3)) = some y4 := hg 4 _ rfl
        rw [c12] at j12
        have j12 : DataW.trod enc Try.prog w base0 spare held n 3 [x12] = some y4 := j12
        obtain ⟨a12, e12, _, _⟩ := DataW.trod_int Try.underlying3 j12
        simp only [List.cons.injEq, and_true] at e12
        have c13 : Try.prog.cellsOf 3 = 1 := by kernel_rfl
        have j13 : DataW.trod enc Try.prog w base0 spare held n 3 (([x0, x1, x2, x3, x4, x5, x6, x7, x8, x9, x10, x11, x12, x13, x14].drop 13).take (Try.prog.cellsOf 3)) = some y5 := hg 5 _ rfl
        rw [c13] at j13
        have j13 : DataW.trod enc Try.prog w base0 spare held n 3 [x13] = some y5 := j13
        obtain ⟨a13, e13, _, _⟩ := DataW.trod_int Try.underlying3 j13
        simp only [List.cons.injEq, and_true] at e13
        have c14 : Try.prog.cellsOf 3 = 1 := by kernel_rfl
        have j14 : DataW.trod enc Try.prog w base0 spare held n 3 (([x0, x1, x2, x3, x4, x5, x6, x7, x8, x9, x10, x11, x12, x13, x14].drop 14).take (Try.prog.cellsOf 3)) = some y6 := hg 6 _ rfl
        rw [c14] at j14
        have j14 : DataW.trod enc Try.prog w base0 spare held n 3 [x14] = some y6 := j14
        obtain ⟨a14, e14, _, _⟩ := DataW.trod_int Try.underlying3 j14
        simp only [List.cons.injEq, and_true] at e14
        exact ⟨a0, a1, a2, a3, a4, a5, a6, a7, a8, a9, a10, a11, a12, a13, a14, by rw [e0, e1, e2, e3, e4, e5, e6, e7, e8, e9, e10, e11, e12, e13, e14]⟩
theorem way_cells {w : World} {b : Nat} (c f : ByteArray) (stamp base rate delta mn mx : Int) (off : Bool) (ia ie oa oe ht mg : Int) (h : w.heap[b]? = some (.cells #[.string c, .string f, .int .i64 stamp, .int .i64 base, .int .i64 rate, .int .i64 delta, .int .i64 mn, .int .i64 mx, .bool off, .int .i64 ia, .int .i64 ie, .int .i64 oa, .int .i64 oe, .int .i64 ht, .int .i64 mg] 26 (0, 0))) :
    w.cell? ⟨b, 0, none⟩ = some (.string c) ∧ w.cell? ⟨b, 1, none⟩ = some (.string f) ∧ w.cell? ⟨b, 2, none⟩ = some (.int .i64 stamp) ∧ w.cell? ⟨b, 3, none⟩ = some (.int .i64 base) ∧ w.cell? ⟨b, 4, none⟩ = some (.int .i64 rate) ∧ w.cell? ⟨b, 5, none⟩ = some (.int .i64 delta) ∧ w.cell? ⟨b, 6, none⟩ = some (.int .i64 mn) ∧ w.cell? ⟨b, 7, none⟩ = some (.int .i64 mx) ∧ w.cell? ⟨b, 8, none⟩ = some (.bool off) ∧ w.cell? ⟨b, 9, none⟩ = some (.int .i64 ia) ∧ w.cell? ⟨b, 10, none⟩ = some (.int .i64 ie) ∧ w.cell? ⟨b, 11, none⟩ = some (.int .i64 oa) ∧ w.cell? ⟨b, 12, none⟩ = some (.int .i64 oe) ∧ w.cell? ⟨b, 13, none⟩ = some (.int .i64 ht) ∧ w.cell? ⟨b, 14, none⟩ = some (.int .i64 mg) := by
  simp [World.cell?, h]
set_option maxRecDepth 100000 in
set_option maxHeartbeats 1000000 in
theorem checkw_any (c f : ByteArray) (stamp base rate delta mn mx : Int) (off : Bool) (ia ie oa oe ht mg : Int) (w : World) (x : Int) (hx : checkE base rate delta mn mx off ia ie oa oe ht mg = x) : Calls Try.prog 9 #[.agg #[.string c, .string f, .int .i64 stamp, .int .i64 base, .int .i64 rate, .int .i64 delta, .int .i64 mn, .int .i64 mx, .bool off, .int .i64 ia, .int .i64 ie, .int .i64 oa, .int .i64 oe, .int .i64 ht, .int .i64 mg]] w fun e w' => e = .returned (.int .i64 x) ∧ Below w.heap.size w w' := by
  subst hx
  generalize hx : checkE base rate delta mn mx off ia ie oa oe ht mg = x
  have HC := Lib.hid (fun w => check_any c f stamp base rate delta mn mx off ia ie oa oe ht mg w)
  rw [hx] at HC
  clear hx
  go_enter Try.func9, Try.ntmps9
  go_wp2_with (go_at_call 28; (with_reducible refine Calls.mono (HC.out _) ?_); rintro e w1 ⟨rfl, hb1⟩)
  go_ret
  exact ⟨rfl, (by (repeat' (first | (with_reducible exact Below.refl _ _) | (with_reducible refine Below.alloc ?_ ?_ _) | (with_reducible refine Below.drew ?_) | (with_reducible refine Below.setCell ?_ ?_ _) | (with_reducible refine below_drewN ?_ _) | (refine Below.trans ?_ (Below.mono (by assumption) ?_)) | go_size | (simp [World.setCell]; omega))))⟩
theorem checkrx_any (c f : ByteArray) (stamp base rate delta mn mx : Int) (off : Bool) (ia ie oa oe ht mg : Int) (w : World) (x : Int) (hx : checkE base rate delta mn mx off ia ie oa oe ht mg = x) : Calls Try.prog 10 #[.agg #[.string c, .string f, .int .i64 stamp, .int .i64 base, .int .i64 rate, .int .i64 delta, .int .i64 mn, .int .i64 mx, .bool off], .int .i64 ia, .int .i64 ie, .int .i64 oa, .int .i64 oe, .int .i64 ht, .int .i64 mg] w fun e w' => e = .returned (.int .i64 x) ∧ Below w.heap.size w w' :=
  hx ▸ checkr_any c f stamp base rate delta mn mx off ia ie oa oe ht mg w
set_option maxRecDepth 100000 in
set_option maxHeartbeats 4000000 in
theorem relayChecks_any (c f : ByteArray) (stamp base rate delta mn mx : Int) (off : Bool) (ia ie oa oe ht mg : Int) (w : World) : Calls Try.prog 3 #[.agg #[.string c, .string f, .int .i64 stamp, .int .i64 base, .int .i64 rate, .int .i64 delta, .int .i64 mn, .int .i64 mx, .bool off, .int .i64 ia, .int .i64 ie, .int .i64 oa, .int .i64 oe, .int .i64 ht, .int .i64 mg]] w fun e w' => e = .returned (.bool true) ∧ Below w.heap.size w w' := by
  obtain ⟨x, hx⟩ : ∃ x, checkE base rate delta mn mx off ia ie oa oe ht mg = x := ⟨_, rfl⟩
  have H1 := Lib.hid (fun w => checkw_any c f stamp base rate delta mn mx off ia ie oa oe ht mg w x hx)
  have H2 := Lib.hid (fun w => checkrx_any c f stamp base rate delta mn mx off ia ie oa oe ht mg w x hx)
  clear hx
  go_enter Try.func3, Try.ntmps3
  go_wp2
  have b1 := heap_alloc_at w (.cells #[.string c, .string f, .int .i64 stamp, .int .i64 base, .int .i64 rate, .int .i64 delta, .int .i64 mn, .int .i64 mx, .bool off, .int .i64 ia, .int .i64 ie, .int .i64 oa, .int .i64 oe, .int .i64 ht, .int .i64 mg] 26)
  have hb : Below w.heap.size w (w.alloc (.cells #[.string c, .string f, .int .i64 stamp, .int .i64 base, .int .i64 rate, .int .i64 delta, .int .i64 mn, .int .i64 mx, .bool off, .int .i64 ia, .int .i64 ie, .int .i64 oa, .int .i64 oe, .int .i64 ht, .int .i64 mg] 26)) := (Below.refl _ _).alloc (Nat.le_refl _) _
  generalize w.alloc (.cells #[.string c, .string f, .int .i64 stamp, .int .i64 base, .int .i64 rate, .int .i64 delta, .int .i64 mn, .int .i64 mx, .bool off, .int .i64 ia, .int .i64 ie, .int .i64 oa, .int .i64 oe, .int .i64 ht, .int .i64 mg] 26) = w1 at b1 hb ⊢
  obtain ⟨g0, g1, g2, g3, g4, g5, g6, g7, g8, g9, g10, g11, g12, g13, g14⟩ := way_cells c f stamp base rate delta mn mx off ia ie oa oe ht mg b1
  replace g0 := Later.cell g0; replace g1 := Later.cell g1; replace g2 := Later.cell g2; replace g3 := Later.cell g3; replace g4 := Later.cell g4; replace g5 := Later.cell g5; replace g6 := Later.cell g6; replace g7 := Later.cell g7; replace g8 := Later.cell g8; replace g9 := Later.cell g9; replace g10 := Later.cell g10; replace g11 := Later.cell g11; replace g12 := Later.cell g12; replace g13 := Later.cell g13; replace g14 := Later.cell g14
  have HB := Lib.hid hb
  clear b1 hb
  refine wp_region_later (by kernel_rfl) (by kernel_rfl) ?_
  repeat (go_big_quiet_step (first | (go_at_call 9; exact calls_later (H1.out _)) | (go_at_call 10; exact calls_later (H2.out _)) | (go_at_call 11; exact calls_later (works_any _))))
  refine wpQuiet_nil ?_
  intro _ hw'
  obtain ⟨nq, rfl⟩ := hw'
  go_wp2
  go_ret
  exact ⟨rfl, HB.out.trans (nq.below.mono HB.out.size)⟩
end Go.Proofs.Ytjdbnaedlljfhaa
