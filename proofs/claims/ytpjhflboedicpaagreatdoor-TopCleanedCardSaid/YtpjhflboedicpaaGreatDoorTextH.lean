/- Short texts of functions of the program, each with the proof that a call comes to it. No condition. -/
import Derived.Test.YtpjhflboedicpaaGreatDoorNames
set_option linter.unusedVariables false
set_option linter.unusedSimpArgs false
namespace Go.Proofs.YtpjhflboedicpaaGreatDoor
open Go Go.W
set_option maxRecDepth 100000
noncomputable abbrev zf2c_B : Code := (Tryz.f87.body).getD .skip
abbrev zf2c_q1 (R : Int → World → Prop) := (topQ P [.tmp 4] I R)
abbrev zf2c_l1 : Slots := [(0, .sl), (1, .v)]
abbrev zf2c_l2 : Slots := [(0, .sl), (1, .v)]
abbrev zf2c_l3 : Slots := []
def zf2c_2 (R : Int → World → Prop) : World → Prop :=
 R (-1)
abbrev zf2c_q2 (R : Int → World → Prop) := (thenQ (fun env => getE env zf2c_l3 fun (x : Unit) => zf2c_2 R) (zf2c_q1 R))
abbrev zf2c_l4 : Slots := [(0, .sl), (1, .v)]
abbrev zf2c_l5 : Slots := [(8, I)]
abbrev zf2c_l6 : Slots := [(0, .sl), (1, .v), (7, I)]
abbrev zf2c_q3 (c1 : (Int × Unit) → (Sl × Value × Int × Unit) → World → Prop) (R : Int → World → Prop) := (thenQ (fun env => getE env zf2c_l5 fun (s : Int × Unit) => getE env zf2c_l6 (c1 s)) (blockQ 0 ((zf2c_q2 R) .normal) (zf2c_q2 R)))
def zf2c_5 (c1 : (Int × Unit) → (Sl × Value × Int × Unit) → World → Prop) (R : Int → World → Prop) (v8 : Int) (s_0 : Sl) (f_1 : Value) (v7 : Int) : World → Prop :=
 mif (decide (v8 < v7))
 (ixa P zt8 (Sl.v s_0) v8 fun x1 =>
 ld P zth x1 zk6 fun (x2 : zT6) =>
 mdyn P f_1 [.agg #[.int .i64 x2.1, .int .i64 x2.2.1, .int .i64 x2.2.2.1.1, .int .i64 x2.2.2.1.2.1, .int .i64 x2.2.2.1.2.2.1, .int .i64 x2.2.2.1.2.2.2.1, .int .i64 x2.2.2.1.2.2.2.2.1.1, .int .i64 x2.2.2.1.2.2.2.2.1.2.1, .int .i64 x2.2.2.1.2.2.2.2.1.2.2.1, .int .i64 x2.2.2.1.2.2.2.2.1.2.2.2.1, .int .i64 x2.2.2.1.2.2.2.2.2.1, .int .i64 x2.2.2.1.2.2.2.2.2.2.1]] .b fun (x3 : Bool) =>
 mif x3
 (R v8)
 (c1 (w64 (v8 + 1), ()) (s_0, f_1, v7, ())))
 (zf2c_2 R)
def zf2c_4 (R : Int → World → Prop) (v8 : Int) (s_0 : Sl) (f_1 : Value) (v7 : Int) : World → Prop :=
 W.Loop (s_0, f_1, v7, ()) (fun (c1 : (Int × Unit) → (Sl × Value × Int × Unit) → World → Prop) (s : Int × Unit) => zf2c_5 c1 R s.1 s_0 f_1 v7) (v8, ())
def zf2c_3 (R : Int → World → Prop) (s_0 : Sl) (f_1 : Value) : World → Prop :=
 zf2c_4 R 0 s_0 f_1 (s_0.len : Int)
def zf2c_1 (R : Int → World → Prop) (s_0 : Sl) (f_1 : Value) : World → Prop :=
 zf2c_3 R s_0 f_1
def zf2c_0 (R : Int → World → Prop) (s_0 : Sl) (f_1 : Value) : World → Prop :=
 zf2c_1 R s_0 f_1
theorem zf2c_2_ok (R : Int → World → Prop) (x : Unit) (w : World) (h : zf2c_2 R w) : WPC P 19 [] (Code.at zf2c_B [.snd, .snd]) (zf2c_q1 R) (mkE 19 zf2c_l3 x) w :=
  pc_end h
theorem zf2c_5_ok (c1 : (Int × Unit) → (Sl × Value × Int × Unit) → World → Prop) (R : Int → World → Prop) (x : Int × Unit) (y : Sl × Value × Int × Unit) (w : World) (h : zf2c_5 c1 R x.1 y.1 y.2.1 y.2.2.1 w) : WPC P 19 [] (Code.at zf2c_B [.snd, .fst, .snd, .blk, .blk]) (zf2c_q3 c1 R) (mkE2 19 zf2c_l5 zf2c_l6 x y) w :=
  pc_end h
theorem zf2c_4_ok (R : Int → World → Prop) (x : Int × Unit) (y : Sl × Value × Int × Unit) (w : World) (h : zf2c_4 R x.1 y.1 y.2.1 y.2.2.1 w) : WPC P 19 [] (Code.at zf2c_B [.snd, .fst, .snd]) (zf2c_q2 R) (mkE2 19 zf2c_l5 zf2c_l6 x y) w :=
  pc_loopE (l := zf2c_l5) (l' := zf2c_l6) (id := 0) (b := (Code.at zf2c_B [.snd, .fst, .snd, .blk, .blk])) (fun c1 s => zf2c_5_ok c1 R s y) h
theorem zf2c_3_ok (R : Int → World → Prop) (x : Sl × Value × Unit) (w : World) (h : zf2c_3 R x.1 x.2.1 w) : WPC P 19 [] (Code.at zf2c_B [.snd, .fst]) (zf2c_q2 R) (mkE 19 zf2c_l4 x) w :=
  pc_cut2 (l := zf2c_l5) (l' := zf2c_l6) 1 (zf2c_4_ok R) h
theorem zf2c_1_ok (R : Int → World → Prop) (x : Sl × Value × Unit) (w : World) (h : zf2c_1 R x.1 x.2.1 w) : WPC P 19 [] (Code.at zf2c_B [.snd]) (zf2c_q1 R) (mkE 19 zf2c_l2 x) w :=
  pc_seq (l := zf2c_l3) (a := (Code.at zf2c_B [.snd, .fst])) (b := (Code.at zf2c_B [.snd, .snd])) (pc_cut (l := zf2c_l4) (c := (Code.at zf2c_B [.snd, .fst])) 0 (zf2c_3_ok R) h) (zf2c_2_ok R)
theorem zf2c_0_ok (R : Int → World → Prop) (x : Sl × Value × Unit) (w : World) (h : zf2c_0 R x.1 x.2.1 w) : WPC P 19 [] (Code.at zf2c_B []) (zf2c_q1 R) (mkE 19 zf2c_l1 x) w :=
  pc_cut (l := zf2c_l2) 1 (zf2c_1_ok R) h
theorem zf2c_call (R : Int → World → Prop) (s_0 : Sl) (f_1 : Value) (w : World) (h : zf2c_0 R s_0 f_1 w) : mcall P n_zf2c [(Sl.v s_0), f_1] I R w :=
  pc_top (l := zf2c_l1) (c := zf2c_B) Tryz.func87 (zf2c_0_ok R) h
noncomputable abbrev zf2d_B : Code := (Tryz.f88.body).getD .skip
abbrev zf2d_q1 (R : (Int × Bs × Int × Unit) → World → Prop) := (topQ P [.tmp 2, .tmp 3, .tmp 4] (.tup [I, .s, I]) R)
abbrev zf2d_l1 : Slots := [(0, .s)]
abbrev zf2d_l2 : Slots := [(5, I)]
abbrev zf2d_l3 : Slots := [(0, .s)]
abbrev zf2d_l4 : Slots := [(0, .s), (5, I)]
abbrev zf2d_l5 : Slots := [(0, .s), (5, I), (6, (.i .u64))]
abbrev zf2d_l6 : Slots := [(0, .s), (5, I), (6, (.i .u64))]
abbrev zf2d_l7 : Slots := [(0, .s), (5, I), (8, I)]
def zf2d_5 (R : (Int × Bs × Int × Unit) → World → Prop) (s_0 : Bs) (k_5 : Int) (n_8 : Int) : World → Prop :=
 mdraw <|
 sls P zt4 s_0 none (some (w64 (k_5 + 1))) fun x1 =>
 mcall P n_zf3q [(.int .i64 n_8)] .s fun (x2 : Bs) =>
 mst P (Instr.sliceAt zt4 (.string ⟨s_0.toArray⟩) none (some (.int .i64 (w64 (k_5 + 1)))) none) (.string ⟨x1.toArray⟩) <|
 mif (!(x2 == x1))
 (R (0, [], 2, ()))
 (mdraw <|
 sls P zt4 s_0 (some (w64 (k_5 + 1))) none fun x3 =>
 R (n_8, x3, 0, ()))
def zf2d_4 (R : (Int × Bs × Int × Unit) → World → Prop) (s_0 : Bs) (k_5 : Int) (u_6 : Int) : World → Prop :=
 mif ((u_6.tmod 2) == 1)
 (zf2d_5 R s_0 k_5 (w64 ((w64 (0 - (w64 (wr64 (u_6.tdiv 2))))) - 1)))
 (zf2d_5 R s_0 k_5 (w64 (wr64 (u_6.tdiv 2))))
abbrev zf2d_q2 (R : (Int × Bs × Int × Unit) → World → Prop) := (thenQ (fun env => getE env zf2d_l6 fun (x : Bs × Int × Int × Unit) => zf2d_4 R x.1 x.2.1 x.2.2.1) (zf2d_q1 R))
abbrev zf2d_l8 : Slots := [(0, .s), (5, I), (6, (.i .u64))]
abbrev zf2d_l9 : Slots := [(6, (.i .u64)), (7, I)]
abbrev zf2d_l10 : Slots := [(0, .s), (5, I)]
abbrev zf2d_q3 (c1 : (Int × Int × Unit) → (Bs × Int × Unit) → World → Prop) (R : (Int × Bs × Int × Unit) → World → Prop) := (thenQ (fun env => getE env zf2d_l9 fun (s : Int × Int × Unit) => getE env zf2d_l10 (c1 s)) (blockQ 2 ((zf2d_q2 R) .normal) (zf2d_q2 R)))
def zf2d_8 (c1 : (Int × Int × Unit) → (Bs × Int × Unit) → World → Prop) (R : (Int × Bs × Int × Unit) → World → Prop) (u_6 : Int) (i_7 : Int) (s_0 : Bs) (k_5 : Int) : World → Prop :=
 mif (decide (i_7 ≥ 0))
 (ixs P zt4 s_0 i_7 fun x4 =>
 c1 (wr64 ((wr64 (u_6 * 128)) + ((wr64 x4).tmod 128)), w64 (i_7 - 1), ()) (s_0, k_5, ()))
 (zf2d_4 R s_0 k_5 u_6)
def zf2d_7 (R : (Int × Bs × Int × Unit) → World → Prop) (u_6 : Int) (i_7 : Int) (s_0 : Bs) (k_5 : Int) : World → Prop :=
 W.Loop (s_0, k_5, ()) (fun (c1 : (Int × Int × Unit) → (Bs × Int × Unit) → World → Prop) (s : Int × Int × Unit) => zf2d_8 c1 R s.1 s.2.1 s_0 k_5) (u_6, i_7, ())
def zf2d_6 (R : (Int × Bs × Int × Unit) → World → Prop) (s_0 : Bs) (k_5 : Int) (u_6 : Int) : World → Prop :=
 zf2d_7 R u_6 k_5 s_0 k_5
def zf2d_3 (R : (Int × Bs × Int × Unit) → World → Prop) (s_0 : Bs) (k_5 : Int) (u_6 : Int) : World → Prop :=
 zf2d_6 R s_0 k_5 u_6
def zf2d_2 (R : (Int × Bs × Int × Unit) → World → Prop) (s_0 : Bs) (k_5 : Int) : World → Prop :=
 mif (k_5 == (s_0.length : Int))
 (R (0, [], 2, ()))
 (mif (k_5 == 10)
 (R (0, [], 2, ()))
 (zf2d_3 R s_0 k_5 0))
abbrev zf2d_q4 (c1 : (Int × Unit) → (Bs × Unit) → World → Prop) (R : (Int × Bs × Int × Unit) → World → Prop) := (thenQ (fun env => getE env zf2d_l2 fun (s : Int × Unit) => getE env zf2d_l3 (c1 s)) (blockQ 0 (fun env => getE env zf2d_l4 fun (x : Bs × Int × Unit) => zf2d_2 R x.1 x.2.1) (zf2d_q1 R)))
def zf2d_9 (c1 : (Int × Unit) → (Bs × Unit) → World → Prop) (R : (Int × Bs × Int × Unit) → World → Prop) (k_5 : Int) (s_0 : Bs) : World → Prop :=
 mif (decide (k_5 < (s_0.length : Int)))
 (mif (decide (k_5 < 10))
 (ixs P zt4 s_0 k_5 fun x5 =>
 mif (decide (x5 > 127))
 (c1 (w64 (k_5 + 1), ()) (s_0, ()))
 (zf2d_2 R s_0 k_5))
 (zf2d_2 R s_0 k_5))
 (zf2d_2 R s_0 k_5)
def zf2d_1 (R : (Int × Bs × Int × Unit) → World → Prop) (k_5 : Int) (s_0 : Bs) : World → Prop :=
 W.Loop (s_0, ()) (fun (c1 : (Int × Unit) → (Bs × Unit) → World → Prop) (s : Int × Unit) => zf2d_9 c1 R s.1 s_0) (k_5, ())
def zf2d_0 (R : (Int × Bs × Int × Unit) → World → Prop) (s_0 : Bs) : World → Prop :=
 zf2d_1 R 0 s_0
theorem zf2d_5_ok (R : (Int × Bs × Int × Unit) → World → Prop) (x : Bs × Int × Int × Unit) (w : World) (h : zf2d_5 R x.1 x.2.1 x.2.2.1 w) : WPC P 67 [] (Code.at zf2d_B [.snd, .snd, .snd, .snd, .snd, .snd, .snd, .snd]) (zf2d_q1 R) (mkE 67 zf2d_l7 x) w :=
  pc_end h
theorem zf2d_4_ok (R : (Int × Bs × Int × Unit) → World → Prop) (x : Bs × Int × Int × Unit) (w : World) (h : zf2d_4 R x.1 x.2.1 x.2.2.1 w) : WPC P 67 [] (Code.at zf2d_B [.snd, .snd, .snd, .snd, .snd, .snd]) (zf2d_q1 R) (mkE 67 zf2d_l6 x) w :=
  pc_cut (l := zf2d_l7) 2 (zf2d_5_ok R) h
theorem zf2d_8_ok (c1 : (Int × Int × Unit) → (Bs × Int × Unit) → World → Prop) (R : (Int × Bs × Int × Unit) → World → Prop) (x : Int × Int × Unit) (y : Bs × Int × Unit) (w : World) (h : zf2d_8 c1 R x.1 x.2.1 y.1 y.2.1 w) : WPC P 67 [] (Code.at zf2d_B [.snd, .snd, .snd, .snd, .snd, .fst, .snd, .blk, .blk]) (zf2d_q3 c1 R) (mkE2 67 zf2d_l9 zf2d_l10 x y) w :=
  pc_end h
theorem zf2d_7_ok (R : (Int × Bs × Int × Unit) → World → Prop) (x : Int × Int × Unit) (y : Bs × Int × Unit) (w : World) (h : zf2d_7 R x.1 x.2.1 y.1 y.2.1 w) : WPC P 67 [] (Code.at zf2d_B [.snd, .snd, .snd, .snd, .snd, .fst, .snd]) (zf2d_q2 R) (mkE2 67 zf2d_l9 zf2d_l10 x y) w :=
  pc_loopE (l := zf2d_l9) (l' := zf2d_l10) (id := 2) (b := (Code.at zf2d_B [.snd, .snd, .snd, .snd, .snd, .fst, .snd, .blk, .blk])) (fun c1 s => zf2d_8_ok c1 R s y) h
theorem zf2d_6_ok (R : (Int × Bs × Int × Unit) → World → Prop) (x : Bs × Int × Int × Unit) (w : World) (h : zf2d_6 R x.1 x.2.1 x.2.2.1 w) : WPC P 67 [] (Code.at zf2d_B [.snd, .snd, .snd, .snd, .snd, .fst]) (zf2d_q2 R) (mkE 67 zf2d_l8 x) w :=
  pc_cut2 (l := zf2d_l9) (l' := zf2d_l10) 1 (zf2d_7_ok R) h
theorem zf2d_3_ok (R : (Int × Bs × Int × Unit) → World → Prop) (x : Bs × Int × Int × Unit) (w : World) (h : zf2d_3 R x.1 x.2.1 x.2.2.1 w) : WPC P 67 [] (Code.at zf2d_B [.snd, .snd, .snd, .snd, .snd]) (zf2d_q1 R) (mkE 67 zf2d_l5 x) w :=
  pc_seq (l := zf2d_l6) (a := (Code.at zf2d_B [.snd, .snd, .snd, .snd, .snd, .fst])) (b := (Code.at zf2d_B [.snd, .snd, .snd, .snd, .snd, .snd])) (pc_cut (l := zf2d_l8) (c := (Code.at zf2d_B [.snd, .snd, .snd, .snd, .snd, .fst])) 0 (zf2d_6_ok R) h) (zf2d_4_ok R)
theorem zf2d_2_ok (R : (Int × Bs × Int × Unit) → World → Prop) (x : Bs × Int × Unit) (w : World) (h : zf2d_2 R x.1 x.2.1 w) : WPC P 67 [] (Code.at zf2d_B [.snd, .snd, .snd]) (zf2d_q1 R) (mkE 67 zf2d_l4 x) w :=
  pc_cut (l := zf2d_l5) 2 (zf2d_3_ok R) h
theorem zf2d_9_ok (c1 : (Int × Unit) → (Bs × Unit) → World → Prop) (R : (Int × Bs × Int × Unit) → World → Prop) (x : Int × Unit) (y : Bs × Unit) (w : World) (h : zf2d_9 c1 R x.1 y.1 w) : WPC P 67 [] (Code.at zf2d_B [.snd, .snd, .fst, .blk, .blk]) (zf2d_q4 c1 R) (mkE2 67 zf2d_l2 zf2d_l3 x y) w :=
  pc_end h
theorem zf2d_1_ok (R : (Int × Bs × Int × Unit) → World → Prop) (x : Int × Unit) (y : Bs × Unit) (w : World) (h : zf2d_1 R x.1 y.1 w) : WPC P 67 [] (Code.at zf2d_B [.snd, .snd]) (zf2d_q1 R) (mkE2 67 zf2d_l2 zf2d_l3 x y) w :=
  pc_loopR (l := zf2d_l2) (l' := zf2d_l3) (lr := zf2d_l4) (FR := fun (x : Bs × Int × Unit) => zf2d_2 R x.1 x.2.1) (id := 0) (b := (Code.at zf2d_B [.snd, .snd, .fst, .blk, .blk])) (rest := (Code.at zf2d_B [.snd, .snd, .snd])) (fun c1 s => zf2d_9_ok c1 R s y) (zf2d_2_ok R) h
theorem zf2d_0_ok (R : (Int × Bs × Int × Unit) → World → Prop) (x : Bs × Unit) (w : World) (h : zf2d_0 R x.1 w) : WPC P 67 [] (Code.at zf2d_B []) (zf2d_q1 R) (mkE 67 zf2d_l1 x) w :=
  pc_cut2 (l := zf2d_l2) (l' := zf2d_l3) 2 (zf2d_1_ok R) h
theorem zf2d_call (R : (Int × Bs × Int × Unit) → World → Prop) (s_0 : Bs) (w : World) (h : zf2d_0 R s_0 w) : mcall P n_zf2d [(.string ⟨s_0.toArray⟩)] (.tup [I, .s, I]) R w :=
  pc_top (l := zf2d_l1) (c := zf2d_B) Tryz.func88 (zf2d_0_ok R) h
noncomputable abbrev zf2e_B : Code := (Tryz.f89.body).getD .skip
abbrev zf2e_q1 (R : zT5 → World → Prop) := (topQ P [.cell 4 ztg] zk5 R)
abbrev zf2e_l1 : Slots := [(0, zk5), (1, I)]
abbrev zf2e_l2 : Slots := [(1, I), (2, .ad), (4, .ad), (5, .ad)]
abbrev zf2e_l3 : Slots := [(1, I), (2, .ad), (4, .ad), (5, .ad)]
abbrev zf2e_l4 : Slots := [(2, .ad), (4, .ad), (5, .ad), (7, I)]
abbrev zf2e_l5 : Slots := [(2, .ad), (4, .ad), (5, .ad), (7, I)]
abbrev zf2e_l6 : Slots := [(2, .ad), (4, .ad), (5, .ad), (7, I)]
abbrev zf2e_l7 : Slots := [(4, .ad), (5, .ad)]
def zf2e_6 (R : zT5 → World → Prop) (v4 : Addr) (b_5 : Addr) : World → Prop :=
 ld P ztg b_5 zk5 fun (x26 : zT5) =>
 sto P ztg v4 zk5 x26 <|
 ld P ztg v4 zk5 fun (x27 : zT5) =>
 R x27
def zf2e_5 (R : zT5 → World → Prop) (a_2 : Addr) (v4 : Addr) (b_5 : Addr) (quarter_7 : Int) : World → Prop :=
 mif (quarter_7 == 3)
 (ld P zt1 (ad a_2 9) I fun (x24 : Int) =>
 mcall P n_zf3r [(.int .i64 x24), (.int .i64 (-1))] I fun (x25 : Int) =>
 sto P zt1 (ad b_5 9) I x25 <|
 zf2e_6 R v4 b_5)
 (zf2e_6 R v4 b_5)
def zf2e_4 (R : zT5 → World → Prop) (a_2 : Addr) (v4 : Addr) (b_5 : Addr) (quarter_7 : Int) : World → Prop :=
 mif (quarter_7 == 2)
 (ld P zt1 (ad a_2 8) I fun (x22 : Int) =>
 mcall P n_zf3r [(.int .i64 x22), (.int .i64 (-1))] I fun (x23 : Int) =>
 sto P zt1 (ad b_5 8) I x23 <|
 zf2e_5 R a_2 v4 b_5 quarter_7)
 (zf2e_5 R a_2 v4 b_5 quarter_7)
def zf2e_3 (R : zT5 → World → Prop) (a_2 : Addr) (v4 : Addr) (b_5 : Addr) (quarter_7 : Int) : World → Prop :=
 mif (quarter_7 == 1)
 (ld P zt1 (ad a_2 9) I fun (x20 : Int) =>
 mcall P n_zf3r [(.int .i64 x20), (.int .i64 1)] I fun (x21 : Int) =>
 sto P zt1 (ad b_5 9) I x21 <|
 zf2e_4 R a_2 v4 b_5 quarter_7)
 (zf2e_4 R a_2 v4 b_5 quarter_7)
def zf2e_2 (R : zT5 → World → Prop) (v_1 : Int) (a_2 : Addr) (v4 : Addr) (b_5 : Addr) : World → Prop :=
 ld P zt1 a_2 I fun (x9 : Int) =>
 mcall P n_zf3r [(.int .i64 x9), (.int .i64 1)] I fun (x10 : Int) =>
 sto P zt1 b_5 I x10 <|
 ld P zt1 (ad a_2 1) I fun (x11 : Int) =>
 mcall P n_zf3r [(.int .i64 x11), (.int .i64 v_1)] I fun (x12 : Int) =>
 sto P zt1 (ad b_5 1) I x12 <|
 mcall P n_zf3s [(.int .i64 v_1)] I fun (x13 : Int) =>
 ixa P ztf (.pointer (some (ad a_2 4))) x13 fun x14 =>
 ld P zt1 x14 I fun (x15 : Int) =>
 mcall P n_zf3r [(.int .i64 x15), (.int .i64 1)] I fun (x16 : Int) =>
 ixa P ztf (.pointer (some (ad b_5 4))) x13 fun x17 =>
 sto P zt1 x17 I x16 <|
 mif (((w64 ((v_1.tmod 4) + 4)).tmod 4) == 0)
 (ld P zt1 (ad a_2 8) I fun (x18 : Int) =>
 mcall P n_zf3r [(.int .i64 x18), (.int .i64 1)] I fun (x19 : Int) =>
 sto P zt1 (ad b_5 8) I x19 <|
 zf2e_3 R a_2 v4 b_5 ((w64 ((v_1.tmod 4) + 4)).tmod 4))
 (zf2e_3 R a_2 v4 b_5 ((w64 ((v_1.tmod 4) + 4)).tmod 4))
def zf2e_1 (R : zT5 → World → Prop) (v_1 : Int) (a_2 : Addr) (v4 : Addr) (b_5 : Addr) : World → Prop :=
 ld P zt1 a_2 I fun (x7 : Int) =>
 mif (x7 == 0)
 (sto P zt1 (ad b_5 3) I v_1 <|
 zf2e_2 R v_1 a_2 v4 b_5)
 (ld P zt1 (ad a_2 3) I fun (x8 : Int) =>
 mif (decide (v_1 > x8))
 (sto P zt1 (ad b_5 3) I v_1 <|
 zf2e_2 R v_1 a_2 v4 b_5)
 (zf2e_2 R v_1 a_2 v4 b_5))
def zf2e_0 (R : zT5 → World → Prop) (a_0 : zT5) (v_1 : Int) : World → Prop :=
 bx P ztg zk5 a_0 fun a1 =>
 alo P ztg fun a2 =>
 ld P ztg a1 zk5 fun (x3 : zT5) =>
 alo P ztg fun a4 =>
 sto P ztg a4 zk5 x3 <|
 ld P zt1 a1 I fun (x5 : Int) =>
 mif (x5 == 0)
 (sto P zt1 (ad a4 2) I v_1 <|
 zf2e_1 R v_1 a1 a2 a4)
 (ld P zt1 (ad a1 2) I fun (x6 : Int) =>
 mif (decide (v_1 < x6))
 (sto P zt1 (ad a4 2) I v_1 <|
 zf2e_1 R v_1 a1 a2 a4)
 (zf2e_1 R v_1 a1 a2 a4))
theorem zf2e_6_ok (R : zT5 → World → Prop) (x : Addr × Addr × Unit) (w : World) (h : zf2e_6 R x.1 x.2.1 w) : WPC P 79 [] (Code.at zf2e_B [.snd, .snd, .snd, .snd, .snd, .snd, .snd, .snd, .snd, .snd, .snd, .snd, .snd]) (zf2e_q1 R) (mkE 79 zf2e_l7 x) w :=
  pc_end h
theorem zf2e_5_ok (R : zT5 → World → Prop) (x : Addr × Addr × Addr × Int × Unit) (w : World) (h : zf2e_5 R x.1 x.2.1 x.2.2.1 x.2.2.2.1 w) : WPC P 79 [] (Code.at zf2e_B [.snd, .snd, .snd, .snd, .snd, .snd, .snd, .snd, .snd, .snd, .snd, .snd]) (zf2e_q1 R) (mkE 79 zf2e_l6 x) w :=
  pc_cut (l := zf2e_l7) 1 (zf2e_6_ok R) h
theorem zf2e_4_ok (R : zT5 → World → Prop) (x : Addr × Addr × Addr × Int × Unit) (w : World) (h : zf2e_4 R x.1 x.2.1 x.2.2.1 x.2.2.2.1 w) : WPC P 79 [] (Code.at zf2e_B [.snd, .snd, .snd, .snd, .snd, .snd, .snd, .snd, .snd, .snd, .snd]) (zf2e_q1 R) (mkE 79 zf2e_l5 x) w :=
  pc_cut (l := zf2e_l6) 1 (zf2e_5_ok R) h
theorem zf2e_3_ok (R : zT5 → World → Prop) (x : Addr × Addr × Addr × Int × Unit) (w : World) (h : zf2e_3 R x.1 x.2.1 x.2.2.1 x.2.2.2.1 w) : WPC P 79 [] (Code.at zf2e_B [.snd, .snd, .snd, .snd, .snd, .snd, .snd, .snd, .snd, .snd]) (zf2e_q1 R) (mkE 79 zf2e_l4 x) w :=
  pc_cut (l := zf2e_l5) 1 (zf2e_4_ok R) h
theorem zf2e_2_ok (R : zT5 → World → Prop) (x : Int × Addr × Addr × Addr × Unit) (w : World) (h : zf2e_2 R x.1 x.2.1 x.2.2.1 x.2.2.2.1 w) : WPC P 79 [] (Code.at zf2e_B [.snd, .snd, .snd, .snd]) (zf2e_q1 R) (mkE 79 zf2e_l3 x) w :=
  pc_cut (l := zf2e_l4) 6 (zf2e_3_ok R) h
theorem zf2e_1_ok (R : zT5 → World → Prop) (x : Int × Addr × Addr × Addr × Unit) (w : World) (h : zf2e_1 R x.1 x.2.1 x.2.2.1 x.2.2.2.1 w) : WPC P 79 [] (Code.at zf2e_B [.snd, .snd, .snd]) (zf2e_q1 R) (mkE 79 zf2e_l2 x) w :=
  pc_cut (l := zf2e_l3) 1 (zf2e_2_ok R) h
theorem zf2e_0_ok (R : zT5 → World → Prop) (x : zT5 × Int × Unit) (w : World) (h : zf2e_0 R x.1 x.2.1 w) : WPC P 79 [] (Code.at zf2e_B []) (zf2e_q1 R) (mkE 79 zf2e_l1 x) w :=
  pc_cut (l := zf2e_l2) 3 (zf2e_1_ok R) h
theorem zf2e_call (R : zT5 → World → Prop) (a_0 : zT5) (v_1 : Int) (w : World) (h : zf2e_0 R a_0 v_1 w) : mcall P n_zf2e [(KV zk5 a_0), (.int .i64 v_1)] zk5 R w :=
  pc_top (l := zf2e_l1) (c := zf2e_B) Tryz.func89 (zf2e_0_ok R) h
noncomputable abbrev zf2f_B : Code := (Tryz.f90.body).getD .skip
abbrev zf2f_q1 (R : Bs → World → Prop) := (topQ P [.tmp 2] .s R)
abbrev zf2f_l1 : Slots := [(0, .sl)]
abbrev zf2f_l2 : Slots := [(0, .sl), (3, .ad)]
abbrev zf2f_l3 : Slots := [(3, .ad)]
def zf2f_2 (R : Bs → World → Prop) (b_3 : Addr) : World → Prop :=
 mcall P n_zf2m [(.pointer (some b_3))] .s fun (x2 : Bs) =>
 R x2
abbrev zf2f_q2 (R : Bs → World → Prop) := (thenQ (fun env => getE env zf2f_l3 fun (x : Addr × Unit) => zf2f_2 R x.1) (zf2f_q1 R))
abbrev zf2f_l4 : Slots := [(0, .sl), (3, .ad)]
abbrev zf2f_l5 : Slots := [(8, I)]
abbrev zf2f_l6 : Slots := [(3, .ad), (6, .sl), (7, I)]
abbrev zf2f_q3 (c1 : (Int × Unit) → (Addr × Sl × Int × Unit) → World → Prop) (R : Bs → World → Prop) := (thenQ (fun env => getE env zf2f_l5 fun (s : Int × Unit) => getE env zf2f_l6 (c1 s)) (blockQ 0 ((zf2f_q2 R) .normal) (zf2f_q2 R)))
def zf2f_5 (c1 : (Int × Unit) → (Addr × Sl × Int × Unit) → World → Prop) (R : Bs → World → Prop) (v8 : Int) (b_3 : Addr) (v6 : Sl) (v7 : Int) : World → Prop :=
 mif (decide (v8 < v7))
 (ixa P zt7 (Sl.v v6) v8 fun x3 =>
 ld P zt1 x3 I fun (x4 : Int) =>
 mcall P n_zf2g [(.int .i64 x4)] .s fun (x5 : Bs) =>
 mcall P n_zf2j [(.pointer (some b_3)), (.string ⟨x5.toArray⟩)] (.tup [I, .v]) fun (x6 : Int × Value × Unit) =>
 c1 (w64 (v8 + 1), ()) (b_3, v6, v7, ()))
 (zf2f_2 R b_3)
def zf2f_4 (R : Bs → World → Prop) (v8 : Int) (b_3 : Addr) (v6 : Sl) (v7 : Int) : World → Prop :=
 W.Loop (b_3, v6, v7, ()) (fun (c1 : (Int × Unit) → (Addr × Sl × Int × Unit) → World → Prop) (s : Int × Unit) => zf2f_5 c1 R s.1 b_3 v6 v7) (v8, ())
def zf2f_3 (R : Bs → World → Prop) (l_0 : Sl) (b_3 : Addr) : World → Prop :=
 zf2f_4 R 0 b_3 l_0 (l_0.len : Int)
def zf2f_1 (R : Bs → World → Prop) (l_0 : Sl) (b_3 : Addr) : World → Prop :=
 zf2f_3 R l_0 b_3
def zf2f_0 (R : Bs → World → Prop) (l_0 : Sl) : World → Prop :=
 alo P zt11 fun a1 =>
 zf2f_1 R l_0 a1
theorem zf2f_2_ok (R : Bs → World → Prop) (x : Addr × Unit) (w : World) (h : zf2f_2 R x.1 w) : WPC P 17 [] (Code.at zf2f_B [.snd, .snd, .snd]) (zf2f_q1 R) (mkE 17 zf2f_l3 x) w :=
  pc_end h
theorem zf2f_5_ok (c1 : (Int × Unit) → (Addr × Sl × Int × Unit) → World → Prop) (R : Bs → World → Prop) (x : Int × Unit) (y : Addr × Sl × Int × Unit) (w : World) (h : zf2f_5 c1 R x.1 y.1 y.2.1 y.2.2.1 w) : WPC P 17 [] (Code.at zf2f_B [.snd, .snd, .fst, .snd, .blk, .blk]) (zf2f_q3 c1 R) (mkE2 17 zf2f_l5 zf2f_l6 x y) w :=
  pc_end h
theorem zf2f_4_ok (R : Bs → World → Prop) (x : Int × Unit) (y : Addr × Sl × Int × Unit) (w : World) (h : zf2f_4 R x.1 y.1 y.2.1 y.2.2.1 w) : WPC P 17 [] (Code.at zf2f_B [.snd, .snd, .fst, .snd]) (zf2f_q2 R) (mkE2 17 zf2f_l5 zf2f_l6 x y) w :=
  pc_loopE (l := zf2f_l5) (l' := zf2f_l6) (id := 0) (b := (Code.at zf2f_B [.snd, .snd, .fst, .snd, .blk, .blk])) (fun c1 s => zf2f_5_ok c1 R s y) h
theorem zf2f_3_ok (R : Bs → World → Prop) (x : Sl × Addr × Unit) (w : World) (h : zf2f_3 R x.1 x.2.1 w) : WPC P 17 [] (Code.at zf2f_B [.snd, .snd, .fst]) (zf2f_q2 R) (mkE 17 zf2f_l4 x) w :=
  pc_cut2 (l := zf2f_l5) (l' := zf2f_l6) 1 (zf2f_4_ok R) h
theorem zf2f_1_ok (R : Bs → World → Prop) (x : Sl × Addr × Unit) (w : World) (h : zf2f_1 R x.1 x.2.1 w) : WPC P 17 [] (Code.at zf2f_B [.snd, .snd]) (zf2f_q1 R) (mkE 17 zf2f_l2 x) w :=
  pc_seq (l := zf2f_l3) (a := (Code.at zf2f_B [.snd, .snd, .fst])) (b := (Code.at zf2f_B [.snd, .snd, .snd])) (pc_cut (l := zf2f_l4) (c := (Code.at zf2f_B [.snd, .snd, .fst])) 0 (zf2f_3_ok R) h) (zf2f_2_ok R)
theorem zf2f_0_ok (R : Bs → World → Prop) (x : Sl × Unit) (w : World) (h : zf2f_0 R x.1 w) : WPC P 17 [] (Code.at zf2f_B []) (zf2f_q1 R) (mkE 17 zf2f_l1 x) w :=
  pc_cut (l := zf2f_l2) 2 (zf2f_1_ok R) h
theorem zf2f_call (R : Bs → World → Prop) (l_0 : Sl) (w : World) (h : zf2f_0 R l_0 w) : mcall P n_zf2f [(Sl.v l_0)] .s R w :=
  pc_top (l := zf2f_l1) (c := zf2f_B) Tryz.func90 (zf2f_0_ok R) h
noncomputable abbrev zf2g_B : Code := (Tryz.f91.body).getD .skip
abbrev zf2g_q1 (R : Bs → World → Prop) := (topQ P [.tmp 2] .s R)
abbrev zf2g_l1 : Slots := [(0, I)]
abbrev zf2g_l2 : Slots := [(3, (.i .u64)), (5, I)]
abbrev zf2g_l3 : Slots := [(4, .ad)]
abbrev zf2g_l4 : Slots := [(3, (.i .u64)), (4, .ad), (5, I)]
def zf2g_2 (R : Bs → World → Prop) (u_3 : Int) (b_4 : Addr) (k_5 : Int) : World → Prop :=
 ixa P zt1c (.pointer (some b_4)) k_5 fun x2 =>
 sto P zt3 x2 (.i .u8) (wr8 u_3) <|
 mrd P (Instr.sliceAt zt1c (.pointer (some b_4)) none (some (.int .i64 (w64 (k_5 + 1)))) none) .sl fun (x3 : Sl) =>
 mrd P (convert zt10 zt4 (.slice x3.a x3.len x3.cap)) .s fun (x4 : Bs) =>
 R x4
abbrev zf2g_q2 (c1 : (Int × Int × Unit) → (Addr × Unit) → World → Prop) (R : Bs → World → Prop) := (thenQ (fun env => getE env zf2g_l2 fun (s : Int × Int × Unit) => getE env zf2g_l3 (c1 s)) (blockQ 0 (fun env => getE env zf2g_l4 fun (x : Int × Addr × Int × Unit) => zf2g_2 R x.1 x.2.1 x.2.2.1) (zf2g_q1 R)))
def zf2g_3 (c1 : (Int × Int × Unit) → (Addr × Unit) → World → Prop) (R : Bs → World → Prop) (u_3 : Int) (k_5 : Int) (b_4 : Addr) : World → Prop :=
 mif (decide (u_3 ≥ 128))
 (ixa P zt1c (.pointer (some b_4)) k_5 fun x5 =>
 sto P zt3 x5 (.i .u8) (ior .u8 (wr8 u_3) 128) <|
 c1 (ishr .u64 u_3 7, w64 (k_5 + 1), ()) (b_4, ()))
 (zf2g_2 R u_3 b_4 k_5)
def zf2g_1 (R : Bs → World → Prop) (u_3 : Int) (k_5 : Int) (b_4 : Addr) : World → Prop :=
 W.Loop (b_4, ()) (fun (c1 : (Int × Int × Unit) → (Addr × Unit) → World → Prop) (s : Int × Int × Unit) => zf2g_3 c1 R s.1 s.2.1 b_4) (u_3, k_5, ())
def zf2g_0 (R : Bs → World → Prop) (n_0 : Int) : World → Prop :=
 alo P zt1c fun a1 =>
 zf2g_1 R (ixor .u64 (ishl .u64 (wr64 n_0) 1) (wr64 (ishr .i64 n_0 63))) 0 a1
theorem zf2g_2_ok (R : Bs → World → Prop) (x : Int × Addr × Int × Unit) (w : World) (h : zf2g_2 R x.1 x.2.1 x.2.2.1 w) : WPC P 32 [] (Code.at zf2g_B [.snd, .snd, .snd, .snd, .snd]) (zf2g_q1 R) (mkE 32 zf2g_l4 x) w :=
  pc_end h
theorem zf2g_3_ok (c1 : (Int × Int × Unit) → (Addr × Unit) → World → Prop) (R : Bs → World → Prop) (x : Int × Int × Unit) (y : Addr × Unit) (w : World) (h : zf2g_3 c1 R x.1 x.2.1 y.1 w) : WPC P 32 [] (Code.at zf2g_B [.snd, .snd, .snd, .snd, .fst, .blk, .blk]) (zf2g_q2 c1 R) (mkE2 32 zf2g_l2 zf2g_l3 x y) w :=
  pc_end h
theorem zf2g_1_ok (R : Bs → World → Prop) (x : Int × Int × Unit) (y : Addr × Unit) (w : World) (h : zf2g_1 R x.1 x.2.1 y.1 w) : WPC P 32 [] (Code.at zf2g_B [.snd, .snd, .snd, .snd]) (zf2g_q1 R) (mkE2 32 zf2g_l2 zf2g_l3 x y) w :=
  pc_loopR (l := zf2g_l2) (l' := zf2g_l3) (lr := zf2g_l4) (FR := fun (x : Int × Addr × Int × Unit) => zf2g_2 R x.1 x.2.1 x.2.2.1) (id := 0) (b := (Code.at zf2g_B [.snd, .snd, .snd, .snd, .fst, .blk, .blk])) (rest := (Code.at zf2g_B [.snd, .snd, .snd, .snd, .snd])) (fun c1 s => zf2g_3_ok c1 R s y) (zf2g_2_ok R) h
theorem zf2g_0_ok (R : Bs → World → Prop) (x : Int × Unit) (w : World) (h : zf2g_0 R x.1 w) : WPC P 32 [] (Code.at zf2g_B []) (zf2g_q1 R) (mkE 32 zf2g_l1 x) w :=
  pc_cut2 (l := zf2g_l2) (l' := zf2g_l3) 4 (zf2g_1_ok R) h
theorem zf2g_call (R : Bs → World → Prop) (n_0 : Int) (w : World) (h : zf2g_0 R n_0 w) : mcall P n_zf2g [(.int .i64 n_0)] .s R w :=
  pc_top (l := zf2g_l1) (c := zf2g_B) Tryz.func91 (zf2g_0_ok R) h
noncomputable abbrev zf2h_B : Code := (Tryz.f92.body).getD .skip
abbrev zf2h_q1 (R : (Bs × Int × Unit) → World → Prop) := (topQ P [.tmp 2, .tmp 3] (.tup [.s, I]) R)
abbrev zf2h_l1 : Slots := [(0, zk5)]
def zf2h_0 (R : (Bs × Int × Unit) → World → Prop) (a_0 : zT5) : World → Prop :=
 bx P ztg zk5 a_0 fun a1 =>
 ld P ztg a1 zk5 fun (x2 : zT5) =>
 mcall P n_zf23 [(KV zk5 x2)] I fun (x3 : Int) =>
 mif (x3 != 0)
 (R ([], x3, ()))
 (ld P ztf (ad a1 4) zk4 fun (x4 : zT4) =>
 alo P ztf fun a5 =>
 sto P ztf a5 zk4 x4 <|
 ld P zt1 a1 I fun (x6 : Int) =>
 ld P zt1 (ad a1 1) I fun (x7 : Int) =>
 ld P zt1 (ad a1 2) I fun (x8 : Int) =>
 ld P zt1 (ad a1 3) I fun (x9 : Int) =>
 ixa P ztf (.pointer (some a5)) 0 fun x10 =>
 ld P zt1 x10 I fun (x11 : Int) =>
 ixa P ztf (.pointer (some a5)) 1 fun x12 =>
 ld P zt1 x12 I fun (x13 : Int) =>
 ixa P ztf (.pointer (some a5)) 2 fun x14 =>
 ld P zt1 x14 I fun (x15 : Int) =>
 ixa P ztf (.pointer (some a5)) 3 fun x16 =>
 ld P zt1 x16 I fun (x17 : Int) =>
 ld P zt1 (ad a1 8) I fun (x18 : Int) =>
 ld P zt1 (ad a1 9) I fun (x19 : Int) =>
 bsl P zt7 I [x6, x7, x8, x9, x11, x13, x15, x17, x18, x19] fun x20 =>
 mcall P n_zf2f [(Sl.v x20)] .s fun (x21 : Bs) =>
 R (x21, 0, ()))
theorem zf2h_0_ok (R : (Bs × Int × Unit) → World → Prop) (x : zT5 × Unit) (w : World) (h : zf2h_0 R x.1 w) : WPC P 35 [] (Code.at zf2h_B []) (zf2h_q1 R) (mkE 35 zf2h_l1 x) w :=
  pc_end h
theorem zf2h_call (R : (Bs × Int × Unit) → World → Prop) (a_0 : zT5) (w : World) (h : zf2h_0 R a_0 w) : mcall P n_zf2h [(KV zk5 a_0)] (.tup [.s, I]) R w :=
  pc_top (l := zf2h_l1) (c := zf2h_B) Tryz.func92 (zf2h_0_ok R) h
noncomputable abbrev zf2i_B : Code := (Tryz.f93.body).getD .skip
abbrev zf2i_q1 (R : Int → World → Prop) := (topQ P [.tmp 2] I R)
abbrev zf2i_l1 : Slots := [(0, .sl)]
abbrev zf2i_l2 : Slots := [(0, .sl)]
abbrev zf2i_l3 : Slots := [(0, .sl)]
def zf2i_2 (R : Int → World → Prop) (l_0 : Sl) : World → Prop :=
 mif (decide ((l_0.len : Int) > 4096))
 (R 1)
 (R 0)
abbrev zf2i_q2 (R : Int → World → Prop) := (thenQ (fun env => getE env zf2i_l3 fun (x : Sl × Unit) => zf2i_2 R x.1) (zf2i_q1 R))
abbrev zf2i_l4 : Slots := [(0, .sl)]
abbrev zf2i_l5 : Slots := [(10, I)]
abbrev zf2i_l6 : Slots := [(0, .sl), (8, .sl), (9, I)]
abbrev zf2i_q3 (c1 : (Int × Unit) → (Sl × Sl × Int × Unit) → World → Prop) (R : Int → World → Prop) := (thenQ (fun env => getE env zf2i_l5 fun (s : Int × Unit) => getE env zf2i_l6 (c1 s)) (blockQ 0 ((zf2i_q2 R) .normal) (zf2i_q2 R)))
def zf2i_5 (c1 : (Int × Unit) → (Sl × Sl × Int × Unit) → World → Prop) (R : Int → World → Prop) (v10 : Int) (l_0 : Sl) (v8 : Sl) (v9 : Int) : World → Prop :=
 mif (decide (v10 < v9))
 (ixa P zta (Sl.v v8) v10 fun x1 =>
 ld P ztd x1 zk3 fun (x2 : zT3) =>
 alo P ztd fun a3 =>
 sto P ztd a3 zk3 x2 <|
 ld P ztc (ad a3 1) zk2 fun (x4 : zT2) =>
 mcall P n_zf2k [(KV zk2 x4)] .s fun (x5 : Bs) =>
 mcall P n_zf2y [(.string ⟨x5.toArray⟩)] (.tup [zk2, .s, I]) fun (x6 : zT2 × Bs × Int × Unit) =>
 alo P ztc fun a7 =>
 sto P ztc a7 zk2 x6.1 <|
 mif (x6.2.2.1 != 0)
 (R 1)
 (ld P zt1 a3 I fun (x8 : Int) =>
 mif (decide (x8 < 0))
 (R 1)
 (ld P zt1 a3 I fun (x9 : Int) =>
 mif (decide (x9 > 1099511627776))
 (R 1)
 (c1 (w64 (v10 + 1), ()) (l_0, v8, v9, ())))))
 (zf2i_2 R l_0)
def zf2i_4 (R : Int → World → Prop) (v10 : Int) (l_0 : Sl) (v8 : Sl) (v9 : Int) : World → Prop :=
 W.Loop (l_0, v8, v9, ()) (fun (c1 : (Int × Unit) → (Sl × Sl × Int × Unit) → World → Prop) (s : Int × Unit) => zf2i_5 c1 R s.1 l_0 v8 v9) (v10, ())
def zf2i_3 (R : Int → World → Prop) (l_0 : Sl) : World → Prop :=
 zf2i_4 R 0 l_0 l_0 (l_0.len : Int)
def zf2i_1 (R : Int → World → Prop) (l_0 : Sl) : World → Prop :=
 zf2i_3 R l_0
def zf2i_0 (R : Int → World → Prop) (l_0 : Sl) : World → Prop :=
 zf2i_1 R l_0
theorem zf2i_2_ok (R : Int → World → Prop) (x : Sl × Unit) (w : World) (h : zf2i_2 R x.1 w) : WPC P 38 [] (Code.at zf2i_B [.snd, .snd]) (zf2i_q1 R) (mkE 38 zf2i_l3 x) w :=
  pc_end h
theorem zf2i_5_ok (c1 : (Int × Unit) → (Sl × Sl × Int × Unit) → World → Prop) (R : Int → World → Prop) (x : Int × Unit) (y : Sl × Sl × Int × Unit) (w : World) (h : zf2i_5 c1 R x.1 y.1 y.2.1 y.2.2.1 w) : WPC P 38 [] (Code.at zf2i_B [.snd, .fst, .snd, .blk, .blk]) (zf2i_q3 c1 R) (mkE2 38 zf2i_l5 zf2i_l6 x y) w :=
  pc_end h
theorem zf2i_4_ok (R : Int → World → Prop) (x : Int × Unit) (y : Sl × Sl × Int × Unit) (w : World) (h : zf2i_4 R x.1 y.1 y.2.1 y.2.2.1 w) : WPC P 38 [] (Code.at zf2i_B [.snd, .fst, .snd]) (zf2i_q2 R) (mkE2 38 zf2i_l5 zf2i_l6 x y) w :=
  pc_loopE (l := zf2i_l5) (l' := zf2i_l6) (id := 0) (b := (Code.at zf2i_B [.snd, .fst, .snd, .blk, .blk])) (fun c1 s => zf2i_5_ok c1 R s y) h
theorem zf2i_3_ok (R : Int → World → Prop) (x : Sl × Unit) (w : World) (h : zf2i_3 R x.1 w) : WPC P 38 [] (Code.at zf2i_B [.snd, .fst]) (zf2i_q2 R) (mkE 38 zf2i_l4 x) w :=
  pc_cut2 (l := zf2i_l5) (l' := zf2i_l6) 1 (zf2i_4_ok R) h
theorem zf2i_1_ok (R : Int → World → Prop) (x : Sl × Unit) (w : World) (h : zf2i_1 R x.1 w) : WPC P 38 [] (Code.at zf2i_B [.snd]) (zf2i_q1 R) (mkE 38 zf2i_l2 x) w :=
  pc_seq (l := zf2i_l3) (a := (Code.at zf2i_B [.snd, .fst])) (b := (Code.at zf2i_B [.snd, .snd])) (pc_cut (l := zf2i_l4) (c := (Code.at zf2i_B [.snd, .fst])) 0 (zf2i_3_ok R) h) (zf2i_2_ok R)
theorem zf2i_0_ok (R : Int → World → Prop) (x : Sl × Unit) (w : World) (h : zf2i_0 R x.1 w) : WPC P 38 [] (Code.at zf2i_B []) (zf2i_q1 R) (mkE 38 zf2i_l1 x) w :=
  pc_cut (l := zf2i_l2) 1 (zf2i_1_ok R) h
theorem zf2i_call (R : Int → World → Prop) (l_0 : Sl) (w : World) (h : zf2i_0 R l_0 w) : mcall P n_zf2i [(Sl.v l_0)] I R w :=
  pc_top (l := zf2i_l1) (c := zf2i_B) Tryz.func93 (zf2i_0_ok R) h
noncomputable abbrev zf2j_B : Code := (Tryz.f94.body).getD .skip
abbrev zf2j_q1 (R : (Int × Value × Unit) → World → Prop) := (topQ P [.tmp 4, .tmp 5] (.tup [I, .v]) R)
abbrev zf2j_l1 : Slots := [(0, .p), (1, .s)]
def zf2j_0 (R : (Int × Value × Unit) → World → Prop) (b_0 : Option Addr) (s_1 : Bs) : World → Prop :=
 mcall P n_zf3t [(.pointer b_0)] (.tup []) fun (x1 : Unit) =>
 mnil b_0 fun a2 =>
 ld P zt10 (ad a2 1) .sl fun (x3 : Sl) =>
 app P #[zt10, zt4] zt10 (Sl.v x3) (.string ⟨s_1.toArray⟩) fun x4 =>
 mnil b_0 fun a5 =>
 sto P zt10 (ad a5 1) .sl x4 <|
 R ((s_1.length : Int), .nilIface, ())
theorem zf2j_0_ok (R : (Int × Value × Unit) → World → Prop) (x : Option Addr × Bs × Unit) (w : World) (h : zf2j_0 R x.1 x.2.1 w) : WPC P 19 [] (Code.at zf2j_B []) (zf2j_q1 R) (mkE 19 zf2j_l1 x) w :=
  pc_end h
theorem zf2j_call (R : (Int × Value × Unit) → World → Prop) (b_0 : Option Addr) (s_1 : Bs) (w : World) (h : zf2j_0 R b_0 s_1 w) : mcall P n_zf2j [(.pointer b_0), (.string ⟨s_1.toArray⟩)] (.tup [I, .v]) R w :=
  pc_top (l := zf2j_l1) (c := zf2j_B) Tryz.func94 (zf2j_0_ok R) h
noncomputable abbrev zf2k_B : Code := (Tryz.f95.body).getD .skip
abbrev zf2k_q1 (R : Bs → World → Prop) := (topQ P [.tmp 2] .s R)
abbrev zf2k_l1 : Slots := [(0, zk2)]
def zf2k_0 (R : Bs → World → Prop) (r_0 : zT2) : World → Prop :=
 bx P ztc zk2 r_0 fun a1 =>
 mdraw <|
 ld P zt1 a1 I fun (x2 : Int) =>
 ld P zt1 (ad a1 1) I fun (x3 : Int) =>
 ld P zt4 (ad a1 2) .s fun (x4 : Bs) =>
 bsl P zt7 I [x2, x3] fun x5 =>
 mst P (Instr.loadAt zt4 (.pointer (some (ad a1 2)))) (.string ⟨x4.toArray⟩) <|
 mcall P n_zf2f [(Sl.v x5)] .s fun (x6 : Bs) =>
 mst P (Instr.loadAt zt4 (.pointer (some (ad a1 2)))) (.string ⟨x4.toArray⟩) <|
 mcall P n_zf3u [(.string ⟨x4.toArray⟩)] .s fun (x7 : Bs) =>
 mcat x6 x7 fun s8 =>
 R s8
theorem zf2k_0_ok (R : Bs → World → Prop) (x : zT2 × Unit) (w : World) (h : zf2k_0 R x.1 w) : WPC P 13 [] (Code.at zf2k_B []) (zf2k_q1 R) (mkE 13 zf2k_l1 x) w :=
  pc_end h
theorem zf2k_call (R : Bs → World → Prop) (r_0 : zT2) (w : World) (h : zf2k_0 R r_0 w) : mcall P n_zf2k [(KV zk2 r_0)] .s R w :=
  pc_top (l := zf2k_l1) (c := zf2k_B) Tryz.func95 (zf2k_0_ok R) h
noncomputable abbrev zf2l_B : Code := (Tryz.f96.body).getD .skip
abbrev zf2l_q1 (R : Bs → World → Prop) := (topQ P [.tmp 2] .s R)
abbrev zf2l_l1 : Slots := [(0, .s)]
def zf2l_0 (R : Bs → World → Prop) (s_0 : Bs) : World → Prop :=
 mcall P n_zf3v [(.string ⟨s_0.toArray⟩)] (.i .u32) fun (x1 : Int) =>
 bsl P zt10 (.i .u8) [wr8 x1, wr8 (ishr .u32 x1 8), wr8 (ishr .u32 x1 16), wr8 (ishr .u32 x1 24)] fun x2 =>
 mrd P (convert zt10 zt4 (.slice x2.a x2.len x2.cap)) .s fun (x3 : Bs) =>
 mcat s_0 x3 fun s4 =>
 R s4
theorem zf2l_0_ok (R : Bs → World → Prop) (x : Bs × Unit) (w : World) (h : zf2l_0 R x.1 w) : WPC P 21 [] (Code.at zf2l_B []) (zf2l_q1 R) (mkE 21 zf2l_l1 x) w :=
  pc_end h
theorem zf2l_call (R : Bs → World → Prop) (s_0 : Bs) (w : World) (h : zf2l_0 R s_0 w) : mcall P n_zf2l [(.string ⟨s_0.toArray⟩)] .s R w :=
  pc_top (l := zf2l_l1) (c := zf2l_B) Tryz.func96 (zf2l_0_ok R) h
noncomputable abbrev zf2m_B : Code := (Tryz.f97.body).getD .skip
abbrev zf2m_q1 (R : Bs → World → Prop) := (topQ P [.tmp 2] .s R)
abbrev zf2m_l1 : Slots := [(0, .p)]
def zf2m_0 (R : Bs → World → Prop) (b_0 : Option Addr) : World → Prop :=
 mdraw <|
 mnil b_0 fun a1 =>
 ld P zt10 (ad a1 1) .sl fun (x2 : Sl) =>
 mnil b_0 fun a3 =>
 ld P zt10 (ad a3 1) .sl fun (x4 : Sl) =>
 mop P (Builtin.unsafeSliceData_ #[zt10] zt1d #[.slice x2.a x2.len x2.cap]) .p fun (x5 : Option Addr) =>
 mst P (Instr.loadAt zt10 (.pointer (some (ad a3 1)))) (.slice x4.a x4.len x4.cap) <|
 mop P (Builtin.unsafeString_ #[zt1d, zt1] zt4 #[.pointer x5, .int .i64 (x4.len : Int)]) .s fun (x6 : Bs) =>
 R x6
theorem zf2m_0_ok (R : Bs → World → Prop) (x : Option Addr × Unit) (w : World) (h : zf2m_0 R x.1 w) : WPC P 14 [] (Code.at zf2m_B []) (zf2m_q1 R) (mkE 14 zf2m_l1 x) w :=
  pc_end h
theorem zf2m_call (R : Bs → World → Prop) (b_0 : Option Addr) (w : World) (h : zf2m_0 R b_0 w) : mcall P n_zf2m [(.pointer b_0)] .s R w :=
  pc_top (l := zf2m_l1) (c := zf2m_B) Tryz.func97 (zf2m_0_ok R) h
noncomputable abbrev zf2n_B : Code := (Tryz.f98.body).getD .skip
abbrev zf2n_q1 (R : Bs → World → Prop) := (topQ P [.tmp 4] .s R)
abbrev zf2n_l1 : Slots := [(0, .s), (1, .s)]
abbrev zf2n_l2 : Slots := [(0, .s), (1, .s)]
def zf2n_1 (R : Bs → World → Prop) (s_0 : Bs) (cutset_1 : Bs) : World → Prop :=
 mcall P n_zf3y [(.string ⟨cutset_1.toArray⟩)] (.tup [zkf, .b]) fun (x6 : zTf × Bool × Unit) =>
 alo P zt1e fun a7 =>
 sto P zt1e a7 zkf x6.1 <|
 mif x6.2.1
 (mcall P n_zf40 [(.string ⟨s_0.toArray⟩), (.pointer (some a7))] .s fun (x8 : Bs) =>
 mcall P n_zf3z [(.string ⟨x8.toArray⟩), (.pointer (some a7))] .s fun (x9 : Bs) =>
 R x9)
 (mcall P n_zf42 [(.string ⟨s_0.toArray⟩), (.string ⟨cutset_1.toArray⟩)] .s fun (x10 : Bs) =>
 mcall P n_zf41 [(.string ⟨x10.toArray⟩), (.string ⟨cutset_1.toArray⟩)] .s fun (x11 : Bs) =>
 R x11)
def zf2n_0 (R : Bs → World → Prop) (s_0 : Bs) (cutset_1 : Bs) : World → Prop :=
 mif (s_0 == [])
 (R s_0)
 (mif (cutset_1 == [])
 (R s_0)
 (mif ((cutset_1.length : Int) == 1)
 (ixs P zt4 cutset_1 0 fun x1 =>
 mif (decide (x1 < 128))
 (mdraw <|
 ixs P zt4 cutset_1 0 fun x2 =>
 ixs P zt4 cutset_1 0 fun x3 =>
 mcall P n_zf3x [(.string ⟨s_0.toArray⟩), (.int .u8 x2)] .s fun (x4 : Bs) =>
 mst P (Instr.index zt4 (.string ⟨cutset_1.toArray⟩) (.int .i64 0)) (.int .u8 x3) <|
 mcall P n_zf3w [(.string ⟨x4.toArray⟩), (.int .u8 x3)] .s fun (x5 : Bs) =>
 R x5)
 (zf2n_1 R s_0 cutset_1))
 (zf2n_1 R s_0 cutset_1)))
theorem zf2n_1_ok (R : Bs → World → Prop) (x : Bs × Bs × Unit) (w : World) (h : zf2n_1 R x.1 x.2.1 w) : WPC P 43 [] (Code.at zf2n_B [.snd, .snd, .snd]) (zf2n_q1 R) (mkE 43 zf2n_l2 x) w :=
  pc_end h
theorem zf2n_0_ok (R : Bs → World → Prop) (x : Bs × Bs × Unit) (w : World) (h : zf2n_0 R x.1 x.2.1 w) : WPC P 43 [] (Code.at zf2n_B []) (zf2n_q1 R) (mkE 43 zf2n_l1 x) w :=
  pc_cut (l := zf2n_l2) 3 (zf2n_1_ok R) h
theorem zf2n_call (R : Bs → World → Prop) (s_0 : Bs) (cutset_1 : Bs) (w : World) (h : zf2n_0 R s_0 cutset_1 w) : mcall P n_zf2n [(.string ⟨s_0.toArray⟩), (.string ⟨cutset_1.toArray⟩)] .s R w :=
  pc_top (l := zf2n_l1) (c := zf2n_B) Tryz.func98 (zf2n_0_ok R) h
noncomputable abbrev zf2o_B : Code := (Tryz.f99.body).getD .skip
abbrev zf2o_q1 (R : Int → World → Prop) := (topQ P [.tmp 4] I R)
abbrev zf2o_l1 : Slots := [(0, .sl), (1, .v)]
abbrev zf2o_l2 : Slots := [(0, .sl), (1, .v)]
abbrev zf2o_l3 : Slots := []
def zf2o_2 (R : Int → World → Prop) : World → Prop :=
 R (-1)
abbrev zf2o_q2 (R : Int → World → Prop) := (thenQ (fun env => getE env zf2o_l3 fun (x : Unit) => zf2o_2 R) (zf2o_q1 R))
abbrev zf2o_l4 : Slots := [(0, .sl), (1, .v)]
abbrev zf2o_l5 : Slots := [(8, I)]
abbrev zf2o_l6 : Slots := [(0, .sl), (1, .v), (7, I)]
abbrev zf2o_q3 (c1 : (Int × Unit) → (Sl × Value × Int × Unit) → World → Prop) (R : Int → World → Prop) := (thenQ (fun env => getE env zf2o_l5 fun (s : Int × Unit) => getE env zf2o_l6 (c1 s)) (blockQ 0 ((zf2o_q2 R) .normal) (zf2o_q2 R)))
def zf2o_5 (c1 : (Int × Unit) → (Sl × Value × Int × Unit) → World → Prop) (R : Int → World → Prop) (v8 : Int) (s_0 : Sl) (f_1 : Value) (v7 : Int) : World → Prop :=
 mif (decide (v8 < v7))
 (ixa P ztm (Sl.v s_0) v8 fun x1 =>
 ld P ztn x1 zk9 fun (x2 : zT9) =>
 mdyn P f_1 [.agg #[.string ⟨x2.1.toArray⟩, .string ⟨x2.2.1.toArray⟩, .string ⟨x2.2.2.1.toArray⟩]] .b fun (x3 : Bool) =>
 mif x3
 (R v8)
 (c1 (w64 (v8 + 1), ()) (s_0, f_1, v7, ())))
 (zf2o_2 R)
def zf2o_4 (R : Int → World → Prop) (v8 : Int) (s_0 : Sl) (f_1 : Value) (v7 : Int) : World → Prop :=
 W.Loop (s_0, f_1, v7, ()) (fun (c1 : (Int × Unit) → (Sl × Value × Int × Unit) → World → Prop) (s : Int × Unit) => zf2o_5 c1 R s.1 s_0 f_1 v7) (v8, ())
def zf2o_3 (R : Int → World → Prop) (s_0 : Sl) (f_1 : Value) : World → Prop :=
 zf2o_4 R 0 s_0 f_1 (s_0.len : Int)
def zf2o_1 (R : Int → World → Prop) (s_0 : Sl) (f_1 : Value) : World → Prop :=
 zf2o_3 R s_0 f_1
def zf2o_0 (R : Int → World → Prop) (s_0 : Sl) (f_1 : Value) : World → Prop :=
 zf2o_1 R s_0 f_1
theorem zf2o_2_ok (R : Int → World → Prop) (x : Unit) (w : World) (h : zf2o_2 R w) : WPC P 19 [] (Code.at zf2o_B [.snd, .snd]) (zf2o_q1 R) (mkE 19 zf2o_l3 x) w :=
  pc_end h
theorem zf2o_5_ok (c1 : (Int × Unit) → (Sl × Value × Int × Unit) → World → Prop) (R : Int → World → Prop) (x : Int × Unit) (y : Sl × Value × Int × Unit) (w : World) (h : zf2o_5 c1 R x.1 y.1 y.2.1 y.2.2.1 w) : WPC P 19 [] (Code.at zf2o_B [.snd, .fst, .snd, .blk, .blk]) (zf2o_q3 c1 R) (mkE2 19 zf2o_l5 zf2o_l6 x y) w :=
  pc_end h
theorem zf2o_4_ok (R : Int → World → Prop) (x : Int × Unit) (y : Sl × Value × Int × Unit) (w : World) (h : zf2o_4 R x.1 y.1 y.2.1 y.2.2.1 w) : WPC P 19 [] (Code.at zf2o_B [.snd, .fst, .snd]) (zf2o_q2 R) (mkE2 19 zf2o_l5 zf2o_l6 x y) w :=
  pc_loopE (l := zf2o_l5) (l' := zf2o_l6) (id := 0) (b := (Code.at zf2o_B [.snd, .fst, .snd, .blk, .blk])) (fun c1 s => zf2o_5_ok c1 R s y) h
theorem zf2o_3_ok (R : Int → World → Prop) (x : Sl × Value × Unit) (w : World) (h : zf2o_3 R x.1 x.2.1 w) : WPC P 19 [] (Code.at zf2o_B [.snd, .fst]) (zf2o_q2 R) (mkE 19 zf2o_l4 x) w :=
  pc_cut2 (l := zf2o_l5) (l' := zf2o_l6) 1 (zf2o_4_ok R) h
theorem zf2o_1_ok (R : Int → World → Prop) (x : Sl × Value × Unit) (w : World) (h : zf2o_1 R x.1 x.2.1 w) : WPC P 19 [] (Code.at zf2o_B [.snd]) (zf2o_q1 R) (mkE 19 zf2o_l2 x) w :=
  pc_seq (l := zf2o_l3) (a := (Code.at zf2o_B [.snd, .fst])) (b := (Code.at zf2o_B [.snd, .snd])) (pc_cut (l := zf2o_l4) (c := (Code.at zf2o_B [.snd, .fst])) 0 (zf2o_3_ok R) h) (zf2o_2_ok R)
theorem zf2o_0_ok (R : Int → World → Prop) (x : Sl × Value × Unit) (w : World) (h : zf2o_0 R x.1 x.2.1 w) : WPC P 19 [] (Code.at zf2o_B []) (zf2o_q1 R) (mkE 19 zf2o_l1 x) w :=
  pc_cut (l := zf2o_l2) 1 (zf2o_1_ok R) h
theorem zf2o_call (R : Int → World → Prop) (s_0 : Sl) (f_1 : Value) (w : World) (h : zf2o_0 R s_0 f_1 w) : mcall P n_zf2o [(Sl.v s_0), f_1] I R w :=
  pc_top (l := zf2o_l1) (c := zf2o_B) Tryz.func99 (zf2o_0_ok R) h
noncomputable abbrev zf2p_B : Code := (Tryz.f100.body).getD .skip
abbrev zf2p_q1 (R : Int → World → Prop) := (topQ P [.tmp 6] I R)
abbrev zf2p_l1 : Slots := [(0, .p), (1, .s), (2, .v)]
def zf2p_0 (R : Int → World → Prop) (d_0 : Option Addr) (name_1 : Bs) (do_2 : Value) : World → Prop :=
 bsl P ztp .s [name_1] fun x1 =>
 mcall P n_zf2q [(.pointer d_0), (Sl.v x1)] I fun (x2 : Int) =>
 mif (x2 != 0)
 (R x2)
 (mnil d_0 fun a3 =>
 ld P ztk a3 .m fun (x4 : Option Nat) =>
 lku P ztk x4 .s name_1 .p fun (x5 : Option Addr) =>
 meq P .eql ztq (.pointer x5) (.pointer none) fun x6 =>
 mif x6
 (R 3)
 (mcall P n_zf2r [(.pointer d_0)] .b fun (x7 : Bool) =>
 mif (!x7)
 (R 4)
 (mdyn P do_2 [.pointer x5] I fun (x8 : Int) =>
 R x8)))
theorem zf2p_0_ok (R : Int → World → Prop) (x : Option Addr × Bs × Value × Unit) (w : World) (h : zf2p_0 R x.1 x.2.1 x.2.2.1 w) : WPC P 32 [] (Code.at zf2p_B []) (zf2p_q1 R) (mkE 32 zf2p_l1 x) w :=
  pc_end h
theorem zf2p_call (R : Int → World → Prop) (d_0 : Option Addr) (name_1 : Bs) (do_2 : Value) (w : World) (h : zf2p_0 R d_0 name_1 do_2 w) : mcall P n_zf2p [(.pointer d_0), (.string ⟨name_1.toArray⟩), do_2] I R w :=
  pc_top (l := zf2p_l1) (c := zf2p_B) Tryz.func100 (zf2p_0_ok R) h
noncomputable abbrev zf2q_B : Code := (Tryz.f102.body).getD .skip
abbrev zf2q_q1 (R : Int → World → Prop) := (topQ P [.tmp 4] I R)
abbrev zf2q_l1 : Slots := [(0, .p), (1, .sl)]
abbrev zf2q_l2 : Slots := [(0, .p), (1, .sl)]
abbrev zf2q_l3 : Slots := [(0, .p)]
def zf2q_2 (R : Int → World → Prop) (d_0 : Option Addr) : World → Prop :=
 mnil d_0 fun a1 =>
 ld P zt2 (ad a1 3) .b fun (x2 : Bool) =>
 mif x2
 (R 4)
 (R 0)
abbrev zf2q_q2 (R : Int → World → Prop) := (thenQ (fun env => getE env zf2q_l3 fun (x : Option Addr × Unit) => zf2q_2 R x.1) (zf2q_q1 R))
abbrev zf2q_l4 : Slots := [(0, .p), (1, .sl)]
abbrev zf2q_l5 : Slots := [(9, I)]
abbrev zf2q_l6 : Slots := [(0, .p), (7, .sl), (8, I)]
abbrev zf2q_q3 (c1 : (Int × Unit) → (Option Addr × Sl × Int × Unit) → World → Prop) (R : Int → World → Prop) := (thenQ (fun env => getE env zf2q_l5 fun (s : Int × Unit) => getE env zf2q_l6 (c1 s)) (blockQ 0 ((zf2q_q2 R) .normal) (zf2q_q2 R)))
def zf2q_5 (c1 : (Int × Unit) → (Option Addr × Sl × Int × Unit) → World → Prop) (R : Int → World → Prop) (v9 : Int) (d_0 : Option Addr) (v7 : Sl) (v8 : Int) : World → Prop :=
 mif (decide (v9 < v8))
 (ixa P ztp (Sl.v v7) v9 fun x3 =>
 ld P zt4 x3 .s fun (x4 : Bs) =>
 meq P .eql zte (.pointer d_0) (.pointer none) fun x5 =>
 mif x5
 (R 1)
 (mcall P n_zf43 [(.string ⟨x4.toArray⟩)] .b fun (x6 : Bool) =>
 mif (!x6)
 (R 1)
 (c1 (w64 (v9 + 1), ()) (d_0, v7, v8, ()))))
 (zf2q_2 R d_0)
def zf2q_4 (R : Int → World → Prop) (v9 : Int) (d_0 : Option Addr) (v7 : Sl) (v8 : Int) : World → Prop :=
 W.Loop (d_0, v7, v8, ()) (fun (c1 : (Int × Unit) → (Option Addr × Sl × Int × Unit) → World → Prop) (s : Int × Unit) => zf2q_5 c1 R s.1 d_0 v7 v8) (v9, ())
def zf2q_3 (R : Int → World → Prop) (d_0 : Option Addr) (names_1 : Sl) : World → Prop :=
 zf2q_4 R 0 d_0 names_1 (names_1.len : Int)
def zf2q_1 (R : Int → World → Prop) (d_0 : Option Addr) (names_1 : Sl) : World → Prop :=
 zf2q_3 R d_0 names_1
def zf2q_0 (R : Int → World → Prop) (d_0 : Option Addr) (names_1 : Sl) : World → Prop :=
 zf2q_1 R d_0 names_1
theorem zf2q_2_ok (R : Int → World → Prop) (x : Option Addr × Unit) (w : World) (h : zf2q_2 R x.1 w) : WPC P 25 [] (Code.at zf2q_B [.snd, .snd]) (zf2q_q1 R) (mkE 25 zf2q_l3 x) w :=
  pc_end h
theorem zf2q_5_ok (c1 : (Int × Unit) → (Option Addr × Sl × Int × Unit) → World → Prop) (R : Int → World → Prop) (x : Int × Unit) (y : Option Addr × Sl × Int × Unit) (w : World) (h : zf2q_5 c1 R x.1 y.1 y.2.1 y.2.2.1 w) : WPC P 25 [] (Code.at zf2q_B [.snd, .fst, .snd, .blk, .blk]) (zf2q_q3 c1 R) (mkE2 25 zf2q_l5 zf2q_l6 x y) w :=
  pc_end h
theorem zf2q_4_ok (R : Int → World → Prop) (x : Int × Unit) (y : Option Addr × Sl × Int × Unit) (w : World) (h : zf2q_4 R x.1 y.1 y.2.1 y.2.2.1 w) : WPC P 25 [] (Code.at zf2q_B [.snd, .fst, .snd]) (zf2q_q2 R) (mkE2 25 zf2q_l5 zf2q_l6 x y) w :=
  pc_loopE (l := zf2q_l5) (l' := zf2q_l6) (id := 0) (b := (Code.at zf2q_B [.snd, .fst, .snd, .blk, .blk])) (fun c1 s => zf2q_5_ok c1 R s y) h
theorem zf2q_3_ok (R : Int → World → Prop) (x : Option Addr × Sl × Unit) (w : World) (h : zf2q_3 R x.1 x.2.1 w) : WPC P 25 [] (Code.at zf2q_B [.snd, .fst]) (zf2q_q2 R) (mkE 25 zf2q_l4 x) w :=
  pc_cut2 (l := zf2q_l5) (l' := zf2q_l6) 1 (zf2q_4_ok R) h
theorem zf2q_1_ok (R : Int → World → Prop) (x : Option Addr × Sl × Unit) (w : World) (h : zf2q_1 R x.1 x.2.1 w) : WPC P 25 [] (Code.at zf2q_B [.snd]) (zf2q_q1 R) (mkE 25 zf2q_l2 x) w :=
  pc_seq (l := zf2q_l3) (a := (Code.at zf2q_B [.snd, .fst])) (b := (Code.at zf2q_B [.snd, .snd])) (pc_cut (l := zf2q_l4) (c := (Code.at zf2q_B [.snd, .fst])) 0 (zf2q_3_ok R) h) (zf2q_2_ok R)
theorem zf2q_0_ok (R : Int → World → Prop) (x : Option Addr × Sl × Unit) (w : World) (h : zf2q_0 R x.1 x.2.1 w) : WPC P 25 [] (Code.at zf2q_B []) (zf2q_q1 R) (mkE 25 zf2q_l1 x) w :=
  pc_cut (l := zf2q_l2) 1 (zf2q_1_ok R) h
theorem zf2q_call (R : Int → World → Prop) (d_0 : Option Addr) (names_1 : Sl) (w : World) (h : zf2q_0 R d_0 names_1 w) : mcall P n_zf2q [(.pointer d_0), (Sl.v names_1)] I R w :=
  pc_top (l := zf2q_l1) (c := zf2q_B) Tryz.func102 (zf2q_0_ok R) h
end Go.Proofs.YtpjhflboedicpaaGreatDoor
