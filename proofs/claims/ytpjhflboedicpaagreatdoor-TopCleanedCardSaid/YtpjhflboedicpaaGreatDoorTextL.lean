/- Short texts of functions of the program, each with the proof that a call comes to it. No condition. -/
import Derived.Test.YtpjhflboedicpaaGreatDoorNames
set_option linter.unusedVariables false
set_option linter.unusedSimpArgs false
namespace Go.Proofs.YtpjhflboedicpaaGreatDoor
open Go Go.W
set_option maxRecDepth 100000
noncomputable abbrev zf4f_B : Code := (Tryz.f167.body).getD .skip
abbrev zf4f_q1 (R : Int → World → Prop) := (topQ P [.tmp 4] I R)
abbrev zf4f_l1 : Slots := [(0, .sl), (1, .v)]
abbrev zf4f_l2 : Slots := [(0, .sl), (1, .v)]
abbrev zf4f_l3 : Slots := []
def zf4f_2 (R : Int → World → Prop) : World → Prop :=
 R (-1)
abbrev zf4f_q2 (R : Int → World → Prop) := (thenQ (fun env => getE env zf4f_l3 fun (x : Unit) => zf4f_2 R) (zf4f_q1 R))
abbrev zf4f_l4 : Slots := [(0, .sl), (1, .v)]
abbrev zf4f_l5 : Slots := [(8, I)]
abbrev zf4f_l6 : Slots := [(0, .sl), (1, .v), (7, I)]
abbrev zf4f_q3 (c1 : (Int × Unit) → (Sl × Value × Int × Unit) → World → Prop) (R : Int → World → Prop) := (thenQ (fun env => getE env zf4f_l5 fun (s : Int × Unit) => getE env zf4f_l6 (c1 s)) (blockQ 0 ((zf4f_q2 R) .normal) (zf4f_q2 R)))
def zf4f_5 (c1 : (Int × Unit) → (Sl × Value × Int × Unit) → World → Prop) (R : Int → World → Prop) (v8 : Int) (s_0 : Sl) (f_1 : Value) (v7 : Int) : World → Prop :=
 mif (decide (v8 < v7))
 (ixa P ztu (Sl.v s_0) v8 fun x1 =>
 ld P zt16 x1 zkc fun (x2 : zTc) =>
 mdyn P f_1 [.agg #[.int .i64 x2.1, .int .i64 x2.2.1]] .b fun (x3 : Bool) =>
 mif x3
 (R v8)
 (c1 (w64 (v8 + 1), ()) (s_0, f_1, v7, ())))
 (zf4f_2 R)
def zf4f_4 (R : Int → World → Prop) (v8 : Int) (s_0 : Sl) (f_1 : Value) (v7 : Int) : World → Prop :=
 W.Loop (s_0, f_1, v7, ()) (fun (c1 : (Int × Unit) → (Sl × Value × Int × Unit) → World → Prop) (s : Int × Unit) => zf4f_5 c1 R s.1 s_0 f_1 v7) (v8, ())
def zf4f_3 (R : Int → World → Prop) (s_0 : Sl) (f_1 : Value) : World → Prop :=
 zf4f_4 R 0 s_0 f_1 (s_0.len : Int)
def zf4f_1 (R : Int → World → Prop) (s_0 : Sl) (f_1 : Value) : World → Prop :=
 zf4f_3 R s_0 f_1
def zf4f_0 (R : Int → World → Prop) (s_0 : Sl) (f_1 : Value) : World → Prop :=
 zf4f_1 R s_0 f_1
theorem zf4f_2_ok (R : Int → World → Prop) (x : Unit) (w : World) (h : zf4f_2 R w) : WPC P 19 [] (Code.at zf4f_B [.snd, .snd]) (zf4f_q1 R) (mkE 19 zf4f_l3 x) w :=
  pc_end h
theorem zf4f_5_ok (c1 : (Int × Unit) → (Sl × Value × Int × Unit) → World → Prop) (R : Int → World → Prop) (x : Int × Unit) (y : Sl × Value × Int × Unit) (w : World) (h : zf4f_5 c1 R x.1 y.1 y.2.1 y.2.2.1 w) : WPC P 19 [] (Code.at zf4f_B [.snd, .fst, .snd, .blk, .blk]) (zf4f_q3 c1 R) (mkE2 19 zf4f_l5 zf4f_l6 x y) w :=
  pc_end h
theorem zf4f_4_ok (R : Int → World → Prop) (x : Int × Unit) (y : Sl × Value × Int × Unit) (w : World) (h : zf4f_4 R x.1 y.1 y.2.1 y.2.2.1 w) : WPC P 19 [] (Code.at zf4f_B [.snd, .fst, .snd]) (zf4f_q2 R) (mkE2 19 zf4f_l5 zf4f_l6 x y) w :=
  pc_loopE (l := zf4f_l5) (l' := zf4f_l6) (id := 0) (b := (Code.at zf4f_B [.snd, .fst, .snd, .blk, .blk])) (fun c1 s => zf4f_5_ok c1 R s y) h
theorem zf4f_3_ok (R : Int → World → Prop) (x : Sl × Value × Unit) (w : World) (h : zf4f_3 R x.1 x.2.1 w) : WPC P 19 [] (Code.at zf4f_B [.snd, .fst]) (zf4f_q2 R) (mkE 19 zf4f_l4 x) w :=
  pc_cut2 (l := zf4f_l5) (l' := zf4f_l6) 1 (zf4f_4_ok R) h
theorem zf4f_1_ok (R : Int → World → Prop) (x : Sl × Value × Unit) (w : World) (h : zf4f_1 R x.1 x.2.1 w) : WPC P 19 [] (Code.at zf4f_B [.snd]) (zf4f_q1 R) (mkE 19 zf4f_l2 x) w :=
  pc_seq (l := zf4f_l3) (a := (Code.at zf4f_B [.snd, .fst])) (b := (Code.at zf4f_B [.snd, .snd])) (pc_cut (l := zf4f_l4) (c := (Code.at zf4f_B [.snd, .fst])) 0 (zf4f_3_ok R) h) (zf4f_2_ok R)
theorem zf4f_0_ok (R : Int → World → Prop) (x : Sl × Value × Unit) (w : World) (h : zf4f_0 R x.1 x.2.1 w) : WPC P 19 [] (Code.at zf4f_B []) (zf4f_q1 R) (mkE 19 zf4f_l1 x) w :=
  pc_cut (l := zf4f_l2) 1 (zf4f_1_ok R) h
theorem zf4f_call (R : Int → World → Prop) (s_0 : Sl) (f_1 : Value) (w : World) (h : zf4f_0 R s_0 f_1 w) : mcall P n_zf4f [(Sl.v s_0), f_1] I R w :=
  pc_top (l := zf4f_l1) (c := zf4f_B) Tryz.func167 (zf4f_0_ok R) h
noncomputable abbrev zf4h_B : Code := (Tryz.f172.body).getD .skip
abbrev zf4h_q1 (R : (Bs × Int × Unit) → World → Prop) := (topQ P [.tmp 2, .tmp 3] (.tup [.s, I]) R)
abbrev zf4h_l1 : Slots := [(0, zk2)]
def zf4h_0 (R : (Bs × Int × Unit) → World → Prop) (e_0 : zT2) : World → Prop :=
 bx P zty zk2 e_0 fun a1 =>
 ld P zty a1 zk2 fun (x2 : zT2) =>
 mcall P n_zf4y [(KV zk2 x2)] I fun (x3 : Int) =>
 mif (x3 != 0)
 (R ([], x3, ()))
 (mdraw <|
 ld P zt1 a1 I fun (x4 : Int) =>
 ld P zt1 (ad a1 1) I fun (x5 : Int) =>
 ld P zt4 (ad a1 2) .s fun (x6 : Bs) =>
 bsl P zt7 I [x4, x5] fun x7 =>
 mst P (Instr.loadAt zt4 (.pointer (some (ad a1 2)))) (.string ⟨x6.toArray⟩) <|
 mcall P n_zf2f [(Sl.v x7)] .s fun (x8 : Bs) =>
 mst P (Instr.loadAt zt4 (.pointer (some (ad a1 2)))) (.string ⟨x6.toArray⟩) <|
 mcat x8 x6 fun s9 =>
 mcall P n_zf3u [(.string ⟨s9.toArray⟩)] .s fun (x10 : Bs) =>
 mcall P n_zf2l [(.string ⟨x10.toArray⟩)] .s fun (x11 : Bs) =>
 R (x11, 0, ()))
theorem zf4h_0_ok (R : (Bs × Int × Unit) → World → Prop) (x : zT2 × Unit) (w : World) (h : zf4h_0 R x.1 w) : WPC P 21 [] (Code.at zf4h_B []) (zf4h_q1 R) (mkE 21 zf4h_l1 x) w :=
  pc_end h
theorem zf4h_call (R : (Bs × Int × Unit) → World → Prop) (e_0 : zT2) (w : World) (h : zf4h_0 R e_0 w) : mcall P n_zf4h [(KV zk2 e_0)] (.tup [.s, I]) R w :=
  pc_top (l := zf4h_l1) (c := zf4h_B) Tryz.func172 (zf4h_0_ok R) h
noncomputable abbrev zf4i_B : Code := (Tryz.f173.body).getD .skip
abbrev zf4i_q1 (R : (Option Addr) → World → Prop) := (topQ P [.tmp 2] .p R)
abbrev zf4i_l1 : Slots := [(0, .p)]
abbrev zf4i_l2 : Slots := []
def zf4i_1 (R : (Option Addr) → World → Prop) : World → Prop :=
 R none
def zf4i_0 (R : (Option Addr) → World → Prop) (l_0 : Option Addr) : World → Prop :=
 mnil l_0 fun a1 =>
 ld P zt12 (ad a1 2) .sl fun (x2 : Sl) =>
 mif (decide ((x2.len : Int) > 0))
 (mnil l_0 fun a3 =>
 ld P zt12 (ad a3 2) .sl fun (x4 : Sl) =>
 ixa P zt12 (Sl.v x4) (w64 ((x2.len : Int) - 1)) fun x5 =>
 ld P zt1 (ad x5 1) I fun (x6 : Int) =>
 mif (decide (x6 < 1024))
 (mnil l_0 fun a7 =>
 ld P zt12 (ad a7 2) .sl fun (x8 : Sl) =>
 ixa P zt12 (Sl.v x8) (w64 ((x2.len : Int) - 1)) fun x9 =>
 R (some x9))
 (zf4i_1 R))
 (zf4i_1 R)
theorem zf4i_1_ok (R : (Option Addr) → World → Prop) (x : Unit) (w : World) (h : zf4i_1 R w) : WPC P 31 [] (Code.at zf4i_B [.snd, .snd]) (zf4i_q1 R) (mkE 31 zf4i_l2 x) w :=
  pc_end h
theorem zf4i_0_ok (R : (Option Addr) → World → Prop) (x : Option Addr × Unit) (w : World) (h : zf4i_0 R x.1 w) : WPC P 31 [] (Code.at zf4i_B []) (zf4i_q1 R) (mkE 31 zf4i_l1 x) w :=
  pc_cut (l := zf4i_l2) 2 (zf4i_1_ok R) h
theorem zf4i_call (R : (Option Addr) → World → Prop) (l_0 : Option Addr) (w : World) (h : zf4i_0 R l_0 w) : mcall P n_zf4i [(.pointer l_0)] .p R w :=
  pc_top (l := zf4i_l1) (c := zf4i_B) Tryz.func173 (zf4i_0_ok R) h
noncomputable abbrev zf4j_B : Code := (Tryz.f174.body).getD .skip
abbrev zf4j_q1 (R : Bs → World → Prop) := (topQ P [.tmp 4] .s R)
abbrev zf4j_l1 : Slots := [(0, .sl), (1, .s)]
abbrev zf4j_l2 : Slots := [(0, .sl), (1, .s), (5, I)]
abbrev zf4j_l3 : Slots := [(0, .sl), (1, .s), (5, I)]
abbrev zf4j_l4 : Slots := [(0, .sl), (1, .s), (8, .ad)]
abbrev zf4j_l5 : Slots := [(8, .ad)]
def zf4j_4 (R : Bs → World → Prop) (b_8 : Addr) : World → Prop :=
 mcall P n_zf2m [(.pointer (some b_8))] .s fun (x8 : Bs) =>
 R x8
abbrev zf4j_q2 (R : Bs → World → Prop) := (thenQ (fun env => getE env zf4j_l5 fun (x : Addr × Unit) => zf4j_4 R x.1) (zf4j_q1 R))
abbrev zf4j_l6 : Slots := [(0, .sl), (1, .s), (8, .ad)]
abbrev zf4j_l7 : Slots := [(65, I)]
abbrev zf4j_l8 : Slots := [(1, .s), (8, .ad), (63, .sl), (64, I)]
abbrev zf4j_q3 (c1 : (Int × Unit) → (Bs × Addr × Sl × Int × Unit) → World → Prop) (R : Bs → World → Prop) := (thenQ (fun env => getE env zf4j_l7 fun (s : Int × Unit) => getE env zf4j_l8 (c1 s)) (blockQ 3 ((zf4j_q2 R) .normal) (zf4j_q2 R)))
def zf4j_7 (c1 : (Int × Unit) → (Bs × Addr × Sl × Int × Unit) → World → Prop) (R : Bs → World → Prop) (v65 : Int) (sep_1 : Bs) (b_8 : Addr) (v63 : Sl) (v64 : Int) : World → Prop :=
 mif (decide (v65 < v64))
 (ixa P ztp (Sl.v v63) v65 fun x10 =>
 ld P zt4 x10 .s fun (x11 : Bs) =>
 mcall P n_zf2j [(.pointer (some b_8)), (.string ⟨sep_1.toArray⟩)] (.tup [I, .v]) fun (x12 : Int × Value × Unit) =>
 mcall P n_zf2j [(.pointer (some b_8)), (.string ⟨x11.toArray⟩)] (.tup [I, .v]) fun (x13 : Int × Value × Unit) =>
 c1 (w64 (v65 + 1), ()) (sep_1, b_8, v63, v64, ()))
 (zf4j_4 R b_8)
def zf4j_6 (R : Bs → World → Prop) (v65 : Int) (sep_1 : Bs) (b_8 : Addr) (v63 : Sl) (v64 : Int) : World → Prop :=
 W.Loop (sep_1, b_8, v63, v64, ()) (fun (c1 : (Int × Unit) → (Bs × Addr × Sl × Int × Unit) → World → Prop) (s : Int × Unit) => zf4j_7 c1 R s.1 sep_1 b_8 v63 v64) (v65, ())
def zf4j_5 (R : Bs → World → Prop) (elems_0 : Sl) (sep_1 : Bs) (b_8 : Addr) : World → Prop :=
 slc P ztp elems_0 (some 1) none fun x9 =>
 zf4j_6 R 0 sep_1 b_8 x9 (x9.len : Int)
def zf4j_3 (R : Bs → World → Prop) (elems_0 : Sl) (sep_1 : Bs) (b_8 : Addr) : World → Prop :=
 zf4j_5 R elems_0 sep_1 b_8
def zf4j_2 (R : Bs → World → Prop) (elems_0 : Sl) (sep_1 : Bs) (n_5 : Int) : World → Prop :=
 alo P zt11 fun a3 =>
 mcall P n_zf50 [(.pointer (some a3)), (.int .i64 n_5)] (.tup []) fun (x4 : Unit) =>
 ixa P ztp (Sl.v elems_0) 0 fun x5 =>
 ld P zt4 x5 .s fun (x6 : Bs) =>
 mcall P n_zf2j [(.pointer (some a3)), (.string ⟨x6.toArray⟩)] (.tup [I, .v]) fun (x7 : Int × Value × Unit) =>
 zf4j_3 R elems_0 sep_1 a3
abbrev zf4j_q4 (R : Bs → World → Prop) := (thenQ (fun env => getE env zf4j_l3 fun (x : Sl × Bs × Int × Unit) => zf4j_2 R x.1 x.2.1 x.2.2.1) (zf4j_q1 R))
abbrev zf4j_l9 : Slots := [(0, .sl), (1, .s), (5, I)]
abbrev zf4j_l10 : Slots := [(5, I), (41, I)]
abbrev zf4j_l11 : Slots := [(0, .sl), (1, .s), (39, .sl), (40, I)]
abbrev zf4j_q5 (c1 : (Int × Int × Unit) → (Sl × Bs × Sl × Int × Unit) → World → Prop) (R : Bs → World → Prop) := (thenQ (fun env => getE env zf4j_l10 fun (s : Int × Int × Unit) => getE env zf4j_l11 (c1 s)) (blockQ 1 ((zf4j_q4 R) .normal) (zf4j_q4 R)))
def zf4j_10 (c1 : (Int × Int × Unit) → (Sl × Bs × Sl × Int × Unit) → World → Prop) (R : Bs → World → Prop) (n_5 : Int) (v41 : Int) (elems_0 : Sl) (sep_1 : Bs) (v39 : Sl) (v40 : Int) : World → Prop :=
 mif (decide (v41 < v40))
 (ixa P ztp (Sl.v v39) v41 fun x14 =>
 ld P zt4 x14 .s fun (x15 : Bs) =>
 mif (decide ((x15.length : Int) > (w64 (9223372036854775807 - n_5))))
 ((fun _ => False))
 (c1 (w64 (n_5 + (x15.length : Int)), w64 (v41 + 1), ()) (elems_0, sep_1, v39, v40, ())))
 (zf4j_2 R elems_0 sep_1 n_5)
def zf4j_9 (R : Bs → World → Prop) (n_5 : Int) (v41 : Int) (elems_0 : Sl) (sep_1 : Bs) (v39 : Sl) (v40 : Int) : World → Prop :=
 W.Loop (elems_0, sep_1, v39, v40, ()) (fun (c1 : (Int × Int × Unit) → (Sl × Bs × Sl × Int × Unit) → World → Prop) (s : Int × Int × Unit) => zf4j_10 c1 R s.1 s.2.1 elems_0 sep_1 v39 v40) (n_5, v41, ())
def zf4j_8 (R : Bs → World → Prop) (elems_0 : Sl) (sep_1 : Bs) (n_5 : Int) : World → Prop :=
 zf4j_9 R n_5 0 elems_0 sep_1 elems_0 (elems_0.len : Int)
def zf4j_1 (R : Bs → World → Prop) (elems_0 : Sl) (sep_1 : Bs) (n_5 : Int) : World → Prop :=
 zf4j_8 R elems_0 sep_1 n_5
def zf4j_0 (R : Bs → World → Prop) (elems_0 : Sl) (sep_1 : Bs) : World → Prop :=
 mif ((elems_0.len : Int) == 0)
 (R [])
 (mif ((elems_0.len : Int) == 1)
 (ixa P ztp (Sl.v elems_0) 0 fun x1 =>
 ld P zt4 x1 .s fun (x2 : Bs) =>
 R x2)
 (mif (decide ((sep_1.length : Int) > 0))
 (mdz (w64 ((elems_0.len : Int) - 1)) <|
 mif (decide ((sep_1.length : Int) ≥ (w64 ((9223372036854775807 : Int).tdiv (w64 ((elems_0.len : Int) - 1))))))
 ((fun _ => False))
 (zf4j_1 R elems_0 sep_1 (w64 (0 + (w64 ((sep_1.length : Int) * (w64 ((elems_0.len : Int) - 1))))))))
 (zf4j_1 R elems_0 sep_1 0)))
theorem zf4j_4_ok (R : Bs → World → Prop) (x : Addr × Unit) (w : World) (h : zf4j_4 R x.1 w) : WPC P 75 [] (Code.at zf4j_B [.snd, .snd, .snd, .snd, .snd, .snd, .snd, .snd, .snd]) (zf4j_q1 R) (mkE 75 zf4j_l5 x) w :=
  pc_end h
theorem zf4j_7_ok (c1 : (Int × Unit) → (Bs × Addr × Sl × Int × Unit) → World → Prop) (R : Bs → World → Prop) (x : Int × Unit) (y : Bs × Addr × Sl × Int × Unit) (w : World) (h : zf4j_7 c1 R x.1 y.1 y.2.1 y.2.2.1 y.2.2.2.1 w) : WPC P 75 [] (Code.at zf4j_B [.snd, .snd, .snd, .snd, .snd, .snd, .snd, .snd, .fst, .snd, .blk, .blk]) (zf4j_q3 c1 R) (mkE2 75 zf4j_l7 zf4j_l8 x y) w :=
  pc_end h
theorem zf4j_6_ok (R : Bs → World → Prop) (x : Int × Unit) (y : Bs × Addr × Sl × Int × Unit) (w : World) (h : zf4j_6 R x.1 y.1 y.2.1 y.2.2.1 y.2.2.2.1 w) : WPC P 75 [] (Code.at zf4j_B [.snd, .snd, .snd, .snd, .snd, .snd, .snd, .snd, .fst, .snd]) (zf4j_q2 R) (mkE2 75 zf4j_l7 zf4j_l8 x y) w :=
  pc_loopE (l := zf4j_l7) (l' := zf4j_l8) (id := 3) (b := (Code.at zf4j_B [.snd, .snd, .snd, .snd, .snd, .snd, .snd, .snd, .fst, .snd, .blk, .blk])) (fun c1 s => zf4j_7_ok c1 R s y) h
theorem zf4j_5_ok (R : Bs → World → Prop) (x : Sl × Bs × Addr × Unit) (w : World) (h : zf4j_5 R x.1 x.2.1 x.2.2.1 w) : WPC P 75 [] (Code.at zf4j_B [.snd, .snd, .snd, .snd, .snd, .snd, .snd, .snd, .fst]) (zf4j_q2 R) (mkE 75 zf4j_l6 x) w :=
  pc_cut2 (l := zf4j_l7) (l' := zf4j_l8) 1 (zf4j_6_ok R) h
theorem zf4j_3_ok (R : Bs → World → Prop) (x : Sl × Bs × Addr × Unit) (w : World) (h : zf4j_3 R x.1 x.2.1 x.2.2.1 w) : WPC P 75 [] (Code.at zf4j_B [.snd, .snd, .snd, .snd, .snd, .snd, .snd, .snd]) (zf4j_q1 R) (mkE 75 zf4j_l4 x) w :=
  pc_seq (l := zf4j_l5) (a := (Code.at zf4j_B [.snd, .snd, .snd, .snd, .snd, .snd, .snd, .snd, .fst])) (b := (Code.at zf4j_B [.snd, .snd, .snd, .snd, .snd, .snd, .snd, .snd, .snd])) (pc_cut (l := zf4j_l6) (c := (Code.at zf4j_B [.snd, .snd, .snd, .snd, .snd, .snd, .snd, .snd, .fst])) 0 (zf4j_5_ok R) h) (zf4j_4_ok R)
theorem zf4j_2_ok (R : Bs → World → Prop) (x : Sl × Bs × Int × Unit) (w : World) (h : zf4j_2 R x.1 x.2.1 x.2.2.1 w) : WPC P 75 [] (Code.at zf4j_B [.snd, .snd, .snd, .snd, .snd]) (zf4j_q1 R) (mkE 75 zf4j_l3 x) w :=
  pc_cut (l := zf4j_l4) 3 (zf4j_3_ok R) h
theorem zf4j_10_ok (c1 : (Int × Int × Unit) → (Sl × Bs × Sl × Int × Unit) → World → Prop) (R : Bs → World → Prop) (x : Int × Int × Unit) (y : Sl × Bs × Sl × Int × Unit) (w : World) (h : zf4j_10 c1 R x.1 x.2.1 y.1 y.2.1 y.2.2.1 y.2.2.2.1 w) : WPC P 75 [] (Code.at zf4j_B [.snd, .snd, .snd, .snd, .fst, .snd, .blk, .blk]) (zf4j_q5 c1 R) (mkE2 75 zf4j_l10 zf4j_l11 x y) w :=
  pc_end h
theorem zf4j_9_ok (R : Bs → World → Prop) (x : Int × Int × Unit) (y : Sl × Bs × Sl × Int × Unit) (w : World) (h : zf4j_9 R x.1 x.2.1 y.1 y.2.1 y.2.2.1 y.2.2.2.1 w) : WPC P 75 [] (Code.at zf4j_B [.snd, .snd, .snd, .snd, .fst, .snd]) (zf4j_q4 R) (mkE2 75 zf4j_l10 zf4j_l11 x y) w :=
  pc_loopE (l := zf4j_l10) (l' := zf4j_l11) (id := 1) (b := (Code.at zf4j_B [.snd, .snd, .snd, .snd, .fst, .snd, .blk, .blk])) (fun c1 s => zf4j_10_ok c1 R s y) h
theorem zf4j_8_ok (R : Bs → World → Prop) (x : Sl × Bs × Int × Unit) (w : World) (h : zf4j_8 R x.1 x.2.1 x.2.2.1 w) : WPC P 75 [] (Code.at zf4j_B [.snd, .snd, .snd, .snd, .fst]) (zf4j_q4 R) (mkE 75 zf4j_l9 x) w :=
  pc_cut2 (l := zf4j_l10) (l' := zf4j_l11) 1 (zf4j_9_ok R) h
theorem zf4j_1_ok (R : Bs → World → Prop) (x : Sl × Bs × Int × Unit) (w : World) (h : zf4j_1 R x.1 x.2.1 x.2.2.1 w) : WPC P 75 [] (Code.at zf4j_B [.snd, .snd, .snd, .snd]) (zf4j_q1 R) (mkE 75 zf4j_l2 x) w :=
  pc_seq (l := zf4j_l3) (a := (Code.at zf4j_B [.snd, .snd, .snd, .snd, .fst])) (b := (Code.at zf4j_B [.snd, .snd, .snd, .snd, .snd])) (pc_cut (l := zf4j_l9) (c := (Code.at zf4j_B [.snd, .snd, .snd, .snd, .fst])) 0 (zf4j_8_ok R) h) (zf4j_2_ok R)
theorem zf4j_0_ok (R : Bs → World → Prop) (x : Sl × Bs × Unit) (w : World) (h : zf4j_0 R x.1 x.2.1 w) : WPC P 75 [] (Code.at zf4j_B []) (zf4j_q1 R) (mkE 75 zf4j_l1 x) w :=
  pc_cut (l := zf4j_l2) 4 (zf4j_1_ok R) h
theorem zf4j_call (R : Bs → World → Prop) (elems_0 : Sl) (sep_1 : Bs) (w : World) (h : zf4j_0 R elems_0 sep_1 w) : mcall P n_zf4j [(Sl.v elems_0), (.string ⟨sep_1.toArray⟩)] .s R w :=
  pc_top (l := zf4j_l1) (c := zf4j_B) Tryz.func174 (zf4j_0_ok R) h
noncomputable abbrev zf4k_B : Code := (Tryz.f176.body).getD .skip
abbrev zf4k_q1 (R : Bool → World → Prop) := (topQ P [.tmp 2] .b R)
abbrev zf4k_l1 : Slots := [(0, I)]
def zf4k_0 (R : Bool → World → Prop) (x_0 : Int) : World → Prop :=
 R (x_0 != x_0)
theorem zf4k_0_ok (R : Bool → World → Prop) (x : Int × Unit) (w : World) (h : zf4k_0 R x.1 w) : WPC P 6 [] (Code.at zf4k_B []) (zf4k_q1 R) (mkE 6 zf4k_l1 x) w :=
  pc_end h
theorem zf4k_call (R : Bool → World → Prop) (x_0 : Int) (w : World) (h : zf4k_0 R x_0 w) : mcall P n_zf4k [(.int .i64 x_0)] .b R w :=
  pc_top (l := zf4k_l1) (c := zf4k_B) Tryz.func176 (zf4k_0_ok R) h
noncomputable abbrev zf4m_B : Code := (Tryz.f179.body).getD .skip
abbrev zf4m_q1 (R : Int → World → Prop) := (topQ P [.tmp 4] (.i .u32) R)
abbrev zf4m_l1 : Slots := [(0, (.i .u32)), (1, .s)]
abbrev zf4m_l2 : Slots := [(1, .s), (5, (.i .u32))]
abbrev zf4m_l3 : Slots := [(5, (.i .u32))]
def zf4m_2 (R : Int → World → Prop) (r_5 : Int) : World → Prop :=
 R (inot .u32 r_5)
abbrev zf4m_q2 (R : Int → World → Prop) := (thenQ (fun env => getE env zf4m_l3 fun (x : Int × Unit) => zf4m_2 R x.1) (zf4m_q1 R))
abbrev zf4m_l4 : Slots := [(1, .s), (5, (.i .u32))]
abbrev zf4m_l5 : Slots := [(5, (.i .u32)), (11, I)]
abbrev zf4m_l6 : Slots := [(1, .s), (10, I)]
abbrev zf4m_q3 (c1 : (Int × Int × Unit) → (Bs × Int × Unit) → World → Prop) (R : Int → World → Prop) := (thenQ (fun env => getE env zf4m_l5 fun (s : Int × Int × Unit) => getE env zf4m_l6 (c1 s)) (blockQ 0 ((zf4m_q2 R) .normal) (zf4m_q2 R)))
abbrev zf4m_l7 : Slots := [(1, .s), (5, (.i .u32)), (10, I), (11, I)]
abbrev zf4m_l8 : Slots := [(1, .s), (5, (.i .u32)), (10, I), (11, I)]
def zf4m_7 (c1 : (Int × Int × Unit) → (Bs × Int × Unit) → World → Prop) (R : Int → World → Prop) (s_1 : Bs) (r_5 : Int) (v10 : Int) (v11 : Int) : World → Prop :=
 c1 (r_5, w64 (v11 + 1), ()) (s_1, v10, ())
abbrev zf4m_q4 (c1 : (Int × Int × Unit) → (Bs × Int × Unit) → World → Prop) (R : Int → World → Prop) := (thenQ (fun env => getE env zf4m_l8 fun (x : Bs × Int × Int × Int × Unit) => zf4m_7 c1 R x.1 x.2.1 x.2.2.1 x.2.2.2.1) (zf4m_q3 c1 R))
abbrev zf4m_q5 (c1 : (Int × Int × Unit) → (Bs × Int × Unit) → World → Prop) (R : Int → World → Prop) := (blockQ 1 ((zf4m_q4 c1 R) .normal) (zf4m_q4 c1 R))
abbrev zf4m_l9 : Slots := [(1, .s), (5, (.i .u32)), (10, I), (11, I)]
abbrev zf4m_l10 : Slots := [(5, (.i .u32)), (20, I)]
abbrev zf4m_l11 : Slots := [(1, .s), (10, I), (11, I)]
abbrev zf4m_q6 (c2 : (Int × Int × Unit) → (Bs × Int × Int × Unit) → World → Prop) (c1 : (Int × Int × Unit) → (Bs × Int × Unit) → World → Prop) (R : Int → World → Prop) := (thenQ (fun env => getE env zf4m_l10 fun (s : Int × Int × Unit) => getE env zf4m_l11 (c2 s)) (blockQ 2 ((zf4m_q5 c1 R) .normal) (zf4m_q5 c1 R)))
def zf4m_10 (c2 : (Int × Int × Unit) → (Bs × Int × Int × Unit) → World → Prop) (c1 : (Int × Int × Unit) → (Bs × Int × Unit) → World → Prop) (R : Int → World → Prop) (r_5 : Int) (v20 : Int) (s_1 : Bs) (v10 : Int) (v11 : Int) : World → Prop :=
 mif (decide (v20 < 8))
 (mcall P n_zf51 [(.int .u32 r_5)] (.i .u32) fun (x2 : Int) =>
 c2 (x2, w64 (v20 + 1), ()) (s_1, v10, v11, ()))
 (zf4m_7 c1 R s_1 r_5 v10 v11)
def zf4m_9 (c1 : (Int × Int × Unit) → (Bs × Int × Unit) → World → Prop) (R : Int → World → Prop) (r_5 : Int) (v20 : Int) (s_1 : Bs) (v10 : Int) (v11 : Int) : World → Prop :=
 W.Loop (s_1, v10, v11, ()) (fun (c2 : (Int × Int × Unit) → (Bs × Int × Int × Unit) → World → Prop) (s : Int × Int × Unit) => zf4m_10 c2 c1 R s.1 s.2.1 s_1 v10 v11) (r_5, v20, ())
def zf4m_8 (c1 : (Int × Int × Unit) → (Bs × Int × Unit) → World → Prop) (R : Int → World → Prop) (s_1 : Bs) (r_5 : Int) (v10 : Int) (v11 : Int) : World → Prop :=
 ixs P zt4 s_1 v11 fun x1 =>
 zf4m_9 c1 R (ixor .u32 r_5 (wr32 x1)) 0 s_1 v10 v11
def zf4m_6 (c1 : (Int × Int × Unit) → (Bs × Int × Unit) → World → Prop) (R : Int → World → Prop) (s_1 : Bs) (r_5 : Int) (v10 : Int) (v11 : Int) : World → Prop :=
 zf4m_8 c1 R s_1 r_5 v10 v11
def zf4m_5 (c1 : (Int × Int × Unit) → (Bs × Int × Unit) → World → Prop) (R : Int → World → Prop) (r_5 : Int) (v11 : Int) (s_1 : Bs) (v10 : Int) : World → Prop :=
 mif (decide (v11 < v10))
 (zf4m_6 c1 R s_1 r_5 v10 v11)
 (zf4m_2 R r_5)
def zf4m_4 (R : Int → World → Prop) (r_5 : Int) (v11 : Int) (s_1 : Bs) (v10 : Int) : World → Prop :=
 W.Loop (s_1, v10, ()) (fun (c1 : (Int × Int × Unit) → (Bs × Int × Unit) → World → Prop) (s : Int × Int × Unit) => zf4m_5 c1 R s.1 s.2.1 s_1 v10) (r_5, v11, ())
def zf4m_3 (R : Int → World → Prop) (s_1 : Bs) (r_5 : Int) : World → Prop :=
 zf4m_4 R r_5 0 s_1 (s_1.length : Int)
def zf4m_1 (R : Int → World → Prop) (s_1 : Bs) (r_5 : Int) : World → Prop :=
 zf4m_3 R s_1 r_5
def zf4m_0 (R : Int → World → Prop) (c_0 : Int) (s_1 : Bs) : World → Prop :=
 zf4m_1 R s_1 (inot .u32 c_0)
theorem zf4m_2_ok (R : Int → World → Prop) (x : Int × Unit) (w : World) (h : zf4m_2 R x.1 w) : WPC P 28 [] (Code.at zf4m_B [.snd, .snd, .snd]) (zf4m_q1 R) (mkE 28 zf4m_l3 x) w :=
  pc_end h
theorem zf4m_7_ok (c1 : (Int × Int × Unit) → (Bs × Int × Unit) → World → Prop) (R : Int → World → Prop) (x : Bs × Int × Int × Int × Unit) (w : World) (h : zf4m_7 c1 R x.1 x.2.1 x.2.2.1 x.2.2.2.1 w) : WPC P 28 [] (Code.at zf4m_B [.snd, .snd, .fst, .snd, .blk, .blk, .snd, .snd, .snd]) (zf4m_q3 c1 R) (mkE 28 zf4m_l8 x) w :=
  pc_end h
theorem zf4m_10_ok (c2 : (Int × Int × Unit) → (Bs × Int × Int × Unit) → World → Prop) (c1 : (Int × Int × Unit) → (Bs × Int × Unit) → World → Prop) (R : Int → World → Prop) (x : Int × Int × Unit) (y : Bs × Int × Int × Unit) (w : World) (h : zf4m_10 c2 c1 R x.1 x.2.1 y.1 y.2.1 y.2.2.1 w) : WPC P 28 [] (Code.at zf4m_B [.snd, .snd, .fst, .snd, .blk, .blk, .snd, .snd, .fst, .blk, .snd, .snd, .snd, .blk, .blk]) (zf4m_q6 c2 c1 R) (mkE2 28 zf4m_l10 zf4m_l11 x y) w :=
  pc_end h
theorem zf4m_9_ok (c1 : (Int × Int × Unit) → (Bs × Int × Unit) → World → Prop) (R : Int → World → Prop) (x : Int × Int × Unit) (y : Bs × Int × Int × Unit) (w : World) (h : zf4m_9 c1 R x.1 x.2.1 y.1 y.2.1 y.2.2.1 w) : WPC P 28 [] (Code.at zf4m_B [.snd, .snd, .fst, .snd, .blk, .blk, .snd, .snd, .fst, .blk, .snd, .snd, .snd]) (zf4m_q5 c1 R) (mkE2 28 zf4m_l10 zf4m_l11 x y) w :=
  pc_loopE (l := zf4m_l10) (l' := zf4m_l11) (id := 2) (b := (Code.at zf4m_B [.snd, .snd, .fst, .snd, .blk, .blk, .snd, .snd, .fst, .blk, .snd, .snd, .snd, .blk, .blk])) (fun c2 s => zf4m_10_ok c2 c1 R s y) h
theorem zf4m_8_ok (c1 : (Int × Int × Unit) → (Bs × Int × Unit) → World → Prop) (R : Int → World → Prop) (x : Bs × Int × Int × Int × Unit) (w : World) (h : zf4m_8 c1 R x.1 x.2.1 x.2.2.1 x.2.2.2.1 w) : WPC P 28 [] (Code.at zf4m_B [.snd, .snd, .fst, .snd, .blk, .blk, .snd, .snd, .fst, .blk]) (zf4m_q5 c1 R) (mkE 28 zf4m_l9 x) w :=
  pc_cut2 (l := zf4m_l10) (l' := zf4m_l11) 3 (zf4m_9_ok c1 R) h
theorem zf4m_6_ok (c1 : (Int × Int × Unit) → (Bs × Int × Unit) → World → Prop) (R : Int → World → Prop) (x : Bs × Int × Int × Int × Unit) (w : World) (h : zf4m_6 c1 R x.1 x.2.1 x.2.2.1 x.2.2.2.1 w) : WPC P 28 [] (Code.at zf4m_B [.snd, .snd, .fst, .snd, .blk, .blk, .snd, .snd]) (zf4m_q3 c1 R) (mkE 28 zf4m_l7 x) w :=
  pc_seq (l := zf4m_l8) (a := (Code.at zf4m_B [.snd, .snd, .fst, .snd, .blk, .blk, .snd, .snd, .fst])) (b := (Code.at zf4m_B [.snd, .snd, .fst, .snd, .blk, .blk, .snd, .snd, .snd])) (pc_block (c := (Code.at zf4m_B [.snd, .snd, .fst, .snd, .blk, .blk, .snd, .snd, .fst, .blk])) (id := 1) (pc_cut (l := zf4m_l9) (c := (Code.at zf4m_B [.snd, .snd, .fst, .snd, .blk, .blk, .snd, .snd, .fst, .blk])) 0 (zf4m_8_ok c1 R) h)) (zf4m_7_ok c1 R)
theorem zf4m_5_ok (c1 : (Int × Int × Unit) → (Bs × Int × Unit) → World → Prop) (R : Int → World → Prop) (x : Int × Int × Unit) (y : Bs × Int × Unit) (w : World) (h : zf4m_5 c1 R x.1 x.2.1 y.1 y.2.1 w) : WPC P 28 [] (Code.at zf4m_B [.snd, .snd, .fst, .snd, .blk, .blk]) (zf4m_q3 c1 R) (mkE2 28 zf4m_l5 zf4m_l6 x y) w :=
  pc_cut (l := zf4m_l7) 2 (zf4m_6_ok c1 R) h
theorem zf4m_4_ok (R : Int → World → Prop) (x : Int × Int × Unit) (y : Bs × Int × Unit) (w : World) (h : zf4m_4 R x.1 x.2.1 y.1 y.2.1 w) : WPC P 28 [] (Code.at zf4m_B [.snd, .snd, .fst, .snd]) (zf4m_q2 R) (mkE2 28 zf4m_l5 zf4m_l6 x y) w :=
  pc_loopE (l := zf4m_l5) (l' := zf4m_l6) (id := 0) (b := (Code.at zf4m_B [.snd, .snd, .fst, .snd, .blk, .blk])) (fun c1 s => zf4m_5_ok c1 R s y) h
theorem zf4m_3_ok (R : Int → World → Prop) (x : Bs × Int × Unit) (w : World) (h : zf4m_3 R x.1 x.2.1 w) : WPC P 28 [] (Code.at zf4m_B [.snd, .snd, .fst]) (zf4m_q2 R) (mkE 28 zf4m_l4 x) w :=
  pc_cut2 (l := zf4m_l5) (l' := zf4m_l6) 1 (zf4m_4_ok R) h
theorem zf4m_1_ok (R : Int → World → Prop) (x : Bs × Int × Unit) (w : World) (h : zf4m_1 R x.1 x.2.1 w) : WPC P 28 [] (Code.at zf4m_B [.snd, .snd]) (zf4m_q1 R) (mkE 28 zf4m_l2 x) w :=
  pc_seq (l := zf4m_l3) (a := (Code.at zf4m_B [.snd, .snd, .fst])) (b := (Code.at zf4m_B [.snd, .snd, .snd])) (pc_cut (l := zf4m_l4) (c := (Code.at zf4m_B [.snd, .snd, .fst])) 0 (zf4m_3_ok R) h) (zf4m_2_ok R)
theorem zf4m_0_ok (R : Int → World → Prop) (x : Int × Bs × Unit) (w : World) (h : zf4m_0 R x.1 x.2.1 w) : WPC P 28 [] (Code.at zf4m_B []) (zf4m_q1 R) (mkE 28 zf4m_l1 x) w :=
  pc_cut (l := zf4m_l2) 2 (zf4m_1_ok R) h
theorem zf4m_call (R : Int → World → Prop) (c_0 : Int) (s_1 : Bs) (w : World) (h : zf4m_0 R c_0 s_1 w) : mcall P n_zf4m [(.int .u32 c_0), (.string ⟨s_1.toArray⟩)] (.i .u32) R w :=
  pc_top (l := zf4m_l1) (c := zf4m_B) Tryz.func179 (zf4m_0_ok R) h
noncomputable abbrev zf4n_B : Code := (Tryz.f180.body).getD .skip
abbrev zf4n_q1 (R : Bool → World → Prop) := (topQ P [.tmp 4] .b R)
abbrev zf4n_l1 : Slots := [(0, .p), (1, (.i .u8))]
def zf4n_0 (R : Bool → World → Prop) (as_0 : Option Addr) (c_1 : Int) : World → Prop :=
 mnil as_0 fun a1 =>
 mrd P (Instr.indexAt zt1e (.pointer (some a1)) (.int .u8 c_1)) .ad fun (x2 : Addr) =>
 ld P zt2 x2 .b fun (x3 : Bool) =>
 R x3
theorem zf4n_0_ok (R : Bool → World → Prop) (x : Option Addr × Int × Unit) (w : World) (h : zf4n_0 R x.1 x.2.1 w) : WPC P 10 [] (Code.at zf4n_B []) (zf4n_q1 R) (mkE 10 zf4n_l1 x) w :=
  pc_end h
theorem zf4n_call (R : Bool → World → Prop) (as_0 : Option Addr) (c_1 : Int) (w : World) (h : zf4n_0 R as_0 c_1 w) : mcall P n_zf4n [(.pointer as_0), (.int .u8 c_1)] .b R w :=
  pc_top (l := zf4n_l1) (c := zf4n_B) Tryz.func180 (zf4n_0_ok R) h
noncomputable abbrev zf4o_B : Code := (Tryz.f184.body).getD .skip
abbrev zf4o_q1 (R : Unit → World → Prop) := (topQ P [] (.tup []) R)
abbrev zf4o_l1 : Slots := [(0, .sl), (1, I), (2, I)]
abbrev zf4o_l2 : Slots := [(6, I)]
abbrev zf4o_l3 : Slots := [(0, .sl), (1, I), (2, I)]
abbrev zf4o_q2 (c1 : (Int × Unit) → (Sl × Int × Int × Unit) → World → Prop) (R : Unit → World → Prop) := (thenQ (fun env => getE env zf4o_l2 fun (s : Int × Unit) => getE env zf4o_l3 (c1 s)) (blockQ 0 ((zf4o_q1 R) .normal) (zf4o_q1 R)))
abbrev zf4o_l4 : Slots := [(0, .sl), (1, I), (2, I), (6, I)]
abbrev zf4o_l5 : Slots := [(0, .sl), (1, I), (2, I), (6, I)]
def zf4o_4 (c1 : (Int × Unit) → (Sl × Int × Int × Unit) → World → Prop) (R : Unit → World → Prop) (data_0 : Sl) (a_1 : Int) (b_2 : Int) (i_6 : Int) : World → Prop :=
 c1 (w64 (i_6 + 1), ()) (data_0, a_1, b_2, ())
abbrev zf4o_q3 (c1 : (Int × Unit) → (Sl × Int × Int × Unit) → World → Prop) (R : Unit → World → Prop) := (thenQ (fun env => getE env zf4o_l5 fun (x : Sl × Int × Int × Int × Unit) => zf4o_4 c1 R x.1 x.2.1 x.2.2.1 x.2.2.2.1) (zf4o_q2 c1 R))
abbrev zf4o_q4 (c1 : (Int × Unit) → (Sl × Int × Int × Unit) → World → Prop) (R : Unit → World → Prop) := (blockQ 1 ((zf4o_q3 c1 R) .normal) (zf4o_q3 c1 R))
abbrev zf4o_l6 : Slots := [(0, .sl), (1, I), (2, I), (6, I)]
abbrev zf4o_l7 : Slots := [(7, I)]
abbrev zf4o_l8 : Slots := [(0, .sl), (1, I), (2, I), (6, I)]
abbrev zf4o_q5 (c2 : (Int × Unit) → (Sl × Int × Int × Int × Unit) → World → Prop) (c1 : (Int × Unit) → (Sl × Int × Int × Unit) → World → Prop) (R : Unit → World → Prop) := (thenQ (fun env => getE env zf4o_l7 fun (s : Int × Unit) => getE env zf4o_l8 (c2 s)) (blockQ 2 ((zf4o_q4 c1 R) .normal) (zf4o_q4 c1 R)))
def zf4o_7 (c2 : (Int × Unit) → (Sl × Int × Int × Int × Unit) → World → Prop) (c1 : (Int × Unit) → (Sl × Int × Int × Unit) → World → Prop) (R : Unit → World → Prop) (j_7 : Int) (data_0 : Sl) (a_1 : Int) (b_2 : Int) (i_6 : Int) : World → Prop :=
 mdraw <|
 mif (decide (j_7 > a_1))
 (ixa P ztp (Sl.v data_0) j_7 fun x1 =>
 ld P zt4 x1 .s fun (x2 : Bs) =>
 ixa P ztp (Sl.v data_0) (w64 (j_7 - 1)) fun x3 =>
 ld P zt4 x3 .s fun (x4 : Bs) =>
 mcall P n_zf4u [(.string ⟨x2.toArray⟩), (.string ⟨x4.toArray⟩)] .b fun (x5 : Bool) =>
 mif x5
 (mdraw <|
 ixa P ztp (Sl.v data_0) (w64 (j_7 - 1)) fun x6 =>
 ld P zt4 x6 .s fun (x7 : Bs) =>
 ixa P ztp (Sl.v data_0) j_7 fun x8 =>
 ld P zt4 x8 .s fun (x9 : Bs) =>
 ixa P ztp (Sl.v data_0) j_7 fun x10 =>
 sto P zt4 x10 .s x7 <|
 ixa P ztp (Sl.v data_0) (w64 (j_7 - 1)) fun x11 =>
 sto P zt4 x11 .s x9 <|
 c2 (w64 (j_7 - 1), ()) (data_0, a_1, b_2, i_6, ()))
 (zf4o_4 c1 R data_0 a_1 b_2 i_6))
 (zf4o_4 c1 R data_0 a_1 b_2 i_6)
def zf4o_6 (c1 : (Int × Unit) → (Sl × Int × Int × Unit) → World → Prop) (R : Unit → World → Prop) (j_7 : Int) (data_0 : Sl) (a_1 : Int) (b_2 : Int) (i_6 : Int) : World → Prop :=
 W.Loop (data_0, a_1, b_2, i_6, ()) (fun (c2 : (Int × Unit) → (Sl × Int × Int × Int × Unit) → World → Prop) (s : Int × Unit) => zf4o_7 c2 c1 R s.1 data_0 a_1 b_2 i_6) (j_7, ())
def zf4o_5 (c1 : (Int × Unit) → (Sl × Int × Int × Unit) → World → Prop) (R : Unit → World → Prop) (data_0 : Sl) (a_1 : Int) (b_2 : Int) (i_6 : Int) : World → Prop :=
 zf4o_6 c1 R i_6 data_0 a_1 b_2 i_6
def zf4o_3 (c1 : (Int × Unit) → (Sl × Int × Int × Unit) → World → Prop) (R : Unit → World → Prop) (data_0 : Sl) (a_1 : Int) (b_2 : Int) (i_6 : Int) : World → Prop :=
 zf4o_5 c1 R data_0 a_1 b_2 i_6
def zf4o_2 (c1 : (Int × Unit) → (Sl × Int × Int × Unit) → World → Prop) (R : Unit → World → Prop) (i_6 : Int) (data_0 : Sl) (a_1 : Int) (b_2 : Int) : World → Prop :=
 mif (decide (i_6 < b_2))
 (zf4o_3 c1 R data_0 a_1 b_2 i_6)
 (R (()))
def zf4o_1 (R : Unit → World → Prop) (i_6 : Int) (data_0 : Sl) (a_1 : Int) (b_2 : Int) : World → Prop :=
 W.Loop (data_0, a_1, b_2, ()) (fun (c1 : (Int × Unit) → (Sl × Int × Int × Unit) → World → Prop) (s : Int × Unit) => zf4o_2 c1 R s.1 data_0 a_1 b_2) (i_6, ())
def zf4o_0 (R : Unit → World → Prop) (data_0 : Sl) (a_1 : Int) (b_2 : Int) : World → Prop :=
 zf4o_1 R (w64 (a_1 + 1)) data_0 a_1 b_2
theorem zf4o_4_ok (c1 : (Int × Unit) → (Sl × Int × Int × Unit) → World → Prop) (R : Unit → World → Prop) (x : Sl × Int × Int × Int × Unit) (w : World) (h : zf4o_4 c1 R x.1 x.2.1 x.2.2.1 x.2.2.2.1 w) : WPC P 49 [] (Code.at zf4o_B [.snd, .blk, .blk, .snd, .snd]) (zf4o_q2 c1 R) (mkE 49 zf4o_l5 x) w :=
  pc_end h
theorem zf4o_7_ok (c2 : (Int × Unit) → (Sl × Int × Int × Int × Unit) → World → Prop) (c1 : (Int × Unit) → (Sl × Int × Int × Unit) → World → Prop) (R : Unit → World → Prop) (x : Int × Unit) (y : Sl × Int × Int × Int × Unit) (w : World) (h : zf4o_7 c2 c1 R x.1 y.1 y.2.1 y.2.2.1 y.2.2.2.1 w) : WPC P 49 [] (Code.at zf4o_B [.snd, .blk, .blk, .snd, .fst, .blk, .snd, .blk, .blk]) (zf4o_q5 c2 c1 R) (mkE2 49 zf4o_l7 zf4o_l8 x y) w :=
  pc_end h
theorem zf4o_6_ok (c1 : (Int × Unit) → (Sl × Int × Int × Unit) → World → Prop) (R : Unit → World → Prop) (x : Int × Unit) (y : Sl × Int × Int × Int × Unit) (w : World) (h : zf4o_6 c1 R x.1 y.1 y.2.1 y.2.2.1 y.2.2.2.1 w) : WPC P 49 [] (Code.at zf4o_B [.snd, .blk, .blk, .snd, .fst, .blk, .snd]) (zf4o_q4 c1 R) (mkE2 49 zf4o_l7 zf4o_l8 x y) w :=
  pc_loopE (l := zf4o_l7) (l' := zf4o_l8) (id := 2) (b := (Code.at zf4o_B [.snd, .blk, .blk, .snd, .fst, .blk, .snd, .blk, .blk])) (fun c2 s => zf4o_7_ok c2 c1 R s y) h
theorem zf4o_5_ok (c1 : (Int × Unit) → (Sl × Int × Int × Unit) → World → Prop) (R : Unit → World → Prop) (x : Sl × Int × Int × Int × Unit) (w : World) (h : zf4o_5 c1 R x.1 x.2.1 x.2.2.1 x.2.2.2.1 w) : WPC P 49 [] (Code.at zf4o_B [.snd, .blk, .blk, .snd, .fst, .blk]) (zf4o_q4 c1 R) (mkE 49 zf4o_l6 x) w :=
  pc_cut2 (l := zf4o_l7) (l' := zf4o_l8) 1 (zf4o_6_ok c1 R) h
theorem zf4o_3_ok (c1 : (Int × Unit) → (Sl × Int × Int × Unit) → World → Prop) (R : Unit → World → Prop) (x : Sl × Int × Int × Int × Unit) (w : World) (h : zf4o_3 c1 R x.1 x.2.1 x.2.2.1 x.2.2.2.1 w) : WPC P 49 [] (Code.at zf4o_B [.snd, .blk, .blk, .snd]) (zf4o_q2 c1 R) (mkE 49 zf4o_l4 x) w :=
  pc_seq (l := zf4o_l5) (a := (Code.at zf4o_B [.snd, .blk, .blk, .snd, .fst])) (b := (Code.at zf4o_B [.snd, .blk, .blk, .snd, .snd])) (pc_block (c := (Code.at zf4o_B [.snd, .blk, .blk, .snd, .fst, .blk])) (id := 1) (pc_cut (l := zf4o_l6) (c := (Code.at zf4o_B [.snd, .blk, .blk, .snd, .fst, .blk])) 0 (zf4o_5_ok c1 R) h)) (zf4o_4_ok c1 R)
theorem zf4o_2_ok (c1 : (Int × Unit) → (Sl × Int × Int × Unit) → World → Prop) (R : Unit → World → Prop) (x : Int × Unit) (y : Sl × Int × Int × Unit) (w : World) (h : zf4o_2 c1 R x.1 y.1 y.2.1 y.2.2.1 w) : WPC P 49 [] (Code.at zf4o_B [.snd, .blk, .blk]) (zf4o_q2 c1 R) (mkE2 49 zf4o_l2 zf4o_l3 x y) w :=
  pc_cut (l := zf4o_l4) 1 (zf4o_3_ok c1 R) h
theorem zf4o_1_ok (R : Unit → World → Prop) (x : Int × Unit) (y : Sl × Int × Int × Unit) (w : World) (h : zf4o_1 R x.1 y.1 y.2.1 y.2.2.1 w) : WPC P 49 [] (Code.at zf4o_B [.snd]) (zf4o_q1 R) (mkE2 49 zf4o_l2 zf4o_l3 x y) w :=
  pc_loopE (l := zf4o_l2) (l' := zf4o_l3) (id := 0) (b := (Code.at zf4o_B [.snd, .blk, .blk])) (fun c1 s => zf4o_2_ok c1 R s y) h
theorem zf4o_0_ok (R : Unit → World → Prop) (x : Sl × Int × Int × Unit) (w : World) (h : zf4o_0 R x.1 x.2.1 x.2.2.1 w) : WPC P 49 [] (Code.at zf4o_B []) (zf4o_q1 R) (mkE 49 zf4o_l1 x) w :=
  pc_cut2 (l := zf4o_l2) (l' := zf4o_l3) 1 (zf4o_1_ok R) h
theorem zf4o_call (R : Unit → World → Prop) (data_0 : Sl) (a_1 : Int) (b_2 : Int) (w : World) (h : zf4o_0 R data_0 a_1 b_2 w) : mcall P n_zf4o [(Sl.v data_0), (.int .i64 a_1), (.int .i64 b_2)] (.tup []) R w :=
  pc_top (l := zf4o_l1) (c := zf4o_B) Tryz.func184 (zf4o_0_ok R) h
noncomputable abbrev zf4u_B : Code := (Tryz.f190.body).getD .skip
abbrev zf4u_q1 (R : Bool → World → Prop) := (topQ P [.tmp 4] .b R)
abbrev zf4u_l1 : Slots := [(0, .s), (1, .s)]
def zf4u_0 (R : Bool → World → Prop) (x_0 : Bs) (y_1 : Bs) : World → Prop :=
 mcall P n_zf52 [(.string ⟨x_0.toArray⟩)] .b fun (x1 : Bool) =>
 mif x1
 (mcall P n_zf52 [(.string ⟨y_1.toArray⟩)] .b fun (x2 : Bool) =>
 mif (!x2)
 (R true)
 (R (Op.bytesLess x_0 y_1)))
 (R (Op.bytesLess x_0 y_1))
theorem zf4u_0_ok (R : Bool → World → Prop) (x : Bs × Bs × Unit) (w : World) (h : zf4u_0 R x.1 x.2.1 w) : WPC P 17 [] (Code.at zf4u_B []) (zf4u_q1 R) (mkE 17 zf4u_l1 x) w :=
  pc_end h
theorem zf4u_call (R : Bool → World → Prop) (x_0 : Bs) (y_1 : Bs) (w : World) (h : zf4u_0 R x_0 y_1 w) : mcall P n_zf4u [(.string ⟨x_0.toArray⟩), (.string ⟨y_1.toArray⟩)] .b R w :=
  pc_top (l := zf4u_l1) (c := zf4u_B) Tryz.func190 (zf4u_0_ok R) h
noncomputable abbrev zf4x_B : Code := (Tryz.f194.body).getD .skip
abbrev zf4x_q1 (R : Int → World → Prop) := (topQ P [.tmp 2] I R)
abbrev zf4x_l1 : Slots := [(0, (.i .u64))]
abbrev zf4x_l2 : Slots := [(0, (.i .u64)), (2, I)]
abbrev zf4x_l3 : Slots := [(0, (.i .u64)), (2, I)]
abbrev zf4x_l4 : Slots := [(0, (.i .u64)), (2, I)]
def zf4x_3 (R : Int → World → Prop) (x_0 : Int) (n_2 : Int) : World → Prop :=
 mrd P (Instr.index zt4 (.string ⟨[0, 1, 2, 2, 3, 3, 3, 3, 4, 4, 4, 4, 4, 4, 4, 4, 5, 5, 5, 5, 5, 5, 5, 5, 5, 5, 5, 5, 5, 5, 5, 5, 6, 6, 6, 6, 6, 6, 6, 6, 6, 6, 6, 6, 6, 6, 6, 6, 6, 6, 6, 6, 6, 6, 6, 6, 6, 6, 6, 6, 6, 6, 6, 6, 7, 7, 7, 7, 7, 7, 7, 7, 7, 7, 7, 7, 7, 7, 7, 7, 7, 7, 7, 7, 7, 7, 7, 7, 7, 7, 7, 7, 7, 7, 7, 7, 7, 7, 7, 7, 7, 7, 7, 7, 7, 7, 7, 7, 7, 7, 7, 7, 7, 7, 7, 7, 7, 7, 7, 7, 7, 7, 7, 7, 7, 7, 7, 7, 8, 8, 8, 8, 8, 8, 8, 8, 8, 8, 8, 8, 8, 8, 8, 8, 8, 8, 8, 8, 8, 8, 8, 8, 8, 8, 8, 8, 8, 8, 8, 8, 8, 8, 8, 8, 8, 8, 8, 8, 8, 8, 8, 8, 8, 8, 8, 8, 8, 8, 8, 8, 8, 8, 8, 8, 8, 8, 8, 8, 8, 8, 8, 8, 8, 8, 8, 8, 8, 8, 8, 8, 8, 8, 8, 8, 8, 8, 8, 8, 8, 8, 8, 8, 8, 8, 8, 8, 8, 8, 8, 8, 8, 8, 8, 8, 8, 8, 8, 8, 8, 8, 8, 8, 8, 8, 8, 8, 8, 8, 8, 8, 8, 8, 8, 8, 8, 8, 8, 8, 8, 8, 8, 8, 8, 8, 8, 8].toArray⟩) (.int .u8 (wr8 x_0))) (.i .u8) fun (x1 : Int) =>
 R (w64 (n_2 + (w64 x1)))
def zf4x_2 (R : Int → World → Prop) (x_0 : Int) (n_2 : Int) : World → Prop :=
 mif (decide (x_0 ≥ 256))
 (zf4x_3 R (ishr .u64 x_0 8) (w64 (n_2 + 8)))
 (zf4x_3 R x_0 n_2)
def zf4x_1 (R : Int → World → Prop) (x_0 : Int) (n_2 : Int) : World → Prop :=
 mif (decide (x_0 ≥ 65536))
 (zf4x_2 R (ishr .u64 x_0 16) (w64 (n_2 + 16)))
 (zf4x_2 R x_0 n_2)
def zf4x_0 (R : Int → World → Prop) (x_0 : Int) : World → Prop :=
 mif (decide (x_0 ≥ 4294967296))
 (zf4x_1 R (ishr .u64 x_0 32) 32)
 (zf4x_1 R x_0 0)
theorem zf4x_3_ok (R : Int → World → Prop) (x : Int × Int × Unit) (w : World) (h : zf4x_3 R x.1 x.2.1 w) : WPC P 25 [] (Code.at zf4x_B [.snd, .snd, .snd, .snd]) (zf4x_q1 R) (mkE 25 zf4x_l4 x) w :=
  pc_end h
theorem zf4x_2_ok (R : Int → World → Prop) (x : Int × Int × Unit) (w : World) (h : zf4x_2 R x.1 x.2.1 w) : WPC P 25 [] (Code.at zf4x_B [.snd, .snd, .snd]) (zf4x_q1 R) (mkE 25 zf4x_l3 x) w :=
  pc_cut (l := zf4x_l4) 1 (zf4x_3_ok R) h
theorem zf4x_1_ok (R : Int → World → Prop) (x : Int × Int × Unit) (w : World) (h : zf4x_1 R x.1 x.2.1 w) : WPC P 25 [] (Code.at zf4x_B [.snd, .snd]) (zf4x_q1 R) (mkE 25 zf4x_l2 x) w :=
  pc_cut (l := zf4x_l3) 1 (zf4x_2_ok R) h
theorem zf4x_0_ok (R : Int → World → Prop) (x : Int × Unit) (w : World) (h : zf4x_0 R x.1 w) : WPC P 25 [] (Code.at zf4x_B []) (zf4x_q1 R) (mkE 25 zf4x_l1 x) w :=
  pc_cut (l := zf4x_l2) 2 (zf4x_1_ok R) h
theorem zf4x_call (R : Int → World → Prop) (x_0 : Int) (w : World) (h : zf4x_0 R x_0 w) : mcall P n_zf4x [(.int .u64 x_0)] I R w :=
  pc_top (l := zf4x_l1) (c := zf4x_B) Tryz.func194 (zf4x_0_ok R) h
noncomputable abbrev zf4y_B : Code := (Tryz.f196.body).getD .skip
abbrev zf4y_q1 (R : Int → World → Prop) := (topQ P [.tmp 2] I R)
abbrev zf4y_l1 : Slots := [(0, zk2)]
def zf4y_0 (R : Int → World → Prop) (e_0 : zT2) : World → Prop :=
 bx P zty zk2 e_0 fun a1 =>
 ld P zt1 a1 I fun (x2 : Int) =>
 mif (decide (x2 < 0))
 (R 1)
 (ld P zt1 a1 I fun (x3 : Int) =>
 mif (decide (x3 > 1099511627776))
 (R 1)
 (ld P zt1 (ad a1 1) I fun (x4 : Int) =>
 mif (decide (x4 < 1))
 (R 1)
 (ld P zt1 (ad a1 1) I fun (x5 : Int) =>
 mif (decide (x5 > 64))
 (R 1)
 (ld P zt4 (ad a1 2) .s fun (x6 : Bs) =>
 mif (decide ((x6.length : Int) > 65536))
 (R 1)
 (R 0)))))
theorem zf4y_0_ok (R : Int → World → Prop) (x : zT2 × Unit) (w : World) (h : zf4y_0 R x.1 w) : WPC P 27 [] (Code.at zf4y_B []) (zf4y_q1 R) (mkE 27 zf4y_l1 x) w :=
  pc_end h
theorem zf4y_call (R : Int → World → Prop) (e_0 : zT2) (w : World) (h : zf4y_0 R e_0 w) : mcall P n_zf4y [(KV zk2 e_0)] I R w :=
  pc_top (l := zf4y_l1) (c := zf4y_B) Tryz.func196 (zf4y_0_ok R) h
noncomputable abbrev zf4z_B : Code := (Tryz.f197.body).getD .skip
abbrev zf4z_q1 (R : Bool → World → Prop) := (topQ P [.tmp 2] .b R)
abbrev zf4z_l1 : Slots := [(0, I)]
def zf4z_0 (R : Bool → World → Prop) (n_0 : Int) : World → Prop :=
 mif (decide (n_0 < 0))
 (R true)
 (R (decide (n_0 > 1099511627776)))
theorem zf4z_0_ok (R : Bool → World → Prop) (x : Int × Unit) (w : World) (h : zf4z_0 R x.1 w) : WPC P 9 [] (Code.at zf4z_B []) (zf4z_q1 R) (mkE 9 zf4z_l1 x) w :=
  pc_end h
theorem zf4z_call (R : Bool → World → Prop) (n_0 : Int) (w : World) (h : zf4z_0 R n_0 w) : mcall P n_zf4z [(.int .i64 n_0)] .b R w :=
  pc_top (l := zf4z_l1) (c := zf4z_B) Tryz.func197 (zf4z_0_ok R) h
noncomputable abbrev zf51_B : Code := (Tryz.f202.body).getD .skip
abbrev zf51_q1 (R : Int → World → Prop) := (topQ P [.tmp 2] (.i .u32) R)
abbrev zf51_l1 : Slots := [(0, (.i .u32))]
def zf51_0 (R : Int → World → Prop) (r_0 : Int) : World → Prop :=
 mif ((iand .u32 r_0 1) == 1)
 (R (ixor .u32 (ishr .u32 r_0 1) 2197175160))
 (R (ishr .u32 r_0 1))
theorem zf51_0_ok (R : Int → World → Prop) (x : Int × Unit) (w : World) (h : zf51_0 R x.1 w) : WPC P 11 [] (Code.at zf51_B []) (zf51_q1 R) (mkE 11 zf51_l1 x) w :=
  pc_end h
theorem zf51_call (R : Int → World → Prop) (r_0 : Int) (w : World) (h : zf51_0 R r_0 w) : mcall P n_zf51 [(.int .u32 r_0)] (.i .u32) R w :=
  pc_top (l := zf51_l1) (c := zf51_B) Tryz.func202 (zf51_0_ok R) h
noncomputable abbrev zf52_B : Code := (Tryz.f211.body).getD .skip
abbrev zf52_q1 (R : Bool → World → Prop) := (topQ P [.tmp 2] .b R)
abbrev zf52_l1 : Slots := [(0, .s)]
def zf52_0 (R : Bool → World → Prop) (x_0 : Bs) : World → Prop :=
 R (!(x_0 == x_0))
theorem zf52_0_ok (R : Bool → World → Prop) (x : Bs × Unit) (w : World) (h : zf52_0 R x.1 w) : WPC P 6 [] (Code.at zf52_B []) (zf52_q1 R) (mkE 6 zf52_l1 x) w :=
  pc_end h
theorem zf52_call (R : Bool → World → Prop) (x_0 : Bs) (w : World) (h : zf52_0 R x_0 w) : mcall P n_zf52 [(.string ⟨x_0.toArray⟩)] .b R w :=
  pc_top (l := zf52_l1) (c := zf52_B) Tryz.func211 (zf52_0_ok R) h
end Go.Proofs.YtpjhflboedicpaaGreatDoor
