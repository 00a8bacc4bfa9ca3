/- Short texts of functions of the program, each with the proof that a call comes to it. No condition. -/
import Derived.Test.YtpjhflboedicpaaGreatDoorNames
set_option linter.unusedVariables false
set_option linter.unusedSimpArgs false
namespace Go.Proofs.YtpjhflboedicpaaGreatDoor
open Go Go.W
set_option maxRecDepth 100000
noncomputable abbrev zf2r_B : Code := (Tryz.f103.body).getD .skip
abbrev zf2r_q1 (R : Bool → World → Prop) := (topQ P [.tmp 2] .b R)
abbrev zf2r_l1 : Slots := [(0, .p)]
abbrev zf2r_l2 : Slots := []
def zf2r_1 (R : Bool → World → Prop) : World → Prop :=
 R true
def zf2r_0 (R : Bool → World → Prop) (d_0 : Option Addr) : World → Prop :=
 mnil d_0 fun a1 =>
 ld P zt1 (ad a1 2) I fun (x2 : Int) =>
 mif (x2 == 0)
 (mnil d_0 fun a3 =>
 sto P zt2 (ad a3 3) .b true <|
 R false)
 (mnil d_0 fun a4 =>
 ld P zt1 (ad a4 2) I fun (x5 : Int) =>
 mif (decide (x5 > 0))
 (mnil d_0 fun a6 =>
 ld P zt1 (ad a6 2) I fun (x7 : Int) =>
 mnil d_0 fun a8 =>
 sto P zt1 (ad a8 2) I (w64 (x7 - 1)) <|
 zf2r_1 R)
 (zf2r_1 R))
theorem zf2r_1_ok (R : Bool → World → Prop) (x : Unit) (w : World) (h : zf2r_1 R w) : WPC P 23 [] (Code.at zf2r_B [.snd, .snd, .snd]) (zf2r_q1 R) (mkE 23 zf2r_l2 x) w :=
  pc_end h
theorem zf2r_0_ok (R : Bool → World → Prop) (x : Option Addr × Unit) (w : World) (h : zf2r_0 R x.1 w) : WPC P 23 [] (Code.at zf2r_B []) (zf2r_q1 R) (mkE 23 zf2r_l1 x) w :=
  pc_cut (l := zf2r_l2) 3 (zf2r_1_ok R) h
theorem zf2r_call (R : Bool → World → Prop) (d_0 : Option Addr) (w : World) (h : zf2r_0 R d_0 w) : mcall P n_zf2r [(.pointer d_0)] .b R w :=
  pc_top (l := zf2r_l1) (c := zf2r_B) Tryz.func103 (zf2r_0_ok R) h
noncomputable abbrev zf2s_B : Code := (Tryz.f104.body).getD .skip
abbrev zf2s_q1 (R : Int → World → Prop) := (topQ P [.tmp 2] I R)
abbrev zf2s_l1 : Slots := [(0, .p)]
def zf2s_0 (R : Int → World → Prop) (f_0 : Option Addr) : World → Prop :=
 mdraw <|
 mnil f_0 fun a1 =>
 ld P zt4 a1 .s fun (x2 : Bs) =>
 mnil f_0 fun a3 =>
 ld P zt4 (ad a3 1) .s fun (x4 : Bs) =>
 mcat x2 x4 fun s5 =>
 mnil f_0 fun a6 =>
 sto P zt4 a6 .s s5 <|
 mnil f_0 fun a7 =>
 sto P zt4 (ad a7 1) .s [] <|
 R 0
theorem zf2s_0_ok (R : Int → World → Prop) (x : Option Addr × Unit) (w : World) (h : zf2s_0 R x.1 w) : WPC P 18 [] (Code.at zf2s_B []) (zf2s_q1 R) (mkE 18 zf2s_l1 x) w :=
  pc_end h
theorem zf2s_call (R : Int → World → Prop) (f_0 : Option Addr) (w : World) (h : zf2s_0 R f_0 w) : mcall P n_zf2s [(.pointer f_0)] I R w :=
  pc_top (l := zf2s_l1) (c := zf2s_B) Tryz.func104 (zf2s_0_ok R) h
noncomputable abbrev zf2t_B : Code := (Tryz.f105.body).getD .skip
abbrev zf2t_q1 (R : Int → World → Prop) := (topQ P [.tmp 5] I R)
abbrev zf2t_l1 : Slots := [(0, .p), (1, .ad), (2, .ad), (3, .ad)]
abbrev zf2t_l2 : Slots := [(0, .p), (1, .ad), (2, .ad), (3, .ad)]
def zf2t_1 (R : Int → World → Prop) (f_0 : Option Addr) (v1 : Addr) (v2 : Addr) (v3 : Addr) : World → Prop :=
 mdraw <|
 ld P zte v1 .p fun (x15 : Option Addr) =>
 mnil x15 fun a16 =>
 ld P ztk a16 .m fun (x17 : Option Nat) =>
 ld P zt4 v3 .s fun (x18 : Bs) =>
 mop P (Builtin.delete_ #[ztk, zt4] zt0 #[.map x17, .string ⟨x18.toArray⟩]) .v fun (x19 : Value) =>
 mdraw <|
 ld P zte v1 .p fun (x20 : Option Addr) =>
 mnil x20 fun a21 =>
 ld P ztk a21 .m fun (x22 : Option Nat) =>
 ld P zt4 v2 .s fun (x23 : Bs) =>
 mup P ztk x22 .s x23 .p f_0 <|
 R 0
def zf2t_0 (R : Int → World → Prop) (f_0 : Option Addr) (v1 : Addr) (v2 : Addr) (v3 : Addr) : World → Prop :=
 mdraw <|
 ld P zte v1 .p fun (x1 : Option Addr) =>
 mnil x1 fun a2 =>
 ld P ztk a2 .m fun (x3 : Option Nat) =>
 ld P zt4 v2 .s fun (x4 : Bs) =>
 lku P ztk x3 .s x4 .p fun (x5 : Option Addr) =>
 meq P .neq ztq (.pointer x5) (.pointer none) fun x6 =>
 mif x6
 (ld P zt4 v3 .s fun (x7 : Bs) =>
 ld P zt4 v2 .s fun (x8 : Bs) =>
 mif (!(x7 == x8))
 (mdraw <|
 ld P zte v1 .p fun (x9 : Option Addr) =>
 mnil x9 fun a10 =>
 ld P zt1 (ad a10 1) I fun (x11 : Int) =>
 mcall P n_zf1k [(.pointer x5)] I fun (x12 : Int) =>
 mst P (Instr.loadAt zt1 (.pointer (some (ad a10 1)))) (.int .i64 x11) <|
 mst P (Instr.loadAt zte (.pointer (some v1))) (.pointer x9) <|
 mcall P n_zf1j [(.int .i64 x12)] I fun (x13 : Int) =>
 mst P (Instr.loadAt zt1 (.pointer (some (ad a10 1)))) (.int .i64 x11) <|
 mst P (Instr.loadAt zte (.pointer (some v1))) (.pointer x9) <|
 mnil x9 fun a14 =>
 sto P zt1 (ad a14 1) I (w64 (x11 + x13)) <|
 zf2t_1 R f_0 v1 v2 v3)
 (zf2t_1 R f_0 v1 v2 v3))
 (zf2t_1 R f_0 v1 v2 v3)
theorem zf2t_1_ok (R : Int → World → Prop) (x : Option Addr × Addr × Addr × Addr × Unit) (w : World) (h : zf2t_1 R x.1 x.2.1 x.2.2.1 x.2.2.2.1 w) : WPC P 41 [] (Code.at zf2t_B [.snd, .snd]) (zf2t_q1 R) (mkE 41 zf2t_l2 x) w :=
  pc_end h
theorem zf2t_0_ok (R : Int → World → Prop) (x : Option Addr × Addr × Addr × Addr × Unit) (w : World) (h : zf2t_0 R x.1 x.2.1 x.2.2.1 x.2.2.2.1 w) : WPC P 41 [] (Code.at zf2t_B []) (zf2t_q1 R) (mkE 41 zf2t_l1 x) w :=
  pc_cut (l := zf2t_l2) 2 (zf2t_1_ok R) h
theorem zf2t_call (R : Int → World → Prop) (f_0 : Option Addr) (v1 : Addr) (v2 : Addr) (v3 : Addr) (w : World) (h : zf2t_0 R f_0 v1 v2 v3 w) : mcall P n_zf2t [(.pointer f_0), .pointer (some v1), .pointer (some v2), .pointer (some v3)] I R w :=
  pc_top (l := zf2t_l1) (c := zf2t_B) Tryz.func105 (zf2t_0_ok R) h
noncomputable abbrev zf2u_B : Code := (Tryz.f106.body).getD .skip
abbrev zf2u_q1 (R : Sl → World → Prop) := (topQ P [.tmp 2] .sl R)
abbrev zf2u_l1 : Slots := [(0, .v)]
def zf2u_0 (R : Sl → World → Prop) (seq_0 : Value) : World → Prop :=
 mcall P n_zf44 [(Sl.v ⟨none, 0, 0⟩), seq_0] .sl fun (x1 : Sl) =>
 R x1
theorem zf2u_0_ok (R : Sl → World → Prop) (x : Value × Unit) (w : World) (h : zf2u_0 R x.1 w) : WPC P 5 [] (Code.at zf2u_B []) (zf2u_q1 R) (mkE 5 zf2u_l1 x) w :=
  pc_end h
theorem zf2u_call (R : Sl → World → Prop) (seq_0 : Value) (w : World) (h : zf2u_0 R seq_0 w) : mcall P n_zf2u [seq_0] .sl R w :=
  pc_top (l := zf2u_l1) (c := zf2u_B) Tryz.func106 (zf2u_0_ok R) h
noncomputable abbrev zf2v_B : Code := (Tryz.f107.body).getD .skip
abbrev zf2v_q1 (R : Unit → World → Prop) := (topQ P [] (.tup []) R)
abbrev zf2v_l1 : Slots := [(0, .sl)]
def zf2v_0 (R : Unit → World → Prop) (x_0 : Sl) : World → Prop :=
 mcall P n_zf46 [(.int .u64 (wr64 (x_0.len : Int)))] I fun (x1 : Int) =>
 mcall P n_zf45 [(Sl.v x_0), (.int .i64 0), (.int .i64 (x_0.len : Int)), (.int .i64 x1)] (.tup []) fun (x2 : Unit) =>
 R (())
theorem zf2v_0_ok (R : Unit → World → Prop) (x : Sl × Unit) (w : World) (h : zf2v_0 R x.1 w) : WPC P 11 [] (Code.at zf2v_B []) (zf2v_q1 R) (mkE 11 zf2v_l1 x) w :=
  pc_end h
theorem zf2v_call (R : Unit → World → Prop) (x_0 : Sl) (w : World) (h : zf2v_0 R x_0 w) : mcall P n_zf2v [(Sl.v x_0)] (.tup []) R w :=
  pc_top (l := zf2v_l1) (c := zf2v_B) Tryz.func107 (zf2v_0_ok R) h
noncomputable abbrev zf2w_B : Code := (Tryz.f108.body).getD .skip
abbrev zf2w_q1 (R : Unit → World → Prop) := (topQ P [] (.tup []) R)
abbrev zf2w_l1 : Slots := [(0, .v), (1, .ad)]
abbrev zf2w_l2 : Slots := []
abbrev zf2w_l3 : Slots := [(0, .v), (5, .v)]
abbrev zf2w_q2 (c1 : Unit → (Value × Value × Unit) → World → Prop) (R : Unit → World → Prop) := (thenQ (fun env => getE env zf2w_l2 fun (s : Unit) => getE env zf2w_l3 (c1 s)) (blockQ 0 ((zf2w_q1 R) .normal) (zf2w_q1 R)))
def zf2w_2 (c1 : Unit → (Value × Value × Unit) → World → Prop) (R : Unit → World → Prop) (yield_0 : Value) (v5 : Value) : World → Prop :=
 mnxt P (Instr.next v5 false zt0)
 (R (())) fun u3 u4 =>
 ment P (Instr.entry v5) fun u5 u6 =>
 mcast u5 .s fun (x7 : Bs) =>
 mdyn P yield_0 [.string ⟨x7.toArray⟩] .b fun (x8 : Bool) =>
 mif (!x8)
 (R (()))
 (c1 (()) (yield_0, v5, ()))
def zf2w_1 (R : Unit → World → Prop) (yield_0 : Value) (v5 : Value) : World → Prop :=
 W.Loop (yield_0, v5, ()) (fun (c1 : Unit → (Value × Value × Unit) → World → Prop) (s : Unit) => zf2w_2 c1 R yield_0 v5) (())
def zf2w_0 (R : Unit → World → Prop) (yield_0 : Value) (v1 : Addr) : World → Prop :=
 ld P ztk v1 .m fun (x1 : Option Nat) =>
 mop P (Instr.range ztk (.map x1)) .v fun (x2 : Value) =>
 zf2w_1 R yield_0 x2
theorem zf2w_2_ok (c1 : Unit → (Value × Value × Unit) → World → Prop) (R : Unit → World → Prop) (x : Unit) (y : Value × Value × Unit) (w : World) (h : zf2w_2 c1 R y.1 y.2.1 w) : WPC P 14 [] (Code.at zf2w_B [.snd, .blk, .blk]) (zf2w_q2 c1 R) (mkE2 14 zf2w_l2 zf2w_l3 x y) w :=
  pc_end h
theorem zf2w_1_ok (R : Unit → World → Prop) (x : Unit) (y : Value × Value × Unit) (w : World) (h : zf2w_1 R y.1 y.2.1 w) : WPC P 14 [] (Code.at zf2w_B [.snd]) (zf2w_q1 R) (mkE2 14 zf2w_l2 zf2w_l3 x y) w :=
  pc_loopE (l := zf2w_l2) (l' := zf2w_l3) (id := 0) (b := (Code.at zf2w_B [.snd, .blk, .blk])) (fun c1 s => zf2w_2_ok c1 R s y) h
theorem zf2w_0_ok (R : Unit → World → Prop) (x : Value × Addr × Unit) (w : World) (h : zf2w_0 R x.1 x.2.1 w) : WPC P 14 [] (Code.at zf2w_B []) (zf2w_q1 R) (mkE 14 zf2w_l1 x) w :=
  pc_cut2 (l := zf2w_l2) (l' := zf2w_l3) 1 (zf2w_1_ok R) h
theorem zf2w_call (R : Unit → World → Prop) (yield_0 : Value) (v1 : Addr) (w : World) (h : zf2w_0 R yield_0 v1 w) : mcall P n_zf2w [yield_0, .pointer (some v1)] (.tup []) R w :=
  pc_top (l := zf2w_l1) (c := zf2w_B) Tryz.func108 (zf2w_0_ok R) h
noncomputable abbrev zf2x_B : Code := (Tryz.f109.body).getD .skip
abbrev zf2x_q1 (R : (Bs × Int × Unit) → World → Prop) := (topQ P [.tmp 2, .tmp 3] (.tup [.s, I]) R)
abbrev zf2x_l1 : Slots := [(0, .s)]
abbrev zf2x_l2 : Slots := []
def zf2x_1 (R : (Bs × Int × Unit) → World → Prop) : World → Prop :=
 R ([], 2, ())
def zf2x_0 (R : (Bs × Int × Unit) → World → Prop) (s_0 : Bs) : World → Prop :=
 mif (decide ((w64 ((s_0.length : Int) - 4)) ≥ 0))
 (sls P zt4 s_0 none (some (w64 ((s_0.length : Int) - 4))) fun x1 =>
 mcall P n_zf2l [(.string ⟨x1.toArray⟩)] .s fun (x2 : Bs) =>
 mif (x2 == s_0)
 (sls P zt4 s_0 none (some (w64 ((s_0.length : Int) - 4))) fun x3 =>
 R (x3, 0, ()))
 (zf2x_1 R))
 (zf2x_1 R)
theorem zf2x_1_ok (R : (Bs × Int × Unit) → World → Prop) (x : Unit) (w : World) (h : zf2x_1 R w) : WPC P 21 [] (Code.at zf2x_B [.snd, .snd]) (zf2x_q1 R) (mkE 21 zf2x_l2 x) w :=
  pc_end h
theorem zf2x_0_ok (R : (Bs × Int × Unit) → World → Prop) (x : Bs × Unit) (w : World) (h : zf2x_0 R x.1 w) : WPC P 21 [] (Code.at zf2x_B []) (zf2x_q1 R) (mkE 21 zf2x_l1 x) w :=
  pc_cut (l := zf2x_l2) 2 (zf2x_1_ok R) h
theorem zf2x_call (R : (Bs × Int × Unit) → World → Prop) (s_0 : Bs) (w : World) (h : zf2x_0 R s_0 w) : mcall P n_zf2x [(.string ⟨s_0.toArray⟩)] (.tup [.s, I]) R w :=
  pc_top (l := zf2x_l1) (c := zf2x_B) Tryz.func109 (zf2x_0_ok R) h
noncomputable abbrev zf2y_B : Code := (Tryz.f110.body).getD .skip
abbrev zf2y_q1 (R : (zT2 × Bs × Int × Unit) → World → Prop) := (topQ P [.cell 2 ztc, .tmp 3, .tmp 4] (.tup [zk2, .s, I]) R)
abbrev zf2y_l1 : Slots := [(0, .s)]
abbrev zf2y_l2 : Slots := [(2, .ad), (6, .s), (7, I), (9, .ad)]
def zf2y_1 (R : (zT2 × Bs × Int × Unit) → World → Prop) (v2 : Addr) (rest_6 : Bs) (e_7 : Int) (r_9 : Addr) : World → Prop :=
 mif (e_7 != 0)
 (sto P ztc v2 zk2 (0, 0, [], ()) <|
 ld P ztc v2 zk2 fun (x10 : zT2) =>
 R (x10, [], 2, ()))
 (ld P ztc r_9 zk2 fun (x11 : zT2) =>
 mcall P n_zf48 [(KV zk2 x11)] .b fun (x12 : Bool) =>
 mif (!x12)
 (sto P ztc v2 zk2 (0, 0, [], ()) <|
 ld P ztc v2 zk2 fun (x13 : zT2) =>
 R (x13, [], 2, ()))
 (ld P ztc r_9 zk2 fun (x14 : zT2) =>
 sto P ztc v2 zk2 x14 <|
 ld P ztc v2 zk2 fun (x15 : zT2) =>
 R (x15, rest_6, 0, ())))
def zf2y_0 (R : (zT2 × Bs × Int × Unit) → World → Prop) (s_0 : Bs) : World → Prop :=
 alo P ztc fun a1 =>
 mcall P n_zf2z [(.string ⟨s_0.toArray⟩), (.int .i64 2)] (.tup [.sl, .s, I]) fun (x2 : Sl × Bs × Int × Unit) =>
 mif (x2.2.2.1 != 0)
 (sto P ztc a1 zk2 (0, 0, [], ()) <|
 ld P ztc a1 zk2 fun (x3 : zT2) =>
 R (x3, [], x2.2.2.1, ()))
 (mcall P n_zf47 [(.string ⟨x2.2.1.toArray⟩), (.int .i64 512)] (.tup [.s, .s, I]) fun (x4 : Bs × Bs × Int × Unit) =>
 alo P ztc fun a5 =>
 sto P ztc a5 zk2 (0, 0, [], ()) <|
 mif (x4.2.2.1 == 0)
 (mdraw <|
 ixa P zt7 (Sl.v x2.1) 0 fun x6 =>
 ld P zt1 x6 I fun (x7 : Int) =>
 ixa P zt7 (Sl.v x2.1) 1 fun x8 =>
 ld P zt1 x8 I fun (x9 : Int) =>
 sto P ztc a5 zk2 (x7, x9, x4.1, ()) <|
 zf2y_1 R a1 x4.2.1 x4.2.2.1 a5)
 (zf2y_1 R a1 x4.2.1 x4.2.2.1 a5))
theorem zf2y_1_ok (R : (zT2 × Bs × Int × Unit) → World → Prop) (x : Addr × Bs × Int × Addr × Unit) (w : World) (h : zf2y_1 R x.1 x.2.1 x.2.2.1 x.2.2.2.1 w) : WPC P 47 [] (Code.at zf2y_B [.snd, .snd, .snd, .snd, .snd, .snd]) (zf2y_q1 R) (mkE 47 zf2y_l2 x) w :=
  pc_end h
theorem zf2y_0_ok (R : (zT2 × Bs × Int × Unit) → World → Prop) (x : Bs × Unit) (w : World) (h : zf2y_0 R x.1 w) : WPC P 47 [] (Code.at zf2y_B []) (zf2y_q1 R) (mkE 47 zf2y_l1 x) w :=
  pc_cut (l := zf2y_l2) 6 (zf2y_1_ok R) h
theorem zf2y_call (R : (zT2 × Bs × Int × Unit) → World → Prop) (s_0 : Bs) (w : World) (h : zf2y_0 R s_0 w) : mcall P n_zf2y [(.string ⟨s_0.toArray⟩)] (.tup [zk2, .s, I]) R w :=
  pc_top (l := zf2y_l1) (c := zf2y_B) Tryz.func110 (zf2y_0_ok R) h
noncomputable abbrev zf2z_B : Code := (Tryz.f111.body).getD .skip
abbrev zf2z_q1 (R : (Sl × Bs × Int × Unit) → World → Prop) := (topQ P [.tmp 4, .tmp 5, .tmp 6] (.tup [.sl, .s, I]) R)
abbrev zf2z_l1 : Slots := [(0, .s), (1, I)]
abbrev zf2z_l2 : Slots := [(0, .s), (1, I), (7, .sl)]
abbrev zf2z_l3 : Slots := [(0, .s), (7, .sl)]
def zf2z_2 (R : (Sl × Bs × Int × Unit) → World → Prop) (s_0 : Bs) (l_7 : Sl) : World → Prop :=
 R (l_7, s_0, 0, ())
abbrev zf2z_q2 (R : (Sl × Bs × Int × Unit) → World → Prop) := (thenQ (fun env => getE env zf2z_l3 fun (x : Bs × Sl × Unit) => zf2z_2 R x.1 x.2.1) (zf2z_q1 R))
abbrev zf2z_l4 : Slots := [(0, .s), (1, I), (7, .sl)]
abbrev zf2z_l5 : Slots := [(0, .s), (7, .sl), (18, I)]
abbrev zf2z_l6 : Slots := [(17, I)]
abbrev zf2z_q3 (c1 : (Bs × Sl × Int × Unit) → (Int × Unit) → World → Prop) (R : (Sl × Bs × Int × Unit) → World → Prop) := (thenQ (fun env => getE env zf2z_l5 fun (s : Bs × Sl × Int × Unit) => getE env zf2z_l6 (c1 s)) (blockQ 0 ((zf2z_q2 R) .normal) (zf2z_q2 R)))
def zf2z_5 (c1 : (Bs × Sl × Int × Unit) → (Int × Unit) → World → Prop) (R : (Sl × Bs × Int × Unit) → World → Prop) (s_0 : Bs) (l_7 : Sl) (v18 : Int) (v17 : Int) : World → Prop :=
 mif (decide (v18 < v17))
 (mcall P n_zf27 [(.string ⟨s_0.toArray⟩)] (.tup [I, .s, I]) fun (x1 : Int × Bs × Int × Unit) =>
 mif (x1.2.2.1 != 0)
 (R (⟨none, 0, 0⟩, [], x1.2.2.1, ()))
 (bsl P zt7 I [x1.1] fun x2 =>
 app P #[zt7, zt7] zt7 (Sl.v l_7) (Sl.v x2) fun x3 =>
 c1 (x1.2.1, x3, w64 (v18 + 1), ()) (v17, ())))
 (zf2z_2 R s_0 l_7)
def zf2z_4 (R : (Sl × Bs × Int × Unit) → World → Prop) (s_0 : Bs) (l_7 : Sl) (v18 : Int) (v17 : Int) : World → Prop :=
 W.Loop (v17, ()) (fun (c1 : (Bs × Sl × Int × Unit) → (Int × Unit) → World → Prop) (s : Bs × Sl × Int × Unit) => zf2z_5 c1 R s.1 s.2.1 s.2.2.1 v17) (s_0, l_7, v18, ())
def zf2z_3 (R : (Sl × Bs × Int × Unit) → World → Prop) (s_0 : Bs) (n_1 : Int) (l_7 : Sl) : World → Prop :=
 zf2z_4 R s_0 l_7 0 n_1
def zf2z_1 (R : (Sl × Bs × Int × Unit) → World → Prop) (s_0 : Bs) (n_1 : Int) (l_7 : Sl) : World → Prop :=
 zf2z_3 R s_0 n_1 l_7
def zf2z_0 (R : (Sl × Bs × Int × Unit) → World → Prop) (s_0 : Bs) (n_1 : Int) : World → Prop :=
 mif (decide (n_1 < 0))
 (R (⟨none, 0, 0⟩, [], 1, ()))
 (mif (decide (n_1 > 64))
 (R (⟨none, 0, 0⟩, [], 1, ()))
 (zf2z_1 R s_0 n_1 ⟨none, 0, 0⟩))
theorem zf2z_2_ok (R : (Sl × Bs × Int × Unit) → World → Prop) (x : Bs × Sl × Unit) (w : World) (h : zf2z_2 R x.1 x.2.1 w) : WPC P 37 [] (Code.at zf2z_B [.snd, .snd, .snd, .snd]) (zf2z_q1 R) (mkE 37 zf2z_l3 x) w :=
  pc_end h
theorem zf2z_5_ok (c1 : (Bs × Sl × Int × Unit) → (Int × Unit) → World → Prop) (R : (Sl × Bs × Int × Unit) → World → Prop) (x : Bs × Sl × Int × Unit) (y : Int × Unit) (w : World) (h : zf2z_5 c1 R x.1 x.2.1 x.2.2.1 y.1 w) : WPC P 37 [] (Code.at zf2z_B [.snd, .snd, .snd, .fst, .snd, .blk, .blk]) (zf2z_q3 c1 R) (mkE2 37 zf2z_l5 zf2z_l6 x y) w :=
  pc_end h
theorem zf2z_4_ok (R : (Sl × Bs × Int × Unit) → World → Prop) (x : Bs × Sl × Int × Unit) (y : Int × Unit) (w : World) (h : zf2z_4 R x.1 x.2.1 x.2.2.1 y.1 w) : WPC P 37 [] (Code.at zf2z_B [.snd, .snd, .snd, .fst, .snd]) (zf2z_q2 R) (mkE2 37 zf2z_l5 zf2z_l6 x y) w :=
  pc_loopE (l := zf2z_l5) (l' := zf2z_l6) (id := 0) (b := (Code.at zf2z_B [.snd, .snd, .snd, .fst, .snd, .blk, .blk])) (fun c1 s => zf2z_5_ok c1 R s y) h
theorem zf2z_3_ok (R : (Sl × Bs × Int × Unit) → World → Prop) (x : Bs × Int × Sl × Unit) (w : World) (h : zf2z_3 R x.1 x.2.1 x.2.2.1 w) : WPC P 37 [] (Code.at zf2z_B [.snd, .snd, .snd, .fst]) (zf2z_q2 R) (mkE 37 zf2z_l4 x) w :=
  pc_cut2 (l := zf2z_l5) (l' := zf2z_l6) 1 (zf2z_4_ok R) h
theorem zf2z_1_ok (R : (Sl × Bs × Int × Unit) → World → Prop) (x : Bs × Int × Sl × Unit) (w : World) (h : zf2z_1 R x.1 x.2.1 x.2.2.1 w) : WPC P 37 [] (Code.at zf2z_B [.snd, .snd, .snd]) (zf2z_q1 R) (mkE 37 zf2z_l2 x) w :=
  pc_seq (l := zf2z_l3) (a := (Code.at zf2z_B [.snd, .snd, .snd, .fst])) (b := (Code.at zf2z_B [.snd, .snd, .snd, .snd])) (pc_cut (l := zf2z_l4) (c := (Code.at zf2z_B [.snd, .snd, .snd, .fst])) 0 (zf2z_3_ok R) h) (zf2z_2_ok R)
theorem zf2z_0_ok (R : (Sl × Bs × Int × Unit) → World → Prop) (x : Bs × Int × Unit) (w : World) (h : zf2z_0 R x.1 x.2.1 w) : WPC P 37 [] (Code.at zf2z_B []) (zf2z_q1 R) (mkE 37 zf2z_l1 x) w :=
  pc_cut (l := zf2z_l2) 3 (zf2z_1_ok R) h
theorem zf2z_call (R : (Sl × Bs × Int × Unit) → World → Prop) (s_0 : Bs) (n_1 : Int) (w : World) (h : zf2z_0 R s_0 n_1 w) : mcall P n_zf2z [(.string ⟨s_0.toArray⟩), (.int .i64 n_1)] (.tup [.sl, .s, I]) R w :=
  pc_top (l := zf2z_l1) (c := zf2z_B) Tryz.func111 (zf2z_0_ok R) h
noncomputable abbrev zf30_B : Code := (Tryz.f112.body).getD .skip
abbrev zf30_q1 (R : (zT5 × Int × Unit) → World → Prop) := (topQ P [.cell 2 ztg, .tmp 3] (.tup [zk5, I]) R)
abbrev zf30_l1 : Slots := [(0, .s)]
def zf30_0 (R : (zT5 × Int × Unit) → World → Prop) (s_0 : Bs) : World → Prop :=
 alo P ztg fun a1 =>
 mcall P n_zf2z [(.string ⟨s_0.toArray⟩), (.int .i64 10)] (.tup [.sl, .s, I]) fun (x2 : Sl × Bs × Int × Unit) =>
 mif (x2.2.2.1 != 0)
 (sto P ztg a1 zk5 (0, 0, 0, 0, (0, 0, 0, 0, ()), 0, 0, ()) <|
 ld P ztg a1 zk5 fun (x3 : zT5) =>
 R (x3, 2, ()))
 (mif (!(x2.2.1 == []))
 (sto P ztg a1 zk5 (0, 0, 0, 0, (0, 0, 0, 0, ()), 0, 0, ()) <|
 ld P ztg a1 zk5 fun (x4 : zT5) =>
 R (x4, 2, ()))
 (mdraw <|
 ixa P zt7 (Sl.v x2.1) 0 fun x5 =>
 ld P zt1 x5 I fun (x6 : Int) =>
 ixa P zt7 (Sl.v x2.1) 1 fun x7 =>
 ld P zt1 x7 I fun (x8 : Int) =>
 ixa P zt7 (Sl.v x2.1) 2 fun x9 =>
 ld P zt1 x9 I fun (x10 : Int) =>
 ixa P zt7 (Sl.v x2.1) 3 fun x11 =>
 ld P zt1 x11 I fun (x12 : Int) =>
 slc P zt7 x2.1 (some 4) (some 8) fun x13 =>
 mrd P (Instr.arrayAt ztf (.slice x13.a x13.len x13.cap)) .p fun (x14 : Option Addr) =>
 mrd P (Instr.loadAt ztf (.pointer x14)) zk4 fun (x15 : zT4) =>
 ixa P zt7 (Sl.v x2.1) 8 fun x16 =>
 ld P zt1 x16 I fun (x17 : Int) =>
 ixa P zt7 (Sl.v x2.1) 9 fun x18 =>
 ld P zt1 x18 I fun (x19 : Int) =>
 alo P ztg fun a20 =>
 mst P (Instr.loadAt zt1 (.pointer (some x18))) (.int .i64 x19) <|
 mst P (Instr.indexAt zt7 (.slice x2.1.a x2.1.len x2.1.cap) (.int .i64 9)) (.pointer (some x18)) <|
 mst P (Instr.loadAt zt1 (.pointer (some x16))) (.int .i64 x17) <|
 mst P (Instr.indexAt zt7 (.slice x2.1.a x2.1.len x2.1.cap) (.int .i64 8)) (.pointer (some x16)) <|
 mst P (Instr.loadAt ztf (.pointer x14)) (.agg #[.int .i64 x15.1, .int .i64 x15.2.1, .int .i64 x15.2.2.1, .int .i64 x15.2.2.2.1]) <|
 mst P (Instr.arrayAt ztf (.slice x13.a x13.len x13.cap)) (.pointer x14) <|
 mst P (Instr.sliceAt zt7 (.slice x2.1.a x2.1.len x2.1.cap) (some (.int .i64 4)) (some (.int .i64 8)) none) (.slice x13.a x13.len x13.cap) <|
 mst P (Instr.loadAt zt1 (.pointer (some x11))) (.int .i64 x12) <|
 mst P (Instr.indexAt zt7 (.slice x2.1.a x2.1.len x2.1.cap) (.int .i64 3)) (.pointer (some x11)) <|
 mst P (Instr.loadAt zt1 (.pointer (some x9))) (.int .i64 x10) <|
 mst P (Instr.indexAt zt7 (.slice x2.1.a x2.1.len x2.1.cap) (.int .i64 2)) (.pointer (some x9)) <|
 mst P (Instr.loadAt zt1 (.pointer (some x7))) (.int .i64 x8) <|
 mst P (Instr.indexAt zt7 (.slice x2.1.a x2.1.len x2.1.cap) (.int .i64 1)) (.pointer (some x7)) <|
 mst P (Instr.loadAt zt1 (.pointer (some x5))) (.int .i64 x6) <|
 mst P (Instr.indexAt zt7 (.slice x2.1.a x2.1.len x2.1.cap) (.int .i64 0)) (.pointer (some x5)) <|
 sto P ztg a20 zk5 (x6, x8, x10, x12, x15, x17, x19, ()) <|
 ld P ztg a20 zk5 fun (x21 : zT5) =>
 mcall P n_zf23 [(KV zk5 x21)] I fun (x22 : Int) =>
 mif (x22 != 0)
 (sto P ztg a1 zk5 (0, 0, 0, 0, (0, 0, 0, 0, ()), 0, 0, ()) <|
 ld P ztg a1 zk5 fun (x23 : zT5) =>
 R (x23, 2, ()))
 (ld P ztg a20 zk5 fun (x24 : zT5) =>
 sto P ztg a1 zk5 x24 <|
 ld P ztg a1 zk5 fun (x25 : zT5) =>
 R (x25, 0, ()))))
theorem zf30_0_ok (R : (zT5 × Int × Unit) → World → Prop) (x : Bs × Unit) (w : World) (h : zf30_0 R x.1 w) : WPC P 49 [] (Code.at zf30_B []) (zf30_q1 R) (mkE 49 zf30_l1 x) w :=
  pc_end h
theorem zf30_call (R : (zT5 × Int × Unit) → World → Prop) (s_0 : Bs) (w : World) (h : zf30_0 R s_0 w) : mcall P n_zf30 [(.string ⟨s_0.toArray⟩)] (.tup [zk5, I]) R w :=
  pc_top (l := zf30_l1) (c := zf30_B) Tryz.func112 (zf30_0_ok R) h
noncomputable abbrev zf31_B : Code := (Tryz.f113.body).getD .skip
abbrev zf31_q1 (R : Sl → World → Prop) := (topQ P [.tmp 6] .sl R)
abbrev zf31_l1 : Slots := [(0, .sl), (1, I), (2, I)]
def zf31_0 (R : Sl → World → Prop) (s_0 : Sl) (i_1 : Int) (j_2 : Int) : World → Prop :=
 mrd P (Instr.sliceAt zt8 (.slice s_0.a s_0.len s_0.cap) (some (.int .i64 i_1)) (some (.int .i64 j_2)) (some (.int .i64 (s_0.len : Int)))) .sl fun (x1 : Sl) =>
 mif (i_1 == j_2)
 (R s_0)
 (mdraw <|
 slc P zt8 s_0 none (some i_1) fun x2 =>
 slc P zt8 s_0 (some j_2) none fun x3 =>
 app P #[zt8, zt8] zt8 (Sl.v x2) (Sl.v x3) fun x4 =>
 slc P zt8 x4 (some (x4.len : Int)) (some (s_0.len : Int)) fun x5 =>
 mop P (Builtin.clear_ #[zt8] zt0 #[.slice x5.a x5.len x5.cap]) .v fun (x6 : Value) =>
 R x4)
theorem zf31_0_ok (R : Sl → World → Prop) (x : Sl × Int × Int × Unit) (w : World) (h : zf31_0 R x.1 x.2.1 x.2.2.1 w) : WPC P 33 [] (Code.at zf31_B []) (zf31_q1 R) (mkE 33 zf31_l1 x) w :=
  pc_end h
theorem zf31_call (R : Sl → World → Prop) (s_0 : Sl) (i_1 : Int) (j_2 : Int) (w : World) (h : zf31_0 R s_0 i_1 j_2 w) : mcall P n_zf31 [(Sl.v s_0), (.int .i64 i_1), (.int .i64 j_2)] .sl R w :=
  pc_top (l := zf31_l1) (c := zf31_B) Tryz.func113 (zf31_0_ok R) h
noncomputable abbrev zf32_B : Code := (Tryz.f114.body).getD .skip
abbrev zf32_q1 (R : Bool → World → Prop) := (topQ P [.tmp 2] .b R)
abbrev zf32_l1 : Slots := [(0, .s)]
def zf32_0 (R : Bool → World → Prop) (name_0 : Bs) : World → Prop :=
 mif (!(name_0 == []))
 (mif (decide ((name_0.length : Int) ≤ 8))
 (mcall P n_zf2n [(.string ⟨name_0.toArray⟩), (.string ⟨[97, 98, 99, 100, 101, 102, 103, 104, 105, 106, 107, 108, 109, 110, 111, 112, 113, 114, 115, 116, 117, 118, 119, 120, 121, 122, 48, 49, 50, 51, 52, 53, 54, 55, 56, 57].toArray⟩)] .s fun (x1 : Bs) =>
 R (x1 == []))
 (R false))
 (R false)
theorem zf32_0_ok (R : Bool → World → Prop) (x : Bs × Unit) (w : World) (h : zf32_0 R x.1 w) : WPC P 15 [] (Code.at zf32_B []) (zf32_q1 R) (mkE 15 zf32_l1 x) w :=
  pc_end h
theorem zf32_call (R : Bool → World → Prop) (name_0 : Bs) (w : World) (h : zf32_0 R name_0 w) : mcall P n_zf32 [(.string ⟨name_0.toArray⟩)] .b R w :=
  pc_top (l := zf32_l1) (c := zf32_B) Tryz.func114 (zf32_0_ok R) h
noncomputable abbrev zf33_B : Code := (Tryz.f115.body).getD .skip
abbrev zf33_q1 (R : Bool → World → Prop) := (topQ P [.tmp 2] .b R)
abbrev zf33_l1 : Slots := [(0, .p)]
def zf33_0 (R : Bool → World → Prop) (d_0 : Option Addr) : World → Prop :=
 meq P .eql zte (.pointer d_0) (.pointer none) fun x1 =>
 mif x1
 (R true)
 (mnil d_0 fun a2 =>
 ld P zt2 (ad a2 3) .b fun (x3 : Bool) =>
 R x3)
theorem zf33_0_ok (R : Bool → World → Prop) (x : Option Addr × Unit) (w : World) (h : zf33_0 R x.1 w) : WPC P 11 [] (Code.at zf33_B []) (zf33_q1 R) (mkE 11 zf33_l1 x) w :=
  pc_end h
theorem zf33_call (R : Bool → World → Prop) (d_0 : Option Addr) (w : World) (h : zf33_0 R d_0 w) : mcall P n_zf33 [(.pointer d_0)] .b R w :=
  pc_top (l := zf33_l1) (c := zf33_B) Tryz.func115 (zf33_0_ok R) h
noncomputable abbrev zf37_B : Code := (Tryz.f119.body).getD .skip
abbrev zf37_q1 (R : Bs → World → Prop) := (topQ P [.tmp 4] .s R)
abbrev zf37_l1 : Slots := [(0, .p), (1, I)]
abbrev zf37_l2 : Slots := [(0, .p), (1, I), (5, .ad)]
abbrev zf37_l3 : Slots := [(0, .p), (5, .ad)]
def zf37_2 (R : Bs → World → Prop) (l_0 : Option Addr) (b_5 : Addr) : World → Prop :=
 mdraw <|
 mnil l_0 fun a2 =>
 ld P zt4 (ad a2 1) .s fun (x3 : Bs) =>
 mcat x3 [46] fun s4 =>
 mrd P (Instr.sliceAt zt1f (.pointer (some b_5)) none none none) .sl fun (x5 : Sl) =>
 mrd P (convert zt10 zt4 (.slice x5.a x5.len x5.cap)) .s fun (x6 : Bs) =>
 mcat s4 x6 fun s7 =>
 R s7
abbrev zf37_q2 (R : Bs → World → Prop) := (thenQ (fun env => getE env zf37_l3 fun (x : Option Addr × Addr × Unit) => zf37_2 R x.1 x.2.1) (zf37_q1 R))
abbrev zf37_l4 : Slots := [(0, .p), (1, I), (5, .ad)]
abbrev zf37_l5 : Slots := [(1, I), (6, I)]
abbrev zf37_l6 : Slots := [(0, .p), (5, .ad)]
abbrev zf37_q3 (c1 : (Int × Int × Unit) → (Option Addr × Addr × Unit) → World → Prop) (R : Bs → World → Prop) := (thenQ (fun env => getE env zf37_l5 fun (s : Int × Int × Unit) => getE env zf37_l6 (c1 s)) (blockQ 0 ((zf37_q2 R) .normal) (zf37_q2 R)))
def zf37_5 (c1 : (Int × Int × Unit) → (Option Addr × Addr × Unit) → World → Prop) (R : Bs → World → Prop) (base_1 : Int) (i_6 : Int) (l_0 : Option Addr) (b_5 : Addr) : World → Prop :=
 mif (decide (i_6 ≥ 0))
 (ixa P zt1f (.pointer (some b_5)) i_6 fun x8 =>
 sto P zt3 x8 (.i .u8) (wr8 (w64 (48 + (base_1.tmod 10)))) <|
 c1 (w64 (base_1.tdiv 10), w64 (i_6 - 1), ()) (l_0, b_5, ()))
 (zf37_2 R l_0 b_5)
def zf37_4 (R : Bs → World → Prop) (base_1 : Int) (i_6 : Int) (l_0 : Option Addr) (b_5 : Addr) : World → Prop :=
 W.Loop (l_0, b_5, ()) (fun (c1 : (Int × Int × Unit) → (Option Addr × Addr × Unit) → World → Prop) (s : Int × Int × Unit) => zf37_5 c1 R s.1 s.2.1 l_0 b_5) (base_1, i_6, ())
def zf37_3 (R : Bs → World → Prop) (l_0 : Option Addr) (base_1 : Int) (b_5 : Addr) : World → Prop :=
 zf37_4 R base_1 12 l_0 b_5
def zf37_1 (R : Bs → World → Prop) (l_0 : Option Addr) (base_1 : Int) (b_5 : Addr) : World → Prop :=
 zf37_3 R l_0 base_1 b_5
def zf37_0 (R : Bs → World → Prop) (l_0 : Option Addr) (base_1 : Int) : World → Prop :=
 alo P zt1f fun a1 =>
 zf37_1 R l_0 base_1 a1
theorem zf37_2_ok (R : Bs → World → Prop) (x : Option Addr × Addr × Unit) (w : World) (h : zf37_2 R x.1 x.2.1 w) : WPC P 27 [] (Code.at zf37_B [.snd, .snd, .snd]) (zf37_q1 R) (mkE 27 zf37_l3 x) w :=
  pc_end h
theorem zf37_5_ok (c1 : (Int × Int × Unit) → (Option Addr × Addr × Unit) → World → Prop) (R : Bs → World → Prop) (x : Int × Int × Unit) (y : Option Addr × Addr × Unit) (w : World) (h : zf37_5 c1 R x.1 x.2.1 y.1 y.2.1 w) : WPC P 27 [] (Code.at zf37_B [.snd, .snd, .fst, .snd, .blk, .blk]) (zf37_q3 c1 R) (mkE2 27 zf37_l5 zf37_l6 x y) w :=
  pc_end h
theorem zf37_4_ok (R : Bs → World → Prop) (x : Int × Int × Unit) (y : Option Addr × Addr × Unit) (w : World) (h : zf37_4 R x.1 x.2.1 y.1 y.2.1 w) : WPC P 27 [] (Code.at zf37_B [.snd, .snd, .fst, .snd]) (zf37_q2 R) (mkE2 27 zf37_l5 zf37_l6 x y) w :=
  pc_loopE (l := zf37_l5) (l' := zf37_l6) (id := 0) (b := (Code.at zf37_B [.snd, .snd, .fst, .snd, .blk, .blk])) (fun c1 s => zf37_5_ok c1 R s y) h
theorem zf37_3_ok (R : Bs → World → Prop) (x : Option Addr × Int × Addr × Unit) (w : World) (h : zf37_3 R x.1 x.2.1 x.2.2.1 w) : WPC P 27 [] (Code.at zf37_B [.snd, .snd, .fst]) (zf37_q2 R) (mkE 27 zf37_l4 x) w :=
  pc_cut2 (l := zf37_l5) (l' := zf37_l6) 1 (zf37_4_ok R) h
theorem zf37_1_ok (R : Bs → World → Prop) (x : Option Addr × Int × Addr × Unit) (w : World) (h : zf37_1 R x.1 x.2.1 x.2.2.1 w) : WPC P 27 [] (Code.at zf37_B [.snd, .snd]) (zf37_q1 R) (mkE 27 zf37_l2 x) w :=
  pc_seq (l := zf37_l3) (a := (Code.at zf37_B [.snd, .snd, .fst])) (b := (Code.at zf37_B [.snd, .snd, .snd])) (pc_cut (l := zf37_l4) (c := (Code.at zf37_B [.snd, .snd, .fst])) 0 (zf37_3_ok R) h) (zf37_2_ok R)
theorem zf37_0_ok (R : Bs → World → Prop) (x : Option Addr × Int × Unit) (w : World) (h : zf37_0 R x.1 x.2.1 w) : WPC P 27 [] (Code.at zf37_B []) (zf37_q1 R) (mkE 27 zf37_l1 x) w :=
  pc_cut (l := zf37_l2) 2 (zf37_1_ok R) h
theorem zf37_call (R : Bs → World → Prop) (l_0 : Option Addr) (base_1 : Int) (w : World) (h : zf37_0 R l_0 base_1 w) : mcall P n_zf37 [(.pointer l_0), (.int .i64 base_1)] .s R w :=
  pc_top (l := zf37_l1) (c := zf37_B) Tryz.func119 (zf37_0_ok R) h
noncomputable abbrev zf38_B : Code := (Tryz.f120.body).getD .skip
abbrev zf38_q1 (R : Value → World → Prop) := (topQ P [.tmp 2] .v R)
abbrev zf38_l1 : Slots := [(0, .s)]
def zf38_0 (R : Value → World → Prop) (s_0 : Bs) : World → Prop :=
 bx P zt4 .s s_0 fun a1 =>
 R (.func (.func n_zf4a) #[] #[.pointer (some a1)])
theorem zf38_0_ok (R : Value → World → Prop) (x : Bs × Unit) (w : World) (h : zf38_0 R x.1 w) : WPC P 4 [] (Code.at zf38_B []) (zf38_q1 R) (mkE 4 zf38_l1 x) w :=
  pc_end h
theorem zf38_call (R : Value → World → Prop) (s_0 : Bs) (w : World) (h : zf38_0 R s_0 w) : mcall P n_zf38 [(.string ⟨s_0.toArray⟩)] .v R w :=
  pc_top (l := zf38_l1) (c := zf38_B) Tryz.func120 (zf38_0_ok R) h
noncomputable abbrev zf39_B : Code := (Tryz.f121.body).getD .skip
abbrev zf39_q1 (R : Int → World → Prop) := (topQ P [.tmp 4] I R)
abbrev zf39_l1 : Slots := [(0, zkg), (1, I)]
abbrev zf39_l2 : Slots := [(1, I), (2, .ad), (5, I)]
abbrev zf39_l3 : Slots := [(5, I)]
def zf39_2 (R : Int → World → Prop) (at_5 : Int) : World → Prop :=
 R at_5
abbrev zf39_q2 (R : Int → World → Prop) := (thenQ (fun env => getE env zf39_l3 fun (x : Int × Unit) => zf39_2 R x.1) (zf39_q1 R))
abbrev zf39_l4 : Slots := [(1, I), (2, .ad), (5, I)]
abbrev zf39_l5 : Slots := [(5, I), (11, I)]
abbrev zf39_l6 : Slots := [(1, I), (9, .sl), (10, I)]
abbrev zf39_q3 (c1 : (Int × Int × Unit) → (Int × Sl × Int × Unit) → World → Prop) (R : Int → World → Prop) := (thenQ (fun env => getE env zf39_l5 fun (s : Int × Int × Unit) => getE env zf39_l6 (c1 s)) (blockQ 0 ((zf39_q2 R) .normal) (zf39_q2 R)))
abbrev zf39_l7 : Slots := [(1, I), (5, I), (9, .sl), (10, I), (11, I)]
def zf39_6 (c1 : (Int × Int × Unit) → (Int × Sl × Int × Unit) → World → Prop) (R : Int → World → Prop) (off_1 : Int) (at_5 : Int) (v9 : Sl) (v10 : Int) (v11 : Int) : World → Prop :=
 c1 (at_5, w64 (v11 + 1), ()) (off_1, v9, v10, ())
def zf39_5 (c1 : (Int × Int × Unit) → (Int × Sl × Int × Unit) → World → Prop) (R : Int → World → Prop) (at_5 : Int) (v11 : Int) (off_1 : Int) (v9 : Sl) (v10 : Int) : World → Prop :=
 mif (decide (v11 < v10))
 (ixa P zt14 (Sl.v v9) v11 fun x3 =>
 ld P zt1g x3 zk0 fun (x4 : zT0) =>
 alo P zt1g fun a5 =>
 sto P zt1g a5 zk0 x4 <|
 ld P zt1 a5 I fun (x6 : Int) =>
 mif (decide (x6 ≤ off_1))
 (ld P zt1 (ad a5 2) I fun (x7 : Int) =>
 zf39_6 c1 R off_1 x7 v9 v10 v11)
 (zf39_6 c1 R off_1 at_5 v9 v10 v11))
 (zf39_2 R at_5)
def zf39_4 (R : Int → World → Prop) (at_5 : Int) (v11 : Int) (off_1 : Int) (v9 : Sl) (v10 : Int) : World → Prop :=
 W.Loop (off_1, v9, v10, ()) (fun (c1 : (Int × Int × Unit) → (Int × Sl × Int × Unit) → World → Prop) (s : Int × Int × Unit) => zf39_5 c1 R s.1 s.2.1 off_1 v9 v10) (at_5, v11, ())
def zf39_3 (R : Int → World → Prop) (off_1 : Int) (s_2 : Addr) (at_5 : Int) : World → Prop :=
 ld P zt14 (ad s_2 3) .sl fun (x2 : Sl) =>
 zf39_4 R at_5 0 off_1 x2 (x2.len : Int)
def zf39_1 (R : Int → World → Prop) (off_1 : Int) (s_2 : Addr) (at_5 : Int) : World → Prop :=
 zf39_3 R off_1 s_2 at_5
def zf39_0 (R : Int → World → Prop) (s_0 : zTg) (off_1 : Int) : World → Prop :=
 bx P zt15 zkg s_0 fun a1 =>
 zf39_1 R off_1 a1 0
theorem zf39_2_ok (R : Int → World → Prop) (x : Int × Unit) (w : World) (h : zf39_2 R x.1 w) : WPC P 23 [] (Code.at zf39_B [.snd, .snd, .snd]) (zf39_q1 R) (mkE 23 zf39_l3 x) w :=
  pc_end h
theorem zf39_6_ok (c1 : (Int × Int × Unit) → (Int × Sl × Int × Unit) → World → Prop) (R : Int → World → Prop) (x : Int × Int × Sl × Int × Int × Unit) (w : World) (h : zf39_6 c1 R x.1 x.2.1 x.2.2.1 x.2.2.2.1 x.2.2.2.2.1 w) : WPC P 23 [] (Code.at zf39_B [.snd, .snd, .fst, .snd, .blk, .blk, .snd, .snd, .snd]) (zf39_q3 c1 R) (mkE 23 zf39_l7 x) w :=
  pc_end h
theorem zf39_5_ok (c1 : (Int × Int × Unit) → (Int × Sl × Int × Unit) → World → Prop) (R : Int → World → Prop) (x : Int × Int × Unit) (y : Int × Sl × Int × Unit) (w : World) (h : zf39_5 c1 R x.1 x.2.1 y.1 y.2.1 y.2.2.1 w) : WPC P 23 [] (Code.at zf39_B [.snd, .snd, .fst, .snd, .blk, .blk]) (zf39_q3 c1 R) (mkE2 23 zf39_l5 zf39_l6 x y) w :=
  pc_cut (l := zf39_l7) 3 (zf39_6_ok c1 R) h
theorem zf39_4_ok (R : Int → World → Prop) (x : Int × Int × Unit) (y : Int × Sl × Int × Unit) (w : World) (h : zf39_4 R x.1 x.2.1 y.1 y.2.1 y.2.2.1 w) : WPC P 23 [] (Code.at zf39_B [.snd, .snd, .fst, .snd]) (zf39_q2 R) (mkE2 23 zf39_l5 zf39_l6 x y) w :=
  pc_loopE (l := zf39_l5) (l' := zf39_l6) (id := 0) (b := (Code.at zf39_B [.snd, .snd, .fst, .snd, .blk, .blk])) (fun c1 s => zf39_5_ok c1 R s y) h
theorem zf39_3_ok (R : Int → World → Prop) (x : Int × Addr × Int × Unit) (w : World) (h : zf39_3 R x.1 x.2.1 x.2.2.1 w) : WPC P 23 [] (Code.at zf39_B [.snd, .snd, .fst]) (zf39_q2 R) (mkE 23 zf39_l4 x) w :=
  pc_cut2 (l := zf39_l5) (l' := zf39_l6) 1 (zf39_4_ok R) h
theorem zf39_1_ok (R : Int → World → Prop) (x : Int × Addr × Int × Unit) (w : World) (h : zf39_1 R x.1 x.2.1 x.2.2.1 w) : WPC P 23 [] (Code.at zf39_B [.snd, .snd]) (zf39_q1 R) (mkE 23 zf39_l2 x) w :=
  pc_seq (l := zf39_l3) (a := (Code.at zf39_B [.snd, .snd, .fst])) (b := (Code.at zf39_B [.snd, .snd, .snd])) (pc_cut (l := zf39_l4) (c := (Code.at zf39_B [.snd, .snd, .fst])) 0 (zf39_3_ok R) h) (zf39_2_ok R)
theorem zf39_0_ok (R : Int → World → Prop) (x : zTg × Int × Unit) (w : World) (h : zf39_0 R x.1 x.2.1 w) : WPC P 23 [] (Code.at zf39_B []) (zf39_q1 R) (mkE 23 zf39_l1 x) w :=
  pc_cut (l := zf39_l2) 2 (zf39_1_ok R) h
theorem zf39_call (R : Int → World → Prop) (s_0 : zTg) (off_1 : Int) (w : World) (h : zf39_0 R s_0 off_1 w) : mcall P n_zf39 [(KV zkg s_0), (.int .i64 off_1)] I R w :=
  pc_top (l := zf39_l1) (c := zf39_B) Tryz.func121 (zf39_0_ok R) h
noncomputable abbrev zf3a_B : Code := (Tryz.f122.body).getD .skip
abbrev zf3a_q1 (R : Int → World → Prop) := (topQ P [.tmp 2] I R)
abbrev zf3a_l1 : Slots := [(0, zk1)]
abbrev zf3a_l2 : Slots := [(1, .ad), (3, .b)]
abbrev zf3a_l3 : Slots := [(1, .ad), (3, .b)]
abbrev zf3a_l4 : Slots := [(1, .ad), (3, .b), (6, .b)]
abbrev zf3a_l5 : Slots := [(1, .ad), (3, .b), (6, .b), (7, .b)]
abbrev zf3a_l6 : Slots := [(3, .b)]
def zf3a_5 (R : Int → World → Prop) (ok_3 : Bool) : World → Prop :=
 mif (!ok_3)
 (R 1)
 (R 0)
def zf3a_4 (R : Int → World → Prop) (b_1 : Addr) (ok_3 : Bool) (nobody_6 : Bool) (somebody_7 : Bool) : World → Prop :=
 ld P zt1 b_1 I fun (x14 : Int) =>
 mif (x14 == 1)
 (mif ok_3
 (ld P zt6 (ad b_1 4) .sl fun (x15 : Sl) =>
 mif (decide ((x15.len : Int) > 0))
 (mif nobody_6
 (zf3a_5 R true)
 (zf3a_5 R somebody_7))
 (zf3a_5 R false))
 (zf3a_5 R false))
 (mif (x14 == 2)
 (mif ok_3
 (ld P zt6 (ad b_1 4) .sl fun (x16 : Sl) =>
 mif (decide ((x16.len : Int) > 0))
 (zf3a_5 R somebody_7)
 (zf3a_5 R false))
 (zf3a_5 R false))
 (mif (x14 == 3)
 (mif (x14 == 3)
 (mif ok_3
 (ld P zt6 (ad b_1 4) .sl fun (x17 : Sl) =>
 mif ((x17.len : Int) == 0)
 (mif somebody_7
 (ld P zt1 (ad b_1 3) I fun (x18 : Int) =>
 zf3a_5 R (x18 == 0))
 (zf3a_5 R false))
 (zf3a_5 R false))
 (zf3a_5 R false))
 (zf3a_5 R false))
 (mif (x14 == 4)
 (mif ok_3
 (ld P zt6 (ad b_1 4) .sl fun (x19 : Sl) =>
 mif ((x19.len : Int) == 0)
 (mif somebody_7
 (ld P zt1 (ad b_1 3) I fun (x20 : Int) =>
 zf3a_5 R (x20 == 0))
 (zf3a_5 R false))
 (zf3a_5 R false))
 (zf3a_5 R false))
 (zf3a_5 R false))))
def zf3a_3 (R : Int → World → Prop) (b_1 : Addr) (ok_3 : Bool) (nobody_6 : Bool) : World → Prop :=
 ld P zt1 (ad b_1 1) I fun (x12 : Int) =>
 mif (decide (x12 > 0))
 (ld P zt1 (ad b_1 2) I fun (x13 : Int) =>
 zf3a_4 R b_1 ok_3 nobody_6 (decide (x13 > 0)))
 (zf3a_4 R b_1 ok_3 nobody_6 false)
def zf3a_2 (R : Int → World → Prop) (b_1 : Addr) (ok_3 : Bool) : World → Prop :=
 ld P zt1 (ad b_1 1) I fun (x9 : Int) =>
 mif (x9 == 0)
 (ld P zt1 (ad b_1 2) I fun (x10 : Int) =>
 mif (x10 == 0)
 (ld P zt1 (ad b_1 3) I fun (x11 : Int) =>
 zf3a_3 R b_1 ok_3 (x11 == 0))
 (zf3a_3 R b_1 ok_3 false))
 (zf3a_3 R b_1 ok_3 false)
abbrev zf3a_q2 (R : Int → World → Prop) := (thenQ (fun env => getE env zf3a_l3 fun (x : Addr × Bool × Unit) => zf3a_2 R x.1 x.2.1) (zf3a_q1 R))
abbrev zf3a_l7 : Slots := [(1, .ad), (3, .b)]
abbrev zf3a_l8 : Slots := [(3, .b), (30, I)]
abbrev zf3a_l9 : Slots := [(1, .ad), (28, .sl), (29, I)]
abbrev zf3a_q3 (c1 : (Bool × Int × Unit) → (Addr × Sl × Int × Unit) → World → Prop) (R : Int → World → Prop) := (thenQ (fun env => getE env zf3a_l8 fun (s : Bool × Int × Unit) => getE env zf3a_l9 (c1 s)) (blockQ 0 ((zf3a_q2 R) .normal) (zf3a_q2 R)))
abbrev zf3a_l10 : Slots := [(1, .ad), (3, .b), (28, .sl), (29, I), (30, I)]
def zf3a_9 (c1 : (Bool × Int × Unit) → (Addr × Sl × Int × Unit) → World → Prop) (R : Int → World → Prop) (b_1 : Addr) (ok_3 : Bool) (v28 : Sl) (v29 : Int) (v30 : Int) : World → Prop :=
 c1 (ok_3, w64 (v30 + 1), ()) (b_1, v28, v29, ())
def zf3a_8 (c1 : (Bool × Int × Unit) → (Addr × Sl × Int × Unit) → World → Prop) (R : Int → World → Prop) (ok_3 : Bool) (v30 : Int) (b_1 : Addr) (v28 : Sl) (v29 : Int) : World → Prop :=
 mif (decide (v30 < v29))
 (ixa P zt6 (Sl.v v28) v30 fun x22 =>
 ld P ztc x22 zk2 fun (x23 : zT2) =>
 alo P ztc fun a24 =>
 sto P ztc a24 zk2 x23 <|
 mif ok_3
 (ld P ztc a24 zk2 fun (x25 : zT2) =>
 mcall P n_zf48 [(KV zk2 x25)] .b fun (x26 : Bool) =>
 zf3a_9 c1 R b_1 x26 v28 v29 v30)
 (zf3a_9 c1 R b_1 false v28 v29 v30))
 (zf3a_2 R b_1 ok_3)
def zf3a_7 (R : Int → World → Prop) (ok_3 : Bool) (v30 : Int) (b_1 : Addr) (v28 : Sl) (v29 : Int) : World → Prop :=
 W.Loop (b_1, v28, v29, ()) (fun (c1 : (Bool × Int × Unit) → (Addr × Sl × Int × Unit) → World → Prop) (s : Bool × Int × Unit) => zf3a_8 c1 R s.1 s.2.1 b_1 v28 v29) (ok_3, v30, ())
def zf3a_6 (R : Int → World → Prop) (b_1 : Addr) (ok_3 : Bool) : World → Prop :=
 ld P zt6 (ad b_1 4) .sl fun (x21 : Sl) =>
 zf3a_7 R ok_3 0 b_1 x21 (x21.len : Int)
def zf3a_1 (R : Int → World → Prop) (b_1 : Addr) (ok_3 : Bool) : World → Prop :=
 zf3a_6 R b_1 ok_3
def zf3a_0 (R : Int → World → Prop) (b_0 : zT1) : World → Prop :=
 bx P ztj zk1 b_0 fun a1 =>
 ld P zt1 (ad a1 1) I fun (x2 : Int) =>
 ld P zt1 (ad a1 2) I fun (x3 : Int) =>
 ld P zt1 (ad a1 3) I fun (x4 : Int) =>
 bsl P zt7 I [x2, x3, x4] fun x5 =>
 mcall P n_zf4c [(Sl.v x5)] .b fun (x6 : Bool) =>
 mif x6
 (ld P zt1 (ad a1 1) I fun (x7 : Int) =>
 mif (decide (x7 ≤ 8))
 (ld P zt6 (ad a1 4) .sl fun (x8 : Sl) =>
 zf3a_1 R a1 (decide ((x8.len : Int) ≤ 64)))
 (zf3a_1 R a1 false))
 (zf3a_1 R a1 false)
theorem zf3a_5_ok (R : Int → World → Prop) (x : Bool × Unit) (w : World) (h : zf3a_5 R x.1 w) : WPC P 110 [] (Code.at zf3a_B [.snd, .snd, .snd, .snd, .snd, .snd]) (zf3a_q1 R) (mkE 110 zf3a_l6 x) w :=
  pc_end h
theorem zf3a_4_ok (R : Int → World → Prop) (x : Addr × Bool × Bool × Bool × Unit) (w : World) (h : zf3a_4 R x.1 x.2.1 x.2.2.1 x.2.2.2.1 w) : WPC P 110 [] (Code.at zf3a_B [.snd, .snd, .snd, .snd, .snd]) (zf3a_q1 R) (mkE 110 zf3a_l5 x) w :=
  pc_cut (l := zf3a_l6) 1 (zf3a_5_ok R) h
theorem zf3a_3_ok (R : Int → World → Prop) (x : Addr × Bool × Bool × Unit) (w : World) (h : zf3a_3 R x.1 x.2.1 x.2.2.1 w) : WPC P 110 [] (Code.at zf3a_B [.snd, .snd, .snd, .snd]) (zf3a_q1 R) (mkE 110 zf3a_l4 x) w :=
  pc_cut (l := zf3a_l5) 1 (zf3a_4_ok R) h
theorem zf3a_2_ok (R : Int → World → Prop) (x : Addr × Bool × Unit) (w : World) (h : zf3a_2 R x.1 x.2.1 w) : WPC P 110 [] (Code.at zf3a_B [.snd, .snd, .snd]) (zf3a_q1 R) (mkE 110 zf3a_l3 x) w :=
  pc_cut (l := zf3a_l4) 1 (zf3a_3_ok R) h
theorem zf3a_9_ok (c1 : (Bool × Int × Unit) → (Addr × Sl × Int × Unit) → World → Prop) (R : Int → World → Prop) (x : Addr × Bool × Sl × Int × Int × Unit) (w : World) (h : zf3a_9 c1 R x.1 x.2.1 x.2.2.1 x.2.2.2.1 x.2.2.2.2.1 w) : WPC P 110 [] (Code.at zf3a_B [.snd, .snd, .fst, .snd, .blk, .blk, .snd, .snd, .snd]) (zf3a_q3 c1 R) (mkE 110 zf3a_l10 x) w :=
  pc_end h
theorem zf3a_8_ok (c1 : (Bool × Int × Unit) → (Addr × Sl × Int × Unit) → World → Prop) (R : Int → World → Prop) (x : Bool × Int × Unit) (y : Addr × Sl × Int × Unit) (w : World) (h : zf3a_8 c1 R x.1 x.2.1 y.1 y.2.1 y.2.2.1 w) : WPC P 110 [] (Code.at zf3a_B [.snd, .snd, .fst, .snd, .blk, .blk]) (zf3a_q3 c1 R) (mkE2 110 zf3a_l8 zf3a_l9 x y) w :=
  pc_cut (l := zf3a_l10) 3 (zf3a_9_ok c1 R) h
theorem zf3a_7_ok (R : Int → World → Prop) (x : Bool × Int × Unit) (y : Addr × Sl × Int × Unit) (w : World) (h : zf3a_7 R x.1 x.2.1 y.1 y.2.1 y.2.2.1 w) : WPC P 110 [] (Code.at zf3a_B [.snd, .snd, .fst, .snd]) (zf3a_q2 R) (mkE2 110 zf3a_l8 zf3a_l9 x y) w :=
  pc_loopE (l := zf3a_l8) (l' := zf3a_l9) (id := 0) (b := (Code.at zf3a_B [.snd, .snd, .fst, .snd, .blk, .blk])) (fun c1 s => zf3a_8_ok c1 R s y) h
theorem zf3a_6_ok (R : Int → World → Prop) (x : Addr × Bool × Unit) (w : World) (h : zf3a_6 R x.1 x.2.1 w) : WPC P 110 [] (Code.at zf3a_B [.snd, .snd, .fst]) (zf3a_q2 R) (mkE 110 zf3a_l7 x) w :=
  pc_cut2 (l := zf3a_l8) (l' := zf3a_l9) 1 (zf3a_7_ok R) h
theorem zf3a_1_ok (R : Int → World → Prop) (x : Addr × Bool × Unit) (w : World) (h : zf3a_1 R x.1 x.2.1 w) : WPC P 110 [] (Code.at zf3a_B [.snd, .snd]) (zf3a_q1 R) (mkE 110 zf3a_l2 x) w :=
  pc_seq (l := zf3a_l3) (a := (Code.at zf3a_B [.snd, .snd, .fst])) (b := (Code.at zf3a_B [.snd, .snd, .snd])) (pc_cut (l := zf3a_l7) (c := (Code.at zf3a_B [.snd, .snd, .fst])) 0 (zf3a_6_ok R) h) (zf3a_2_ok R)
theorem zf3a_0_ok (R : Int → World → Prop) (x : zT1 × Unit) (w : World) (h : zf3a_0 R x.1 w) : WPC P 110 [] (Code.at zf3a_B []) (zf3a_q1 R) (mkE 110 zf3a_l1 x) w :=
  pc_cut (l := zf3a_l2) 2 (zf3a_1_ok R) h
theorem zf3a_call (R : Int → World → Prop) (b_0 : zT1) (w : World) (h : zf3a_0 R b_0 w) : mcall P n_zf3a [(KV zk1 b_0)] I R w :=
  pc_top (l := zf3a_l1) (c := zf3a_B) Tryz.func122 (zf3a_0_ok R) h
noncomputable abbrev zf3b_B : Code := (Tryz.f123.body).getD .skip
abbrev zf3b_q1 (R : Sl → World → Prop) := (topQ P [.tmp 6] .sl R)
abbrev zf3b_l1 : Slots := [(0, .sl), (1, zk1), (2, I)]
abbrev zf3b_l2 : Slots := [(0, .sl), (7, I), (8, .b), (9, .ad)]
def zf3b_1 (R : Sl → World → Prop) (l_0 : Sl) (i_7 : Int) (ok_8 : Bool) (row_9 : Addr) : World → Prop :=
 mif (!ok_8)
 (ld P zt18 row_9 zkd fun (x15 : zTd) =>
 bsl P ztt zkd [x15] fun x16 =>
 mcall P n_zf4e [(Sl.v l_0), (.int .i64 i_7), (Sl.v x16)] .sl fun (x17 : Sl) =>
 R x17)
 (ld P zt18 row_9 zkd fun (x18 : zTd) =>
 ixa P ztt (Sl.v l_0) i_7 fun x19 =>
 sto P zt18 x19 zkd x18 <|
 R l_0)
def zf3b_0 (R : Sl → World → Prop) (l_0 : Sl) (b_1 : zT1) (base_2 : Int) : World → Prop :=
 bx P ztj zk1 b_1 fun a1 =>
 mcall P n_zf4d [(Sl.v l_0)] .sl fun (x2 : Sl) =>
 ld P zt1 (ad a1 1) I fun (x3 : Int) =>
 mif (x3 == 0)
 (R x2)
 (ld P zt1 (ad a1 1) I fun (x4 : Int) =>
 mcall P n_zf3e [(Sl.v x2), (.int .i64 x4)] (.tup [I, .b]) fun (x5 : Int × Bool × Unit) =>
 ld P zt1 (ad a1 1) I fun (x6 : Int) =>
 ld P zt1 (ad a1 2) I fun (x7 : Int) =>
 ld P zt1 (ad a1 3) I fun (x8 : Int) =>
 ld P zt6 (ad a1 4) .sl fun (x9 : Sl) =>
 alo P zt18 fun a10 =>
 sto P zt18 a10 zkd (x6, x7, x8, (x9.len : Int), base_2, ()) <|
 ld P zt1 a1 I fun (x11 : Int) =>
 mif (decide (x11 > 2))
 (sto P zt1 (ad a10 2) I 0 <|
 sto P zt1 (ad a10 3) I 0 <|
 mdraw <|
 mif x5.2.1
 (ixa P ztt (Sl.v x2) x5.1 fun x12 =>
 ld P zt1 (ad x12 1) I fun (x13 : Int) =>
 ld P zt1 (ad a1 2) I fun (x14 : Int) =>
 mif (decide (x13 ≥ x14))
 (R x2)
 (zf3b_1 R x2 x5.1 x5.2.1 a10))
 (zf3b_1 R x2 x5.1 x5.2.1 a10))
 (zf3b_1 R x2 x5.1 x5.2.1 a10))
theorem zf3b_1_ok (R : Sl → World → Prop) (x : Sl × Int × Bool × Addr × Unit) (w : World) (h : zf3b_1 R x.1 x.2.1 x.2.2.1 x.2.2.2.1 w) : WPC P 63 [] (Code.at zf3b_B [.snd, .snd, .snd, .snd, .snd, .snd]) (zf3b_q1 R) (mkE 63 zf3b_l2 x) w :=
  pc_end h
theorem zf3b_0_ok (R : Sl → World → Prop) (x : Sl × zT1 × Int × Unit) (w : World) (h : zf3b_0 R x.1 x.2.1 x.2.2.1 w) : WPC P 63 [] (Code.at zf3b_B []) (zf3b_q1 R) (mkE 63 zf3b_l1 x) w :=
  pc_cut (l := zf3b_l2) 6 (zf3b_1_ok R) h
theorem zf3b_call (R : Sl → World → Prop) (l_0 : Sl) (b_1 : zT1) (base_2 : Int) (w : World) (h : zf3b_0 R l_0 b_1 base_2 w) : mcall P n_zf3b [(Sl.v l_0), (KV zk1 b_1), (.int .i64 base_2)] .sl R w :=
  pc_top (l := zf3b_l1) (c := zf3b_B) Tryz.func123 (zf3b_0_ok R) h
noncomputable abbrev zf3c_B : Code := (Tryz.f124.body).getD .skip
abbrev zf3c_q1 (R : Int → World → Prop) := (topQ P [.tmp 4] I R)
abbrev zf3c_l1 : Slots := [(0, .p), (1, I)]
def zf3c_0 (R : Int → World → Prop) (p_0 : Option Addr) (pid_1 : Int) : World → Prop :=
 bx P zt1 I pid_1 fun a1 =>
 mnil p_0 fun a2 =>
 ld P ztu (ad a2 2) .sl fun (x3 : Sl) =>
 mcall P n_zf4f [(Sl.v x3), (.func (.func n_zf4g) #[] #[.pointer (some a1)])] I fun (x4 : Int) =>
 R x4
theorem zf3c_0_ok (R : Int → World → Prop) (x : Option Addr × Int × Unit) (w : World) (h : zf3c_0 R x.1 x.2.1 w) : WPC P 11 [] (Code.at zf3c_B []) (zf3c_q1 R) (mkE 11 zf3c_l1 x) w :=
  pc_end h
theorem zf3c_call (R : Int → World → Prop) (p_0 : Option Addr) (pid_1 : Int) (w : World) (h : zf3c_0 R p_0 pid_1 w) : mcall P n_zf3c [(.pointer p_0), (.int .i64 pid_1)] I R w :=
  pc_top (l := zf3c_l1) (c := zf3c_B) Tryz.func124 (zf3c_0_ok R) h
end Go.Proofs.YtpjhflboedicpaaGreatDoor
