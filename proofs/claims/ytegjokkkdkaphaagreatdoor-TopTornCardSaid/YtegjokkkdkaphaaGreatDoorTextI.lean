/- Short texts of functions of the program, each with the proof that a call comes to it. No condition. -/
import Derived.Test.YtegjokkkdkaphaaGreatDoorNames
set_option linter.unusedVariables false
set_option linter.unusedSimpArgs false
namespace Go.Proofs.YtegjokkkdkaphaaGreatDoor
open Go Go.W
set_option maxRecDepth 100000
/- (*headgate disk.Disk).ready -/
noncomputable abbrev disk_Disk_ready_B : Code := (Tryz.f91.body).getD .skip
abbrev disk_Disk_ready_l1 : Slots := [(0, .p), (1, .sl)]
abbrev disk_Disk_ready_l2 : Slots := [(0, .p), (1, .sl)]
abbrev disk_Disk_ready_l3 : Slots := [(0, .p)]
def disk_Disk_ready_2 (R : Int → World → Prop) (d_0 : Option Addr) : World → Prop :=
 mnil d_0 fun a1 =>
 ld P t_bool (ad a1 3) .b fun (x2 : Bool) =>
 mif x2
 (R 4)
 (R 0)
abbrev disk_Disk_ready_l4 : Slots := [(0, .p), (1, .sl)]
abbrev disk_Disk_ready_l5 : Slots := [(9, I)]
abbrev disk_Disk_ready_l6 : Slots := [(0, .p), (7, .sl), (8, I)]
def disk_Disk_ready_5 (c1 : (Int × Unit) → (Option Addr × Sl × Int × Unit) → World → Prop) (R : Int → World → Prop) (v9 : Int) (d_0 : Option Addr) (v7 : Sl) (v8 : Int) : World → Prop :=
 mif (decide (v9 < v8))
 (ixa P t_sl_string (Sl.v v7) v9 fun (x3 : Addr) =>
 ld P t_string x3 .s fun (x4 : Bs) =>
 meq P .eql t_ptr_disk_Disk (.pointer d_0) (.pointer none) fun (x5 : Bool) =>
 mif x5
 (R 1)
 (mcall P n_disk_named [(.string ⟨x4.toArray⟩)] .b fun (x6 : Bool) =>
 mif (!x6)
 (R 1)
 (c1 (w64 (v9 + 1), ()) (d_0, v7, v8, ()))))
 (disk_Disk_ready_2 R d_0)
def disk_Disk_ready_4 (R : Int → World → Prop) (v9 : Int) (d_0 : Option Addr) (v7 : Sl) (v8 : Int) : World → Prop :=
 W.Loop (d_0, v7, v8, ()) (fun (c1 : (Int × Unit) → (Option Addr × Sl × Int × Unit) → World → Prop) (s : Int × Unit) => disk_Disk_ready_5 c1 R s.1 d_0 v7 v8) (v9, ())
def disk_Disk_ready_3 (R : Int → World → Prop) (d_0 : Option Addr) (names_1 : Sl) : World → Prop :=
 disk_Disk_ready_4 R 0 d_0 names_1 (names_1.len : Int)
def disk_Disk_ready_1 (R : Int → World → Prop) (d_0 : Option Addr) (names_1 : Sl) : World → Prop :=
 disk_Disk_ready_3 R d_0 names_1
def disk_Disk_ready_0 (R : Int → World → Prop) (d_0 : Option Addr) (names_1 : Sl) : World → Prop :=
 disk_Disk_ready_1 R d_0 names_1
theorem disk_Disk_ready_2_ok (R : Int → World → Prop) (d_0 : Option Addr) (w : World) (h : disk_Disk_ready_2 R d_0 w) : WPC P 25 [] (Code.at disk_Disk_ready_B [.snd, .snd]) (topQ P [.tmp 4] I R) (mkE 25 disk_Disk_ready_l3 (d_0, ())) w :=
  pc_end (T := disk_Disk_ready_2 R d_0 w) hmix (by kernel_rfl) h
theorem disk_Disk_ready_5_ok (c1 : (Int × Unit) → (Option Addr × Sl × Int × Unit) → World → Prop) (R : Int → World → Prop) (v9 : Int) (d_0 : Option Addr) (v7 : Sl) (v8 : Int) (w : World) (h : disk_Disk_ready_5 c1 R v9 d_0 v7 v8 w) : WPC P 25 [] (Code.at disk_Disk_ready_B [.snd, .fst, .snd, .blk, .blk]) (thenQ (fun env => getE env disk_Disk_ready_l5 fun (s : Int × Unit) => getE env disk_Disk_ready_l6 (c1 s)) (blockQ 0 ((thenQ (fun env => getE env disk_Disk_ready_l3 fun (x : Option Addr × Unit) => disk_Disk_ready_2 R x.1) (topQ P [.tmp 4] I R)) .normal) (thenQ (fun env => getE env disk_Disk_ready_l3 fun (x : Option Addr × Unit) => disk_Disk_ready_2 R x.1) (topQ P [.tmp 4] I R)))) (mkE2 25 disk_Disk_ready_l5 disk_Disk_ready_l6 (v9, ()) (d_0, v7, v8, ())) w :=
  pc_end (T := disk_Disk_ready_5 c1 R v9 d_0 v7 v8 w) hmix (by kernel_rfl) h
theorem disk_Disk_ready_4_ok (R : Int → World → Prop) (v9 : Int) (d_0 : Option Addr) (v7 : Sl) (v8 : Int) (w : World) (h : disk_Disk_ready_4 R v9 d_0 v7 v8 w) : WPC P 25 [] (Code.at disk_Disk_ready_B [.snd, .fst, .snd]) (thenQ (fun env => getE env disk_Disk_ready_l3 fun (x : Option Addr × Unit) => disk_Disk_ready_2 R x.1) (topQ P [.tmp 4] I R)) (mkE2 25 disk_Disk_ready_l5 disk_Disk_ready_l6 (v9, ()) (d_0, v7, v8, ())) w :=
  pc_loopE (l := disk_Disk_ready_l5) (l' := disk_Disk_ready_l6) (body := fun (c1 : (Int × Unit) → (Option Addr × Sl × Int × Unit) → World → Prop) (s : Int × Unit) => disk_Disk_ready_5 c1 R s.1 d_0 v7 v8) (id := 0) (b := (Code.at disk_Disk_ready_B [.snd, .fst, .snd, .blk, .blk])) (by kernel_rfl) (fun c1 s w h => disk_Disk_ready_5_ok c1 R s.1 d_0 v7 v8 w h) h
theorem disk_Disk_ready_3_ok (R : Int → World → Prop) (d_0 : Option Addr) (names_1 : Sl) (w : World) (h : disk_Disk_ready_3 R d_0 names_1 w) : WPC P 25 [] (Code.at disk_Disk_ready_B [.snd, .fst]) (thenQ (fun env => getE env disk_Disk_ready_l3 fun (x : Option Addr × Unit) => disk_Disk_ready_2 R x.1) (topQ P [.tmp 4] I R)) (mkE 25 disk_Disk_ready_l4 (d_0, names_1, ())) w :=
  pc_cut2 (T := disk_Disk_ready_3 R d_0 names_1 w) (l := disk_Disk_ready_l5) (l' := disk_Disk_ready_l6) (F := fun (x : Int × Unit) (y : Option Addr × Sl × Int × Unit) => disk_Disk_ready_4 R x.1 y.1 y.2.1 y.2.2.1) hmix 1 (mkE_len ..) (by kernel_rfl) (fun x y w h => disk_Disk_ready_4_ok R x.1 y.1 y.2.1 y.2.2.1 w h) (by kernel_rfl) h
theorem disk_Disk_ready_1_ok (R : Int → World → Prop) (d_0 : Option Addr) (names_1 : Sl) (w : World) (h : disk_Disk_ready_1 R d_0 names_1 w) : WPC P 25 [] (Code.at disk_Disk_ready_B [.snd]) (topQ P [.tmp 4] I R) (mkE 25 disk_Disk_ready_l2 (d_0, names_1, ())) w :=
  pc_seq (l := disk_Disk_ready_l3) (F := fun (x : Option Addr × Unit) => disk_Disk_ready_2 R x.1) (a := (Code.at disk_Disk_ready_B [.snd, .fst])) (b := (Code.at disk_Disk_ready_B [.snd, .snd])) (by kernel_rfl) (pc_cut (T := (disk_Disk_ready_3 R d_0 names_1) w) (l := disk_Disk_ready_l4) (F := fun (x : Option Addr × Sl × Unit) => disk_Disk_ready_3 R x.1 x.2.1) (c := (Code.at disk_Disk_ready_B [.snd, .fst])) hmix 0 (mkE_len ..) (by kernel_rfl) (fun x w h => disk_Disk_ready_3_ok R x.1 x.2.1 w h) (by kernel_rfl) h) (fun x w h => disk_Disk_ready_2_ok R x.1 w h)
theorem disk_Disk_ready_0_ok (R : Int → World → Prop) (d_0 : Option Addr) (names_1 : Sl) (w : World) (h : disk_Disk_ready_0 R d_0 names_1 w) : WPC P 25 [] (Code.at disk_Disk_ready_B []) (topQ P [.tmp 4] I R) (mkE 25 disk_Disk_ready_l1 (d_0, names_1, ())) w :=
  pc_cut (T := disk_Disk_ready_0 R d_0 names_1 w) (l := disk_Disk_ready_l2) (F := fun (x : Option Addr × Sl × Unit) => disk_Disk_ready_1 R x.1 x.2.1) hmix 1 (mkE_len ..) (by kernel_rfl) (fun x w h => disk_Disk_ready_1_ok R x.1 x.2.1 w h) (by kernel_rfl) h
theorem disk_Disk_ready_call (R : Int → World → Prop) (d_0 : Option Addr) (names_1 : Sl) (w : World) (h : disk_Disk_ready_0 R d_0 names_1 w) : mcall P n_disk_Disk_ready [(.pointer d_0), (Sl.v names_1)] I R w :=
  pc_top (T := (disk_Disk_ready_0 R d_0 names_1) w) (l := disk_Disk_ready_l1) (F := fun (x : Option Addr × Sl × Unit) => disk_Disk_ready_0 R x.1 x.2.1) (n := 25) (c := disk_Disk_ready_B) Tryz.func91 rfl (by kernel_rfl) (by kernel_rfl) (by kernel_rfl) (fun x w h => disk_Disk_ready_0_ok R x.1 x.2.1 w h) (by kernel_rfl) h
/- (*headgate disk.file).size -/
noncomputable abbrev disk_file_size_B : Code := (Tryz.f92.body).getD .skip
abbrev disk_file_size_l1 : Slots := [(0, .p)]
def disk_file_size_0 (R : Int → World → Prop) (f_0 : Option Addr) : World → Prop :=
 mdraw <|
 mnil f_0 fun a1 =>
 ld P t_string a1 .s fun (x2 : Bs) =>
 mnil f_0 fun a3 =>
 ld P t_string (ad a3 1) .s fun (x4 : Bs) =>
 R (w64 ((x2.length : Int) + (x4.length : Int)))
theorem disk_file_size_0_ok (R : Int → World → Prop) (f_0 : Option Addr) (w : World) (h : disk_file_size_0 R f_0 w) : WPC P 14 [] (Code.at disk_file_size_B []) (topQ P [.tmp 2] I R) (mkE 14 disk_file_size_l1 (f_0, ())) w :=
  pc_end (T := disk_file_size_0 R f_0 w) hmix (by kernel_rfl) h
theorem disk_file_size_call (R : Int → World → Prop) (f_0 : Option Addr) (w : World) (h : disk_file_size_0 R f_0 w) : mcall P n_disk_file_size [(.pointer f_0)] I R w :=
  pc_top (T := (disk_file_size_0 R f_0) w) (l := disk_file_size_l1) (F := fun (x : Option Addr × Unit) => disk_file_size_0 R x.1) (n := 14) (c := disk_file_size_B) Tryz.func92 rfl (by kernel_rfl) (by kernel_rfl) (by kernel_rfl) (fun x w h => disk_file_size_0_ok R x.1 w h) (by kernel_rfl) h
/- (*headgate disk.Disk).work -/
noncomputable abbrev disk_Disk_work_B : Code := (Tryz.f93.body).getD .skip
abbrev disk_Disk_work_l1 : Slots := [(0, .p), (1, .s), (2, .v)]
def disk_Disk_work_0 (R : Int → World → Prop) (d_0 : Option Addr) (name_1 : Bs) (do_2 : Value) : World → Prop :=
 bsl P t_sl_string .s [name_1] fun x1 =>
 mcall P n_disk_Disk_ready [(.pointer d_0), (Sl.v x1)] I fun (x2 : Int) =>
 mif (x2 != 0)
 (R x2)
 (mnil d_0 fun a3 =>
 ld P t_map_string_ptr_disk_file a3 .m fun (x4 : Option Nat) =>
 lku P t_map_string_ptr_disk_file x4 .s name_1 .p fun (x5 : Option Addr) =>
 meq P .eql t_ptr_disk_file (.pointer x5) (.pointer none) fun (x6 : Bool) =>
 mif x6
 (R 3)
 (mcall P n_disk_Disk_burn [(.pointer d_0)] .b fun (x7 : Bool) =>
 mif (!x7)
 (R 4)
 (mdyn P do_2 [.pointer x5] I fun (x8 : Int) =>
 R x8)))
theorem disk_Disk_work_0_ok (R : Int → World → Prop) (d_0 : Option Addr) (name_1 : Bs) (do_2 : Value) (w : World) (h : disk_Disk_work_0 R d_0 name_1 do_2 w) : WPC P 32 [] (Code.at disk_Disk_work_B []) (topQ P [.tmp 6] I R) (mkE 32 disk_Disk_work_l1 (d_0, name_1, do_2, ())) w :=
  pc_end (T := disk_Disk_work_0 R d_0 name_1 do_2 w) hmix (by kernel_rfl) h
theorem disk_Disk_work_call (R : Int → World → Prop) (d_0 : Option Addr) (name_1 : Bs) (do_2 : Value) (w : World) (h : disk_Disk_work_0 R d_0 name_1 do_2 w) : mcall P n_disk_Disk_work [(.pointer d_0), (.string ⟨name_1.toArray⟩), do_2] I R w :=
  pc_top (T := (disk_Disk_work_0 R d_0 name_1 do_2) w) (l := disk_Disk_work_l1) (F := fun (x : Option Addr × Bs × Value × Unit) => disk_Disk_work_0 R x.1 x.2.1 x.2.2.1) (n := 32) (c := disk_Disk_work_B) Tryz.func93 rfl (by kernel_rfl) (by kernel_rfl) (by kernel_rfl) (fun x w h => disk_Disk_work_0_ok R x.1 x.2.1 x.2.2.1 w h) (by kernel_rfl) h
/- headgate disk.blocks -/
noncomputable abbrev disk_blocks_B : Code := (Tryz.f95.body).getD .skip
abbrev disk_blocks_l1 : Slots := [(0, I)]
def disk_blocks_0 (R : Int → World → Prop) (n_0 : Int) : World → Prop :=
 R (mx 1 (w64 ((w64 ((w64 (n_0 + 64)) - 1)).tdiv 64)))
theorem disk_blocks_0_ok (R : Int → World → Prop) (n_0 : Int) (w : World) (h : disk_blocks_0 R n_0 w) : WPC P 8 [] (Code.at disk_blocks_B []) (topQ P [.tmp 2] I R) (mkE 8 disk_blocks_l1 (n_0, ())) w :=
  pc_end (T := disk_blocks_0 R n_0 w) hmix (by kernel_rfl) h
theorem disk_blocks_call (R : Int → World → Prop) (n_0 : Int) (w : World) (h : disk_blocks_0 R n_0 w) : mcall P n_disk_blocks [(.int .i64 n_0)] I R w :=
  pc_top (T := (disk_blocks_0 R n_0) w) (l := disk_blocks_l1) (F := fun (x : Int × Unit) => disk_blocks_0 R x.1) (n := 8) (c := disk_blocks_B) Tryz.func95 rfl (by kernel_rfl) (by kernel_rfl) (by kernel_rfl) (fun x w h => disk_blocks_0_ok R x.1 w h) (by kernel_rfl) h
/- (*headgate disk.Disk).Sync$1 -/
noncomputable abbrev disk_Disk_Sync_c1_B : Code := (Tryz.f96.body).getD .skip
abbrev disk_Disk_Sync_c1_l1 : Slots := [(0, .p)]
def disk_Disk_Sync_c1_0 (R : Int → World → Prop) (f_0 : Option Addr) : World → Prop :=
 mdraw <|
 mnil f_0 fun a1 =>
 ld P t_string a1 .s fun (x2 : Bs) =>
 mnil f_0 fun a3 =>
 ld P t_string (ad a3 1) .s fun (x4 : Bs) =>
 mcat x2 x4 fun s5 =>
 mnil f_0 fun a6 =>
 sto P t_string a6 .s s5 <|
 mnil f_0 fun a7 =>
 sto P t_string (ad a7 1) .s [] <|
 R 0
theorem disk_Disk_Sync_c1_0_ok (R : Int → World → Prop) (f_0 : Option Addr) (w : World) (h : disk_Disk_Sync_c1_0 R f_0 w) : WPC P 18 [] (Code.at disk_Disk_Sync_c1_B []) (topQ P [.tmp 2] I R) (mkE 18 disk_Disk_Sync_c1_l1 (f_0, ())) w :=
  pc_end (T := disk_Disk_Sync_c1_0 R f_0 w) hmix (by kernel_rfl) h
theorem disk_Disk_Sync_c1_call (R : Int → World → Prop) (f_0 : Option Addr) (w : World) (h : disk_Disk_Sync_c1_0 R f_0 w) : mcall P n_disk_Disk_Sync_c1 [(.pointer f_0)] I R w :=
  pc_top (T := (disk_Disk_Sync_c1_0 R f_0) w) (l := disk_Disk_Sync_c1_l1) (F := fun (x : Option Addr × Unit) => disk_Disk_Sync_c1_0 R x.1) (n := 18) (c := disk_Disk_Sync_c1_B) Tryz.func96 rfl (by kernel_rfl) (by kernel_rfl) (by kernel_rfl) (fun x w h => disk_Disk_Sync_c1_0_ok R x.1 w h) (by kernel_rfl) h
/- slices.Clone[[]headgate api.Prod,headgate api.Prod] -/
noncomputable abbrev slices_Clone_sl_api_Prod_api_Prod_B : Code := (Tryz.f97.body).getD .skip
abbrev slices_Clone_sl_api_Prod_api_Prod_l1 : Slots := [(0, .sl)]
def slices_Clone_sl_api_Prod_api_Prod_0 (R : Sl → World → Prop) (s_0 : Sl) : World → Prop :=
 meq P .eql t_sl_api_Prod (Sl.v s_0) (Sl.v ⟨none, 0, 0⟩) fun (x1 : Bool) =>
 mif x1
 (R ⟨none, 0, 0⟩)
 (bsl P t_sl_api_Prod k_api_Prod [] fun x2 =>
 app P #[t_sl_api_Prod, t_sl_api_Prod] t_sl_api_Prod (Sl.v x2) (Sl.v s_0) fun (x3 : Sl) =>
 R x3)
theorem slices_Clone_sl_api_Prod_api_Prod_0_ok (R : Sl → World → Prop) (s_0 : Sl) (w : World) (h : slices_Clone_sl_api_Prod_api_Prod_0 R s_0 w) : WPC P 8 [] (Code.at slices_Clone_sl_api_Prod_api_Prod_B []) (topQ P [.tmp 2] .sl R) (mkE 8 slices_Clone_sl_api_Prod_api_Prod_l1 (s_0, ())) w :=
  pc_end (T := slices_Clone_sl_api_Prod_api_Prod_0 R s_0 w) hmix (by kernel_rfl) h
theorem slices_Clone_sl_api_Prod_api_Prod_call (R : Sl → World → Prop) (s_0 : Sl) (w : World) (h : slices_Clone_sl_api_Prod_api_Prod_0 R s_0 w) : mcall P n_slices_Clone_sl_api_Prod_api_Prod [(Sl.v s_0)] .sl R w :=
  pc_top (T := (slices_Clone_sl_api_Prod_api_Prod_0 R s_0) w) (l := slices_Clone_sl_api_Prod_api_Prod_l1) (F := fun (x : Sl × Unit) => slices_Clone_sl_api_Prod_api_Prod_0 R x.1) (n := 8) (c := slices_Clone_sl_api_Prod_api_Prod_B) Tryz.func97 rfl (by kernel_rfl) (by kernel_rfl) (by kernel_rfl) (fun x w h => slices_Clone_sl_api_Prod_api_Prod_0_ok R x.1 w h) (by kernel_rfl) h
/- slices.IndexFunc[[]headgate api.Open,headgate api.Open] -/
noncomputable abbrev slices_IndexFunc_sl_api_Open_api_Open_B : Code := (Tryz.f99.body).getD .skip
abbrev slices_IndexFunc_sl_api_Open_api_Open_l1 : Slots := [(0, .sl), (1, .v)]
abbrev slices_IndexFunc_sl_api_Open_api_Open_l2 : Slots := [(0, .sl), (1, .v)]
abbrev slices_IndexFunc_sl_api_Open_api_Open_l3 : Slots := []
def slices_IndexFunc_sl_api_Open_api_Open_2 (R : Int → World → Prop) : World → Prop :=
 R (-1)
abbrev slices_IndexFunc_sl_api_Open_api_Open_l4 : Slots := [(0, .sl), (1, .v)]
abbrev slices_IndexFunc_sl_api_Open_api_Open_l5 : Slots := [(8, I)]
abbrev slices_IndexFunc_sl_api_Open_api_Open_l6 : Slots := [(0, .sl), (1, .v), (7, I)]
def slices_IndexFunc_sl_api_Open_api_Open_5 (c1 : (Int × Unit) → (Sl × Value × Int × Unit) → World → Prop) (R : Int → World → Prop) (v8 : Int) (s_0 : Sl) (f_1 : Value) (v7 : Int) : World → Prop :=
 mif (decide (v8 < v7))
 (ixa P t_sl_api_Open (Sl.v s_0) v8 fun (x1 : Addr) =>
 ld P t_api_Open x1 k_api_Open fun (x2 : T_api_Open) =>
 mdyn P f_1 [.agg #[.int .i64 x2.1, .int .i64 x2.2.1]] .b fun (x3 : Bool) =>
 mif x3
 (R v8)
 (c1 (w64 (v8 + 1), ()) (s_0, f_1, v7, ())))
 (slices_IndexFunc_sl_api_Open_api_Open_2 R)
def slices_IndexFunc_sl_api_Open_api_Open_4 (R : Int → World → Prop) (v8 : Int) (s_0 : Sl) (f_1 : Value) (v7 : Int) : World → Prop :=
 W.Loop (s_0, f_1, v7, ()) (fun (c1 : (Int × Unit) → (Sl × Value × Int × Unit) → World → Prop) (s : Int × Unit) => slices_IndexFunc_sl_api_Open_api_Open_5 c1 R s.1 s_0 f_1 v7) (v8, ())
def slices_IndexFunc_sl_api_Open_api_Open_3 (R : Int → World → Prop) (s_0 : Sl) (f_1 : Value) : World → Prop :=
 slices_IndexFunc_sl_api_Open_api_Open_4 R 0 s_0 f_1 (s_0.len : Int)
def slices_IndexFunc_sl_api_Open_api_Open_1 (R : Int → World → Prop) (s_0 : Sl) (f_1 : Value) : World → Prop :=
 slices_IndexFunc_sl_api_Open_api_Open_3 R s_0 f_1
def slices_IndexFunc_sl_api_Open_api_Open_0 (R : Int → World → Prop) (s_0 : Sl) (f_1 : Value) : World → Prop :=
 slices_IndexFunc_sl_api_Open_api_Open_1 R s_0 f_1
theorem slices_IndexFunc_sl_api_Open_api_Open_2_ok (R : Int → World → Prop) (w : World) (h : slices_IndexFunc_sl_api_Open_api_Open_2 R w) : WPC P 19 [] (Code.at slices_IndexFunc_sl_api_Open_api_Open_B [.snd, .snd]) (topQ P [.tmp 4] I R) (mkE 19 slices_IndexFunc_sl_api_Open_api_Open_l3 (())) w :=
  pc_end (T := slices_IndexFunc_sl_api_Open_api_Open_2 R w) hmix (by kernel_rfl) h
theorem slices_IndexFunc_sl_api_Open_api_Open_5_ok (c1 : (Int × Unit) → (Sl × Value × Int × Unit) → World → Prop) (R : Int → World → Prop) (v8 : Int) (s_0 : Sl) (f_1 : Value) (v7 : Int) (w : World) (h : slices_IndexFunc_sl_api_Open_api_Open_5 c1 R v8 s_0 f_1 v7 w) : WPC P 19 [] (Code.at slices_IndexFunc_sl_api_Open_api_Open_B [.snd, .fst, .snd, .blk, .blk]) (thenQ (fun env => getE env slices_IndexFunc_sl_api_Open_api_Open_l5 fun (s : Int × Unit) => getE env slices_IndexFunc_sl_api_Open_api_Open_l6 (c1 s)) (blockQ 0 ((thenQ (fun env => getE env slices_IndexFunc_sl_api_Open_api_Open_l3 fun (x : Unit) => slices_IndexFunc_sl_api_Open_api_Open_2 R) (topQ P [.tmp 4] I R)) .normal) (thenQ (fun env => getE env slices_IndexFunc_sl_api_Open_api_Open_l3 fun (x : Unit) => slices_IndexFunc_sl_api_Open_api_Open_2 R) (topQ P [.tmp 4] I R)))) (mkE2 19 slices_IndexFunc_sl_api_Open_api_Open_l5 slices_IndexFunc_sl_api_Open_api_Open_l6 (v8, ()) (s_0, f_1, v7, ())) w :=
  pc_end (T := slices_IndexFunc_sl_api_Open_api_Open_5 c1 R v8 s_0 f_1 v7 w) hmix (by kernel_rfl) h
theorem slices_IndexFunc_sl_api_Open_api_Open_4_ok (R : Int → World → Prop) (v8 : Int) (s_0 : Sl) (f_1 : Value) (v7 : Int) (w : World) (h : slices_IndexFunc_sl_api_Open_api_Open_4 R v8 s_0 f_1 v7 w) : WPC P 19 [] (Code.at slices_IndexFunc_sl_api_Open_api_Open_B [.snd, .fst, .snd]) (thenQ (fun env => getE env slices_IndexFunc_sl_api_Open_api_Open_l3 fun (x : Unit) => slices_IndexFunc_sl_api_Open_api_Open_2 R) (topQ P [.tmp 4] I R)) (mkE2 19 slices_IndexFunc_sl_api_Open_api_Open_l5 slices_IndexFunc_sl_api_Open_api_Open_l6 (v8, ()) (s_0, f_1, v7, ())) w :=
  pc_loopE (l := slices_IndexFunc_sl_api_Open_api_Open_l5) (l' := slices_IndexFunc_sl_api_Open_api_Open_l6) (body := fun (c1 : (Int × Unit) → (Sl × Value × Int × Unit) → World → Prop) (s : Int × Unit) => slices_IndexFunc_sl_api_Open_api_Open_5 c1 R s.1 s_0 f_1 v7) (id := 0) (b := (Code.at slices_IndexFunc_sl_api_Open_api_Open_B [.snd, .fst, .snd, .blk, .blk])) (by kernel_rfl) (fun c1 s w h => slices_IndexFunc_sl_api_Open_api_Open_5_ok c1 R s.1 s_0 f_1 v7 w h) h
theorem slices_IndexFunc_sl_api_Open_api_Open_3_ok (R : Int → World → Prop) (s_0 : Sl) (f_1 : Value) (w : World) (h : slices_IndexFunc_sl_api_Open_api_Open_3 R s_0 f_1 w) : WPC P 19 [] (Code.at slices_IndexFunc_sl_api_Open_api_Open_B [.snd, .fst]) (thenQ (fun env => getE env slices_IndexFunc_sl_api_Open_api_Open_l3 fun (x : Unit) => slices_IndexFunc_sl_api_Open_api_Open_2 R) (topQ P [.tmp 4] I R)) (mkE 19 slices_IndexFunc_sl_api_Open_api_Open_l4 (s_0, f_1, ())) w :=
  pc_cut2 (T := slices_IndexFunc_sl_api_Open_api_Open_3 R s_0 f_1 w) (l := slices_IndexFunc_sl_api_Open_api_Open_l5) (l' := slices_IndexFunc_sl_api_Open_api_Open_l6) (F := fun (x : Int × Unit) (y : Sl × Value × Int × Unit) => slices_IndexFunc_sl_api_Open_api_Open_4 R x.1 y.1 y.2.1 y.2.2.1) hmix 1 (mkE_len ..) (by kernel_rfl) (fun x y w h => slices_IndexFunc_sl_api_Open_api_Open_4_ok R x.1 y.1 y.2.1 y.2.2.1 w h) (by kernel_rfl) h
theorem slices_IndexFunc_sl_api_Open_api_Open_1_ok (R : Int → World → Prop) (s_0 : Sl) (f_1 : Value) (w : World) (h : slices_IndexFunc_sl_api_Open_api_Open_1 R s_0 f_1 w) : WPC P 19 [] (Code.at slices_IndexFunc_sl_api_Open_api_Open_B [.snd]) (topQ P [.tmp 4] I R) (mkE 19 slices_IndexFunc_sl_api_Open_api_Open_l2 (s_0, f_1, ())) w :=
  pc_seq (l := slices_IndexFunc_sl_api_Open_api_Open_l3) (F := fun (x : Unit) => slices_IndexFunc_sl_api_Open_api_Open_2 R) (a := (Code.at slices_IndexFunc_sl_api_Open_api_Open_B [.snd, .fst])) (b := (Code.at slices_IndexFunc_sl_api_Open_api_Open_B [.snd, .snd])) (by kernel_rfl) (pc_cut (T := (slices_IndexFunc_sl_api_Open_api_Open_3 R s_0 f_1) w) (l := slices_IndexFunc_sl_api_Open_api_Open_l4) (F := fun (x : Sl × Value × Unit) => slices_IndexFunc_sl_api_Open_api_Open_3 R x.1 x.2.1) (c := (Code.at slices_IndexFunc_sl_api_Open_api_Open_B [.snd, .fst])) hmix 0 (mkE_len ..) (by kernel_rfl) (fun x w h => slices_IndexFunc_sl_api_Open_api_Open_3_ok R x.1 x.2.1 w h) (by kernel_rfl) h) (fun x w h => slices_IndexFunc_sl_api_Open_api_Open_2_ok R w h)
theorem slices_IndexFunc_sl_api_Open_api_Open_0_ok (R : Int → World → Prop) (s_0 : Sl) (f_1 : Value) (w : World) (h : slices_IndexFunc_sl_api_Open_api_Open_0 R s_0 f_1 w) : WPC P 19 [] (Code.at slices_IndexFunc_sl_api_Open_api_Open_B []) (topQ P [.tmp 4] I R) (mkE 19 slices_IndexFunc_sl_api_Open_api_Open_l1 (s_0, f_1, ())) w :=
  pc_cut (T := slices_IndexFunc_sl_api_Open_api_Open_0 R s_0 f_1 w) (l := slices_IndexFunc_sl_api_Open_api_Open_l2) (F := fun (x : Sl × Value × Unit) => slices_IndexFunc_sl_api_Open_api_Open_1 R x.1 x.2.1) hmix 1 (mkE_len ..) (by kernel_rfl) (fun x w h => slices_IndexFunc_sl_api_Open_api_Open_1_ok R x.1 x.2.1 w h) (by kernel_rfl) h
theorem slices_IndexFunc_sl_api_Open_api_Open_call (R : Int → World → Prop) (s_0 : Sl) (f_1 : Value) (w : World) (h : slices_IndexFunc_sl_api_Open_api_Open_0 R s_0 f_1 w) : mcall P n_slices_IndexFunc_sl_api_Open_api_Open [(Sl.v s_0), f_1] I R w :=
  pc_top (T := (slices_IndexFunc_sl_api_Open_api_Open_0 R s_0 f_1) w) (l := slices_IndexFunc_sl_api_Open_api_Open_l1) (F := fun (x : Sl × Value × Unit) => slices_IndexFunc_sl_api_Open_api_Open_0 R x.1 x.2.1) (n := 19) (c := slices_IndexFunc_sl_api_Open_api_Open_B) Tryz.func99 rfl (by kernel_rfl) (by kernel_rfl) (by kernel_rfl) (fun x w h => slices_IndexFunc_sl_api_Open_api_Open_0_ok R x.1 x.2.1 w h) (by kernel_rfl) h
/- (*headgate seglog.Log).active -/
noncomputable abbrev seglog_Log_active_B : Code := (Tryz.f105.body).getD .skip
abbrev seglog_Log_active_l1 : Slots := [(0, .p)]
abbrev seglog_Log_active_l2 : Slots := []
def seglog_Log_active_1 (R : (Option Addr) → World → Prop) : World → Prop :=
 R none
def seglog_Log_active_0 (R : (Option Addr) → World → Prop) (l_0 : Option Addr) : World → Prop :=
 mnil l_0 fun a1 =>
 ld P t_sl_seglog_segment (ad a1 2) .sl fun (x2 : Sl) =>
 mif (decide ((x2.len : Int) > 0))
 (mnil l_0 fun a3 =>
 ld P t_sl_seglog_segment (ad a3 2) .sl fun (x4 : Sl) =>
 ixa P t_sl_seglog_segment (Sl.v x4) (w64 ((x2.len : Int) - 1)) fun (x5 : Addr) =>
 ld P t_int (ad x5 1) I fun (x6 : Int) =>
 mif (decide (x6 < 1024))
 (mnil l_0 fun a7 =>
 ld P t_sl_seglog_segment (ad a7 2) .sl fun (x8 : Sl) =>
 ixa P t_sl_seglog_segment (Sl.v x8) (w64 ((x2.len : Int) - 1)) fun (x9 : Addr) =>
 R (some x9))
 (seglog_Log_active_1 R))
 (seglog_Log_active_1 R)
theorem seglog_Log_active_1_ok (R : (Option Addr) → World → Prop) (w : World) (h : seglog_Log_active_1 R w) : WPC P 31 [] (Code.at seglog_Log_active_B [.snd, .snd]) (topQ P [.tmp 2] .p R) (mkE 31 seglog_Log_active_l2 (())) w :=
  pc_end (T := seglog_Log_active_1 R w) hmix (by kernel_rfl) h
theorem seglog_Log_active_0_ok (R : (Option Addr) → World → Prop) (l_0 : Option Addr) (w : World) (h : seglog_Log_active_0 R l_0 w) : WPC P 31 [] (Code.at seglog_Log_active_B []) (topQ P [.tmp 2] .p R) (mkE 31 seglog_Log_active_l1 (l_0, ())) w :=
  pc_cut (T := seglog_Log_active_0 R l_0 w) (l := seglog_Log_active_l2) (F := fun (x : Unit) => seglog_Log_active_1 R) hmix 2 (mkE_len ..) (by kernel_rfl) (fun x w h => seglog_Log_active_1_ok R w h) (by kernel_rfl) h
theorem seglog_Log_active_call (R : (Option Addr) → World → Prop) (l_0 : Option Addr) (w : World) (h : seglog_Log_active_0 R l_0 w) : mcall P n_seglog_Log_active [(.pointer l_0)] .p R w :=
  pc_top (T := (seglog_Log_active_0 R l_0) w) (l := seglog_Log_active_l1) (F := fun (x : Option Addr × Unit) => seglog_Log_active_0 R x.1) (n := 31) (c := seglog_Log_active_B) Tryz.func105 rfl (by kernel_rfl) (by kernel_rfl) (by kernel_rfl) (fun x w h => seglog_Log_active_0_ok R x.1 w h) (by kernel_rfl) h
/- (*headgate disk.Disk).Append -/
noncomputable abbrev disk_Disk_Append_B : Code := (Tryz.f106.body).getD .skip
abbrev disk_Disk_Append_l1 : Slots := [(0, .p), (1, .s), (2, .s)]
abbrev disk_Disk_Append_l2 : Slots := [(0, .p), (1, .s), (2, .s), (8, .p), (9, I)]
abbrev disk_Disk_Append_l3 : Slots := [(0, .p), (1, .s), (2, .s), (8, .p), (9, I)]
abbrev disk_Disk_Append_l4 : Slots := [(0, .p), (2, .s), (8, .p), (9, I)]
def disk_Disk_Append_3 (R : Int → World → Prop) (d_0 : Option Addr) (s_2 : Bs) (f_8 : Option Addr) (need_9 : Int) : World → Prop :=
 mnil d_0 fun a22 =>
 ld P t_int (ad a22 1) I fun (x23 : Int) =>
 mnil d_0 fun a24 =>
 sto P t_int (ad a24 1) I (w64 (x23 - need_9)) <|
 mnil f_8 fun a25 =>
 ld P t_string (ad a25 1) .s fun (x26 : Bs) =>
 mcat x26 s_2 fun s27 =>
 mnil f_8 fun a28 =>
 sto P t_string (ad a28 1) .s s27 <|
 mcall P n_disk_Disk_burn [(.pointer d_0)] .b fun (x29 : Bool) =>
 mif (!x29)
 (R 4)
 (R 0)
def disk_Disk_Append_2 (R : Int → World → Prop) (d_0 : Option Addr) (name_1 : Bs) (s_2 : Bs) (f_8 : Option Addr) (need_9 : Int) : World → Prop :=
 meq P .eql t_ptr_disk_file (.pointer f_8) (.pointer none) fun (x18 : Bool) =>
 mif x18
 (bx P t_disk_file k_disk_file ([], [], ()) fun a19 =>
 mnil d_0 fun a20 =>
 ld P t_map_string_ptr_disk_file a20 .m fun (x21 : Option Nat) =>
 mup P t_map_string_ptr_disk_file x21 .s name_1 .p (some a19) <|
 disk_Disk_Append_3 R d_0 s_2 (some a19) need_9)
 (disk_Disk_Append_3 R d_0 s_2 f_8 need_9)
def disk_Disk_Append_1 (R : Int → World → Prop) (d_0 : Option Addr) (name_1 : Bs) (s_2 : Bs) (f_8 : Option Addr) (need_9 : Int) : World → Prop :=
 mnil d_0 fun a12 =>
 ld P t_int (ad a12 1) I fun (x13 : Int) =>
 mif (decide (need_9 > x13))
 (R 5)
 (meq P .eql t_ptr_disk_file (.pointer f_8) (.pointer none) fun (x14 : Bool) =>
 mif x14
 (mnil d_0 fun a15 =>
 ld P t_map_string_ptr_disk_file a15 .m fun (x16 : Option Nat) =>
 mrd P (Builtin.len_ #[t_map_string_ptr_disk_file] t_int #[.map x16]) I fun (x17 : Int) =>
 mif (decide (x17 ≥ 256))
 (R 5)
 (disk_Disk_Append_2 R d_0 name_1 s_2 f_8 need_9))
 (disk_Disk_Append_2 R d_0 name_1 s_2 f_8 need_9))
def disk_Disk_Append_0 (R : Int → World → Prop) (d_0 : Option Addr) (name_1 : Bs) (s_2 : Bs) : World → Prop :=
 bsl P t_sl_string .s [name_1] fun x1 =>
 mcall P n_disk_Disk_ready [(.pointer d_0), (Sl.v x1)] I fun (x2 : Int) =>
 mif (x2 != 0)
 (R x2)
 (mnil d_0 fun a3 =>
 ld P t_map_string_ptr_disk_file a3 .m fun (x4 : Option Nat) =>
 lku P t_map_string_ptr_disk_file x4 .s name_1 .p fun (x5 : Option Addr) =>
 mcall P n_disk_blocks [(.int .i64 (s_2.length : Int))] I fun (x6 : Int) =>
 meq P .neq t_ptr_disk_file (.pointer x5) (.pointer none) fun (x7 : Bool) =>
 mif x7
 (mcall P n_disk_file_size [(.pointer x5)] I fun (x8 : Int) =>
 mcall P n_disk_blocks [(.int .i64 (w64 (x8 + (s_2.length : Int))))] I fun (x9 : Int) =>
 mcall P n_disk_file_size [(.pointer x5)] I fun (x10 : Int) =>
 mcall P n_disk_blocks [(.int .i64 x10)] I fun (x11 : Int) =>
 disk_Disk_Append_1 R d_0 name_1 s_2 x5 (w64 (x9 - x11)))
 (disk_Disk_Append_1 R d_0 name_1 s_2 x5 x6))
theorem disk_Disk_Append_3_ok (R : Int → World → Prop) (d_0 : Option Addr) (s_2 : Bs) (f_8 : Option Addr) (need_9 : Int) (w : World) (h : disk_Disk_Append_3 R d_0 s_2 f_8 need_9 w) : WPC P 85 [] (Code.at disk_Disk_Append_B [.snd, .snd, .snd, .snd, .snd, .snd, .snd]) (topQ P [.tmp 6] I R) (mkE 85 disk_Disk_Append_l4 (d_0, s_2, f_8, need_9, ())) w :=
  pc_end (T := disk_Disk_Append_3 R d_0 s_2 f_8 need_9 w) hmix (by kernel_rfl) h
theorem disk_Disk_Append_2_ok (R : Int → World → Prop) (d_0 : Option Addr) (name_1 : Bs) (s_2 : Bs) (f_8 : Option Addr) (need_9 : Int) (w : World) (h : disk_Disk_Append_2 R d_0 name_1 s_2 f_8 need_9 w) : WPC P 85 [] (Code.at disk_Disk_Append_B [.snd, .snd, .snd, .snd, .snd, .snd]) (topQ P [.tmp 6] I R) (mkE 85 disk_Disk_Append_l3 (d_0, name_1, s_2, f_8, need_9, ())) w :=
  pc_cut (T := disk_Disk_Append_2 R d_0 name_1 s_2 f_8 need_9 w) (l := disk_Disk_Append_l4) (F := fun (x : Option Addr × Bs × Option Addr × Int × Unit) => disk_Disk_Append_3 R x.1 x.2.1 x.2.2.1 x.2.2.2.1) hmix 1 (mkE_len ..) (by kernel_rfl) (fun x w h => disk_Disk_Append_3_ok R x.1 x.2.1 x.2.2.1 x.2.2.2.1 w h) (by kernel_rfl) h
theorem disk_Disk_Append_1_ok (R : Int → World → Prop) (d_0 : Option Addr) (name_1 : Bs) (s_2 : Bs) (f_8 : Option Addr) (need_9 : Int) (w : World) (h : disk_Disk_Append_1 R d_0 name_1 s_2 f_8 need_9 w) : WPC P 85 [] (Code.at disk_Disk_Append_B [.snd, .snd, .snd, .snd, .snd]) (topQ P [.tmp 6] I R) (mkE 85 disk_Disk_Append_l2 (d_0, name_1, s_2, f_8, need_9, ())) w :=
  pc_cut (T := disk_Disk_Append_1 R d_0 name_1 s_2 f_8 need_9 w) (l := disk_Disk_Append_l3) (F := fun (x : Option Addr × Bs × Bs × Option Addr × Int × Unit) => disk_Disk_Append_2 R x.1 x.2.1 x.2.2.1 x.2.2.2.1 x.2.2.2.2.1) hmix 1 (mkE_len ..) (by kernel_rfl) (fun x w h => disk_Disk_Append_2_ok R x.1 x.2.1 x.2.2.1 x.2.2.2.1 x.2.2.2.2.1 w h) (by kernel_rfl) h
theorem disk_Disk_Append_0_ok (R : Int → World → Prop) (d_0 : Option Addr) (name_1 : Bs) (s_2 : Bs) (w : World) (h : disk_Disk_Append_0 R d_0 name_1 s_2 w) : WPC P 85 [] (Code.at disk_Disk_Append_B []) (topQ P [.tmp 6] I R) (mkE 85 disk_Disk_Append_l1 (d_0, name_1, s_2, ())) w :=
  pc_cut (T := disk_Disk_Append_0 R d_0 name_1 s_2 w) (l := disk_Disk_Append_l2) (F := fun (x : Option Addr × Bs × Bs × Option Addr × Int × Unit) => disk_Disk_Append_1 R x.1 x.2.1 x.2.2.1 x.2.2.2.1 x.2.2.2.2.1) hmix 5 (mkE_len ..) (by kernel_rfl) (fun x w h => disk_Disk_Append_1_ok R x.1 x.2.1 x.2.2.1 x.2.2.2.1 x.2.2.2.2.1 w h) (by kernel_rfl) h
theorem disk_Disk_Append_call (R : Int → World → Prop) (d_0 : Option Addr) (name_1 : Bs) (s_2 : Bs) (w : World) (h : disk_Disk_Append_0 R d_0 name_1 s_2 w) : mcall P n_disk_Disk_Append [(.pointer d_0), (.string ⟨name_1.toArray⟩), (.string ⟨s_2.toArray⟩)] I R w :=
  pc_top (T := (disk_Disk_Append_0 R d_0 name_1 s_2) w) (l := disk_Disk_Append_l1) (F := fun (x : Option Addr × Bs × Bs × Unit) => disk_Disk_Append_0 R x.1 x.2.1 x.2.2.1) (n := 85) (c := disk_Disk_Append_B) Tryz.func106 rfl (by kernel_rfl) (by kernel_rfl) (by kernel_rfl) (fun x w h => disk_Disk_Append_0_ok R x.1 x.2.1 x.2.2.1 w h) (by kernel_rfl) h
/- strings.Join -/
noncomputable abbrev strings_Join_B : Code := (Tryz.f107.body).getD .skip
abbrev strings_Join_l1 : Slots := [(0, .sl), (1, .s)]
abbrev strings_Join_l2 : Slots := [(0, .sl), (1, .s), (5, I)]
abbrev strings_Join_l3 : Slots := [(0, .sl), (1, .s), (5, I)]
abbrev strings_Join_l4 : Slots := [(0, .sl), (1, .s), (8, .ad)]
abbrev strings_Join_l5 : Slots := [(8, .ad)]
def strings_Join_4 (R : Bs → World → Prop) (b_8 : Addr) : World → Prop :=
 mcall P n_strings_Builder_String [(.pointer (some b_8))] .s fun (x8 : Bs) =>
 R x8
abbrev strings_Join_l6 : Slots := [(0, .sl), (1, .s), (8, .ad)]
abbrev strings_Join_l7 : Slots := [(65, I)]
abbrev strings_Join_l8 : Slots := [(1, .s), (8, .ad), (63, .sl), (64, I)]
def strings_Join_7 (c1 : (Int × Unit) → (Bs × Addr × Sl × Int × Unit) → World → Prop) (R : Bs → World → Prop) (v65 : Int) (sep_1 : Bs) (b_8 : Addr) (v63 : Sl) (v64 : Int) : World → Prop :=
 mif (decide (v65 < v64))
 (ixa P t_sl_string (Sl.v v63) v65 fun (x10 : Addr) =>
 ld P t_string x10 .s fun (x11 : Bs) =>
 mcall P n_strings_Builder_WriteString [(.pointer (some b_8)), (.string ⟨sep_1.toArray⟩)] (.tup [I, .v]) fun (x12 : Int × Value × Unit) =>
 mcall P n_strings_Builder_WriteString [(.pointer (some b_8)), (.string ⟨x11.toArray⟩)] (.tup [I, .v]) fun (x13 : Int × Value × Unit) =>
 c1 (w64 (v65 + 1), ()) (sep_1, b_8, v63, v64, ()))
 (strings_Join_4 R b_8)
def strings_Join_6 (R : Bs → World → Prop) (v65 : Int) (sep_1 : Bs) (b_8 : Addr) (v63 : Sl) (v64 : Int) : World → Prop :=
 W.Loop (sep_1, b_8, v63, v64, ()) (fun (c1 : (Int × Unit) → (Bs × Addr × Sl × Int × Unit) → World → Prop) (s : Int × Unit) => strings_Join_7 c1 R s.1 sep_1 b_8 v63 v64) (v65, ())
def strings_Join_5 (R : Bs → World → Prop) (elems_0 : Sl) (sep_1 : Bs) (b_8 : Addr) : World → Prop :=
 slc P t_sl_string elems_0 (some 1) none fun (x9 : Sl) =>
 strings_Join_6 R 0 sep_1 b_8 x9 (x9.len : Int)
def strings_Join_3 (R : Bs → World → Prop) (elems_0 : Sl) (sep_1 : Bs) (b_8 : Addr) : World → Prop :=
 strings_Join_5 R elems_0 sep_1 b_8
def strings_Join_2 (R : Bs → World → Prop) (elems_0 : Sl) (sep_1 : Bs) (n_5 : Int) : World → Prop :=
 alo P t_strings_Builder fun a3 =>
 mcall P n_strings_Builder_Grow [(.pointer (some a3)), (.int .i64 n_5)] (.tup []) fun (x4 : Unit) =>
 ixa P t_sl_string (Sl.v elems_0) 0 fun (x5 : Addr) =>
 ld P t_string x5 .s fun (x6 : Bs) =>
 mcall P n_strings_Builder_WriteString [(.pointer (some a3)), (.string ⟨x6.toArray⟩)] (.tup [I, .v]) fun (x7 : Int × Value × Unit) =>
 strings_Join_3 R elems_0 sep_1 a3
abbrev strings_Join_l9 : Slots := [(0, .sl), (1, .s), (5, I)]
abbrev strings_Join_l10 : Slots := [(5, I), (41, I)]
abbrev strings_Join_l11 : Slots := [(0, .sl), (1, .s), (39, .sl), (40, I)]
def strings_Join_10 (c1 : (Int × Int × Unit) → (Sl × Bs × Sl × Int × Unit) → World → Prop) (R : Bs → World → Prop) (n_5 : Int) (v41 : Int) (elems_0 : Sl) (sep_1 : Bs) (v39 : Sl) (v40 : Int) : World → Prop :=
 mif (decide (v41 < v40))
 (ixa P t_sl_string (Sl.v v39) v41 fun (x14 : Addr) =>
 ld P t_string x14 .s fun (x15 : Bs) =>
 mif (decide ((x15.length : Int) > (w64 (9223372036854775807 - n_5))))
 ((fun _ => False))
 (c1 (w64 (n_5 + (x15.length : Int)), w64 (v41 + 1), ()) (elems_0, sep_1, v39, v40, ())))
 (strings_Join_2 R elems_0 sep_1 n_5)
def strings_Join_9 (R : Bs → World → Prop) (n_5 : Int) (v41 : Int) (elems_0 : Sl) (sep_1 : Bs) (v39 : Sl) (v40 : Int) : World → Prop :=
 W.Loop (elems_0, sep_1, v39, v40, ()) (fun (c1 : (Int × Int × Unit) → (Sl × Bs × Sl × Int × Unit) → World → Prop) (s : Int × Int × Unit) => strings_Join_10 c1 R s.1 s.2.1 elems_0 sep_1 v39 v40) (n_5, v41, ())
def strings_Join_8 (R : Bs → World → Prop) (elems_0 : Sl) (sep_1 : Bs) (n_5 : Int) : World → Prop :=
 strings_Join_9 R n_5 0 elems_0 sep_1 elems_0 (elems_0.len : Int)
def strings_Join_1 (R : Bs → World → Prop) (elems_0 : Sl) (sep_1 : Bs) (n_5 : Int) : World → Prop :=
 strings_Join_8 R elems_0 sep_1 n_5
def strings_Join_0 (R : Bs → World → Prop) (elems_0 : Sl) (sep_1 : Bs) : World → Prop :=
 mif ((elems_0.len : Int) == 0)
 (R [])
 (mif ((elems_0.len : Int) == 1)
 (ixa P t_sl_string (Sl.v elems_0) 0 fun (x1 : Addr) =>
 ld P t_string x1 .s fun (x2 : Bs) =>
 R x2)
 (mif (decide ((sep_1.length : Int) > 0))
 (mdz (w64 ((elems_0.len : Int) - 1)) <|
 mif (decide ((sep_1.length : Int) ≥ (w64 ((9223372036854775807 : Int).tdiv (w64 ((elems_0.len : Int) - 1))))))
 ((fun _ => False))
 (strings_Join_1 R elems_0 sep_1 (w64 (0 + (w64 ((sep_1.length : Int) * (w64 ((elems_0.len : Int) - 1))))))))
 (strings_Join_1 R elems_0 sep_1 0)))
theorem strings_Join_4_ok (R : Bs → World → Prop) (b_8 : Addr) (w : World) (h : strings_Join_4 R b_8 w) : WPC P 75 [] (Code.at strings_Join_B [.snd, .snd, .snd, .snd, .snd, .snd, .snd, .snd, .snd]) (topQ P [.tmp 4] .s R) (mkE 75 strings_Join_l5 (b_8, ())) w :=
  pc_end (T := strings_Join_4 R b_8 w) hmix (by kernel_rfl) h
theorem strings_Join_7_ok (c1 : (Int × Unit) → (Bs × Addr × Sl × Int × Unit) → World → Prop) (R : Bs → World → Prop) (v65 : Int) (sep_1 : Bs) (b_8 : Addr) (v63 : Sl) (v64 : Int) (w : World) (h : strings_Join_7 c1 R v65 sep_1 b_8 v63 v64 w) : WPC P 75 [] (Code.at strings_Join_B [.snd, .snd, .snd, .snd, .snd, .snd, .snd, .snd, .fst, .snd, .blk, .blk]) (thenQ (fun env => getE env strings_Join_l7 fun (s : Int × Unit) => getE env strings_Join_l8 (c1 s)) (blockQ 3 ((thenQ (fun env => getE env strings_Join_l5 fun (x : Addr × Unit) => strings_Join_4 R x.1) (topQ P [.tmp 4] .s R)) .normal) (thenQ (fun env => getE env strings_Join_l5 fun (x : Addr × Unit) => strings_Join_4 R x.1) (topQ P [.tmp 4] .s R)))) (mkE2 75 strings_Join_l7 strings_Join_l8 (v65, ()) (sep_1, b_8, v63, v64, ())) w :=
  pc_end (T := strings_Join_7 c1 R v65 sep_1 b_8 v63 v64 w) hmix (by kernel_rfl) h
theorem strings_Join_6_ok (R : Bs → World → Prop) (v65 : Int) (sep_1 : Bs) (b_8 : Addr) (v63 : Sl) (v64 : Int) (w : World) (h : strings_Join_6 R v65 sep_1 b_8 v63 v64 w) : WPC P 75 [] (Code.at strings_Join_B [.snd, .snd, .snd, .snd, .snd, .snd, .snd, .snd, .fst, .snd]) (thenQ (fun env => getE env strings_Join_l5 fun (x : Addr × Unit) => strings_Join_4 R x.1) (topQ P [.tmp 4] .s R)) (mkE2 75 strings_Join_l7 strings_Join_l8 (v65, ()) (sep_1, b_8, v63, v64, ())) w :=
  pc_loopE (l := strings_Join_l7) (l' := strings_Join_l8) (body := fun (c1 : (Int × Unit) → (Bs × Addr × Sl × Int × Unit) → World → Prop) (s : Int × Unit) => strings_Join_7 c1 R s.1 sep_1 b_8 v63 v64) (id := 3) (b := (Code.at strings_Join_B [.snd, .snd, .snd, .snd, .snd, .snd, .snd, .snd, .fst, .snd, .blk, .blk])) (by kernel_rfl) (fun c1 s w h => strings_Join_7_ok c1 R s.1 sep_1 b_8 v63 v64 w h) h
theorem strings_Join_5_ok (R : Bs → World → Prop) (elems_0 : Sl) (sep_1 : Bs) (b_8 : Addr) (w : World) (h : strings_Join_5 R elems_0 sep_1 b_8 w) : WPC P 75 [] (Code.at strings_Join_B [.snd, .snd, .snd, .snd, .snd, .snd, .snd, .snd, .fst]) (thenQ (fun env => getE env strings_Join_l5 fun (x : Addr × Unit) => strings_Join_4 R x.1) (topQ P [.tmp 4] .s R)) (mkE 75 strings_Join_l6 (elems_0, sep_1, b_8, ())) w :=
  pc_cut2 (T := strings_Join_5 R elems_0 sep_1 b_8 w) (l := strings_Join_l7) (l' := strings_Join_l8) (F := fun (x : Int × Unit) (y : Bs × Addr × Sl × Int × Unit) => strings_Join_6 R x.1 y.1 y.2.1 y.2.2.1 y.2.2.2.1) hmix 1 (mkE_len ..) (by kernel_rfl) (fun x y w h => strings_Join_6_ok R x.1 y.1 y.2.1 y.2.2.1 y.2.2.2.1 w h) (by kernel_rfl) h
theorem strings_Join_3_ok (R : Bs → World → Prop) (elems_0 : Sl) (sep_1 : Bs) (b_8 : Addr) (w : World) (h : strings_Join_3 R elems_0 sep_1 b_8 w) : WPC P 75 [] (Code.at strings_Join_B [.snd, .snd, .snd, .snd, .snd, .snd, .snd, .snd]) (topQ P [.tmp 4] .s R) (mkE 75 strings_Join_l4 (elems_0, sep_1, b_8, ())) w :=
  pc_seq (l := strings_Join_l5) (F := fun (x : Addr × Unit) => strings_Join_4 R x.1) (a := (Code.at strings_Join_B [.snd, .snd, .snd, .snd, .snd, .snd, .snd, .snd, .fst])) (b := (Code.at strings_Join_B [.snd, .snd, .snd, .snd, .snd, .snd, .snd, .snd, .snd])) (by kernel_rfl) (pc_cut (T := (strings_Join_5 R elems_0 sep_1 b_8) w) (l := strings_Join_l6) (F := fun (x : Sl × Bs × Addr × Unit) => strings_Join_5 R x.1 x.2.1 x.2.2.1) (c := (Code.at strings_Join_B [.snd, .snd, .snd, .snd, .snd, .snd, .snd, .snd, .fst])) hmix 0 (mkE_len ..) (by kernel_rfl) (fun x w h => strings_Join_5_ok R x.1 x.2.1 x.2.2.1 w h) (by kernel_rfl) h) (fun x w h => strings_Join_4_ok R x.1 w h)
theorem strings_Join_2_ok (R : Bs → World → Prop) (elems_0 : Sl) (sep_1 : Bs) (n_5 : Int) (w : World) (h : strings_Join_2 R elems_0 sep_1 n_5 w) : WPC P 75 [] (Code.at strings_Join_B [.snd, .snd, .snd, .snd, .snd]) (topQ P [.tmp 4] .s R) (mkE 75 strings_Join_l3 (elems_0, sep_1, n_5, ())) w :=
  pc_cut (T := strings_Join_2 R elems_0 sep_1 n_5 w) (l := strings_Join_l4) (F := fun (x : Sl × Bs × Addr × Unit) => strings_Join_3 R x.1 x.2.1 x.2.2.1) hmix 3 (mkE_len ..) (by kernel_rfl) (fun x w h => strings_Join_3_ok R x.1 x.2.1 x.2.2.1 w h) (by kernel_rfl) h
theorem strings_Join_10_ok (c1 : (Int × Int × Unit) → (Sl × Bs × Sl × Int × Unit) → World → Prop) (R : Bs → World → Prop) (n_5 : Int) (v41 : Int) (elems_0 : Sl) (sep_1 : Bs) (v39 : Sl) (v40 : Int) (w : World) (h : strings_Join_10 c1 R n_5 v41 elems_0 sep_1 v39 v40 w) : WPC P 75 [] (Code.at strings_Join_B [.snd, .snd, .snd, .snd, .fst, .snd, .blk, .blk]) (thenQ (fun env => getE env strings_Join_l10 fun (s : Int × Int × Unit) => getE env strings_Join_l11 (c1 s)) (blockQ 1 ((thenQ (fun env => getE env strings_Join_l3 fun (x : Sl × Bs × Int × Unit) => strings_Join_2 R x.1 x.2.1 x.2.2.1) (topQ P [.tmp 4] .s R)) .normal) (thenQ (fun env => getE env strings_Join_l3 fun (x : Sl × Bs × Int × Unit) => strings_Join_2 R x.1 x.2.1 x.2.2.1) (topQ P [.tmp 4] .s R)))) (mkE2 75 strings_Join_l10 strings_Join_l11 (n_5, v41, ()) (elems_0, sep_1, v39, v40, ())) w :=
  pc_end (T := strings_Join_10 c1 R n_5 v41 elems_0 sep_1 v39 v40 w) hmix (by kernel_rfl) h
theorem strings_Join_9_ok (R : Bs → World → Prop) (n_5 : Int) (v41 : Int) (elems_0 : Sl) (sep_1 : Bs) (v39 : Sl) (v40 : Int) (w : World) (h : strings_Join_9 R n_5 v41 elems_0 sep_1 v39 v40 w) : WPC P 75 [] (Code.at strings_Join_B [.snd, .snd, .snd, .snd, .fst, .snd]) (thenQ (fun env => getE env strings_Join_l3 fun (x : Sl × Bs × Int × Unit) => strings_Join_2 R x.1 x.2.1 x.2.2.1) (topQ P [.tmp 4] .s R)) (mkE2 75 strings_Join_l10 strings_Join_l11 (n_5, v41, ()) (elems_0, sep_1, v39, v40, ())) w :=
  pc_loopE (l := strings_Join_l10) (l' := strings_Join_l11) (body := fun (c1 : (Int × Int × Unit) → (Sl × Bs × Sl × Int × Unit) → World → Prop) (s : Int × Int × Unit) => strings_Join_10 c1 R s.1 s.2.1 elems_0 sep_1 v39 v40) (id := 1) (b := (Code.at strings_Join_B [.snd, .snd, .snd, .snd, .fst, .snd, .blk, .blk])) (by kernel_rfl) (fun c1 s w h => strings_Join_10_ok c1 R s.1 s.2.1 elems_0 sep_1 v39 v40 w h) h
theorem strings_Join_8_ok (R : Bs → World → Prop) (elems_0 : Sl) (sep_1 : Bs) (n_5 : Int) (w : World) (h : strings_Join_8 R elems_0 sep_1 n_5 w) : WPC P 75 [] (Code.at strings_Join_B [.snd, .snd, .snd, .snd, .fst]) (thenQ (fun env => getE env strings_Join_l3 fun (x : Sl × Bs × Int × Unit) => strings_Join_2 R x.1 x.2.1 x.2.2.1) (topQ P [.tmp 4] .s R)) (mkE 75 strings_Join_l9 (elems_0, sep_1, n_5, ())) w :=
  pc_cut2 (T := strings_Join_8 R elems_0 sep_1 n_5 w) (l := strings_Join_l10) (l' := strings_Join_l11) (F := fun (x : Int × Int × Unit) (y : Sl × Bs × Sl × Int × Unit) => strings_Join_9 R x.1 x.2.1 y.1 y.2.1 y.2.2.1 y.2.2.2.1) hmix 1 (mkE_len ..) (by kernel_rfl) (fun x y w h => strings_Join_9_ok R x.1 x.2.1 y.1 y.2.1 y.2.2.1 y.2.2.2.1 w h) (by kernel_rfl) h
theorem strings_Join_1_ok (R : Bs → World → Prop) (elems_0 : Sl) (sep_1 : Bs) (n_5 : Int) (w : World) (h : strings_Join_1 R elems_0 sep_1 n_5 w) : WPC P 75 [] (Code.at strings_Join_B [.snd, .snd, .snd, .snd]) (topQ P [.tmp 4] .s R) (mkE 75 strings_Join_l2 (elems_0, sep_1, n_5, ())) w :=
  pc_seq (l := strings_Join_l3) (F := fun (x : Sl × Bs × Int × Unit) => strings_Join_2 R x.1 x.2.1 x.2.2.1) (a := (Code.at strings_Join_B [.snd, .snd, .snd, .snd, .fst])) (b := (Code.at strings_Join_B [.snd, .snd, .snd, .snd, .snd])) (by kernel_rfl) (pc_cut (T := (strings_Join_8 R elems_0 sep_1 n_5) w) (l := strings_Join_l9) (F := fun (x : Sl × Bs × Int × Unit) => strings_Join_8 R x.1 x.2.1 x.2.2.1) (c := (Code.at strings_Join_B [.snd, .snd, .snd, .snd, .fst])) hmix 0 (mkE_len ..) (by kernel_rfl) (fun x w h => strings_Join_8_ok R x.1 x.2.1 x.2.2.1 w h) (by kernel_rfl) h) (fun x w h => strings_Join_2_ok R x.1 x.2.1 x.2.2.1 w h)
theorem strings_Join_0_ok (R : Bs → World → Prop) (elems_0 : Sl) (sep_1 : Bs) (w : World) (h : strings_Join_0 R elems_0 sep_1 w) : WPC P 75 [] (Code.at strings_Join_B []) (topQ P [.tmp 4] .s R) (mkE 75 strings_Join_l1 (elems_0, sep_1, ())) w :=
  pc_cut (T := strings_Join_0 R elems_0 sep_1 w) (l := strings_Join_l2) (F := fun (x : Sl × Bs × Int × Unit) => strings_Join_1 R x.1 x.2.1 x.2.2.1) hmix 4 (mkE_len ..) (by kernel_rfl) (fun x w h => strings_Join_1_ok R x.1 x.2.1 x.2.2.1 w h) (by kernel_rfl) h
theorem strings_Join_call (R : Bs → World → Prop) (elems_0 : Sl) (sep_1 : Bs) (w : World) (h : strings_Join_0 R elems_0 sep_1 w) : mcall P n_strings_Join [(Sl.v elems_0), (.string ⟨sep_1.toArray⟩)] .s R w :=
  pc_top (T := (strings_Join_0 R elems_0 sep_1) w) (l := strings_Join_l1) (F := fun (x : Sl × Bs × Unit) => strings_Join_0 R x.1 x.2.1) (n := 75) (c := strings_Join_B) Tryz.func107 rfl (by kernel_rfl) (by kernel_rfl) (by kernel_rfl) (fun x w h => strings_Join_0_ok R x.1 x.2.1 w h) (by kernel_rfl) h
/- strings.makeASCIISet -/
noncomputable abbrev strings_makeASCIISet_B : Code := (Tryz.f111.body).getD .skip
abbrev strings_makeASCIISet_l1 : Slots := [(0, .s)]
abbrev strings_makeASCIISet_l2 : Slots := [(0, .s), (2, .ad)]
abbrev strings_makeASCIISet_l3 : Slots := [(2, .ad)]
def strings_makeASCIISet_2 (R : (T_arr256_bool × Bool × Unit) → World → Prop) (as_2 : Addr) : World → Prop :=
 ld P t_strings_asciiSet as_2 k_arr256_bool fun (x2 : T_arr256_bool) =>
 sto P t_strings_asciiSet as_2 k_arr256_bool x2 <|
 ld P t_strings_asciiSet as_2 k_arr256_bool fun (x3 : T_arr256_bool) =>
 R (x3, true, ())
abbrev strings_makeASCIISet_l4 : Slots := [(0, .s), (2, .ad)]
abbrev strings_makeASCIISet_l5 : Slots := [(4, I)]
abbrev strings_makeASCIISet_l6 : Slots := [(0, .s), (2, .ad)]
def strings_makeASCIISet_5 (c1 : (Int × Unit) → (Bs × Addr × Unit) → World → Prop) (R : (T_arr256_bool × Bool × Unit) → World → Prop) (i_4 : Int) (chars_0 : Bs) (as_2 : Addr) : World → Prop :=
 mif (decide (i_4 < (chars_0.length : Int)))
 (ixs P t_string chars_0 i_4 fun (x4 : Int) =>
 mif (decide (x4 ≥ 128))
 (ld P t_strings_asciiSet as_2 k_arr256_bool fun (x5 : T_arr256_bool) =>
 sto P t_strings_asciiSet as_2 k_arr256_bool x5 <|
 ld P t_strings_asciiSet as_2 k_arr256_bool fun (x6 : T_arr256_bool) =>
 R (x6, false, ()))
 (mrd P (Instr.indexAt t_strings_asciiSet (.pointer (some as_2)) (.int .u8 x4)) .ad fun (x7 : Addr) =>
 sto P t_bool x7 .b true <|
 c1 (w64 (i_4 + 1), ()) (chars_0, as_2, ())))
 (strings_makeASCIISet_2 R as_2)
def strings_makeASCIISet_4 (R : (T_arr256_bool × Bool × Unit) → World → Prop) (i_4 : Int) (chars_0 : Bs) (as_2 : Addr) : World → Prop :=
 W.Loop (chars_0, as_2, ()) (fun (c1 : (Int × Unit) → (Bs × Addr × Unit) → World → Prop) (s : Int × Unit) => strings_makeASCIISet_5 c1 R s.1 chars_0 as_2) (i_4, ())
def strings_makeASCIISet_3 (R : (T_arr256_bool × Bool × Unit) → World → Prop) (chars_0 : Bs) (as_2 : Addr) : World → Prop :=
 strings_makeASCIISet_4 R 0 chars_0 as_2
def strings_makeASCIISet_1 (R : (T_arr256_bool × Bool × Unit) → World → Prop) (chars_0 : Bs) (as_2 : Addr) : World → Prop :=
 strings_makeASCIISet_3 R chars_0 as_2
def strings_makeASCIISet_0 (R : (T_arr256_bool × Bool × Unit) → World → Prop) (chars_0 : Bs) : World → Prop :=
 alo P t_strings_asciiSet fun a1 =>
 strings_makeASCIISet_1 R chars_0 a1
theorem strings_makeASCIISet_2_ok (R : (T_arr256_bool × Bool × Unit) → World → Prop) (as_2 : Addr) (w : World) (h : strings_makeASCIISet_2 R as_2 w) : WPC P 21 [] (Code.at strings_makeASCIISet_B [.snd, .snd]) (topQ P [.cell 2 t_strings_asciiSet, .tmp 3] (.tup [k_arr256_bool, .b]) R) (mkE 21 strings_makeASCIISet_l3 (as_2, ())) w :=
  pc_end (T := strings_makeASCIISet_2 R as_2 w) hmix (by kernel_rfl) h
theorem strings_makeASCIISet_5_ok (c1 : (Int × Unit) → (Bs × Addr × Unit) → World → Prop) (R : (T_arr256_bool × Bool × Unit) → World → Prop) (i_4 : Int) (chars_0 : Bs) (as_2 : Addr) (w : World) (h : strings_makeASCIISet_5 c1 R i_4 chars_0 as_2 w) : WPC P 21 [] (Code.at strings_makeASCIISet_B [.snd, .fst, .snd, .blk, .blk]) (thenQ (fun env => getE env strings_makeASCIISet_l5 fun (s : Int × Unit) => getE env strings_makeASCIISet_l6 (c1 s)) (blockQ 0 ((thenQ (fun env => getE env strings_makeASCIISet_l3 fun (x : Addr × Unit) => strings_makeASCIISet_2 R x.1) (topQ P [.cell 2 t_strings_asciiSet, .tmp 3] (.tup [k_arr256_bool, .b]) R)) .normal) (thenQ (fun env => getE env strings_makeASCIISet_l3 fun (x : Addr × Unit) => strings_makeASCIISet_2 R x.1) (topQ P [.cell 2 t_strings_asciiSet, .tmp 3] (.tup [k_arr256_bool, .b]) R)))) (mkE2 21 strings_makeASCIISet_l5 strings_makeASCIISet_l6 (i_4, ()) (chars_0, as_2, ())) w :=
  pc_end (T := strings_makeASCIISet_5 c1 R i_4 chars_0 as_2 w) hmix (by kernel_rfl) h
theorem strings_makeASCIISet_4_ok (R : (T_arr256_bool × Bool × Unit) → World → Prop) (i_4 : Int) (chars_0 : Bs) (as_2 : Addr) (w : World) (h : strings_makeASCIISet_4 R i_4 chars_0 as_2 w) : WPC P 21 [] (Code.at strings_makeASCIISet_B [.snd, .fst, .snd]) (thenQ (fun env => getE env strings_makeASCIISet_l3 fun (x : Addr × Unit) => strings_makeASCIISet_2 R x.1) (topQ P [.cell 2 t_strings_asciiSet, .tmp 3] (.tup [k_arr256_bool, .b]) R)) (mkE2 21 strings_makeASCIISet_l5 strings_makeASCIISet_l6 (i_4, ()) (chars_0, as_2, ())) w :=
  pc_loopE (l := strings_makeASCIISet_l5) (l' := strings_makeASCIISet_l6) (body := fun (c1 : (Int × Unit) → (Bs × Addr × Unit) → World → Prop) (s : Int × Unit) => strings_makeASCIISet_5 c1 R s.1 chars_0 as_2) (id := 0) (b := (Code.at strings_makeASCIISet_B [.snd, .fst, .snd, .blk, .blk])) (by kernel_rfl) (fun c1 s w h => strings_makeASCIISet_5_ok c1 R s.1 chars_0 as_2 w h) h
theorem strings_makeASCIISet_3_ok (R : (T_arr256_bool × Bool × Unit) → World → Prop) (chars_0 : Bs) (as_2 : Addr) (w : World) (h : strings_makeASCIISet_3 R chars_0 as_2 w) : WPC P 21 [] (Code.at strings_makeASCIISet_B [.snd, .fst]) (thenQ (fun env => getE env strings_makeASCIISet_l3 fun (x : Addr × Unit) => strings_makeASCIISet_2 R x.1) (topQ P [.cell 2 t_strings_asciiSet, .tmp 3] (.tup [k_arr256_bool, .b]) R)) (mkE 21 strings_makeASCIISet_l4 (chars_0, as_2, ())) w :=
  pc_cut2 (T := strings_makeASCIISet_3 R chars_0 as_2 w) (l := strings_makeASCIISet_l5) (l' := strings_makeASCIISet_l6) (F := fun (x : Int × Unit) (y : Bs × Addr × Unit) => strings_makeASCIISet_4 R x.1 y.1 y.2.1) hmix 1 (mkE_len ..) (by kernel_rfl) (fun x y w h => strings_makeASCIISet_4_ok R x.1 y.1 y.2.1 w h) (by kernel_rfl) h
theorem strings_makeASCIISet_1_ok (R : (T_arr256_bool × Bool × Unit) → World → Prop) (chars_0 : Bs) (as_2 : Addr) (w : World) (h : strings_makeASCIISet_1 R chars_0 as_2 w) : WPC P 21 [] (Code.at strings_makeASCIISet_B [.snd]) (topQ P [.cell 2 t_strings_asciiSet, .tmp 3] (.tup [k_arr256_bool, .b]) R) (mkE 21 strings_makeASCIISet_l2 (chars_0, as_2, ())) w :=
  pc_seq (l := strings_makeASCIISet_l3) (F := fun (x : Addr × Unit) => strings_makeASCIISet_2 R x.1) (a := (Code.at strings_makeASCIISet_B [.snd, .fst])) (b := (Code.at strings_makeASCIISet_B [.snd, .snd])) (by kernel_rfl) (pc_cut (T := (strings_makeASCIISet_3 R chars_0 as_2) w) (l := strings_makeASCIISet_l4) (F := fun (x : Bs × Addr × Unit) => strings_makeASCIISet_3 R x.1 x.2.1) (c := (Code.at strings_makeASCIISet_B [.snd, .fst])) hmix 0 (mkE_len ..) (by kernel_rfl) (fun x w h => strings_makeASCIISet_3_ok R x.1 x.2.1 w h) (by kernel_rfl) h) (fun x w h => strings_makeASCIISet_2_ok R x.1 w h)
theorem strings_makeASCIISet_0_ok (R : (T_arr256_bool × Bool × Unit) → World → Prop) (chars_0 : Bs) (w : World) (h : strings_makeASCIISet_0 R chars_0 w) : WPC P 21 [] (Code.at strings_makeASCIISet_B []) (topQ P [.cell 2 t_strings_asciiSet, .tmp 3] (.tup [k_arr256_bool, .b]) R) (mkE 21 strings_makeASCIISet_l1 (chars_0, ())) w :=
  pc_cut (T := strings_makeASCIISet_0 R chars_0 w) (l := strings_makeASCIISet_l2) (F := fun (x : Bs × Addr × Unit) => strings_makeASCIISet_1 R x.1 x.2.1) hmix 1 (mkE_len ..) (by kernel_rfl) (fun x w h => strings_makeASCIISet_1_ok R x.1 x.2.1 w h) (by kernel_rfl) h
theorem strings_makeASCIISet_call (R : (T_arr256_bool × Bool × Unit) → World → Prop) (chars_0 : Bs) (w : World) (h : strings_makeASCIISet_0 R chars_0 w) : mcall P n_strings_makeASCIISet [(.string ⟨chars_0.toArray⟩)] (.tup [k_arr256_bool, .b]) R w :=
  pc_top (T := (strings_makeASCIISet_0 R chars_0) w) (l := strings_makeASCIISet_l1) (F := fun (x : Bs × Unit) => strings_makeASCIISet_0 R x.1) (n := 21) (c := strings_makeASCIISet_B) Tryz.func111 rfl (by kernel_rfl) (by kernel_rfl) (by kernel_rfl) (fun x w h => strings_makeASCIISet_0_ok R x.1 w h) (by kernel_rfl) h
/- strings.trimLeftASCII -/
noncomputable abbrev strings_trimLeftASCII_B : Code := (Tryz.f112.body).getD .skip
abbrev strings_trimLeftASCII_l1 : Slots := [(0, .s), (1, .p)]
abbrev strings_trimLeftASCII_l2 : Slots := [(0, .s)]
abbrev strings_trimLeftASCII_l3 : Slots := [(1, .p)]
abbrev strings_trimLeftASCII_l4 : Slots := [(0, .s)]
def strings_trimLeftASCII_2 (R : Bs → World → Prop) (s_0 : Bs) : World → Prop :=
 R s_0
def strings_trimLeftASCII_3 (c1 : (Bs × Unit) → (Option Addr × Unit) → World → Prop) (R : Bs → World → Prop) (s_0 : Bs) (as_1 : Option Addr) : World → Prop :=
 mif (decide ((s_0.length : Int) > 0))
 (ixs P t_string s_0 0 fun (x1 : Int) =>
 mcall P n_strings_asciiSet_contains [(.pointer as_1), (.int .u8 x1)] .b fun (x2 : Bool) =>
 mif (!x2)
 (strings_trimLeftASCII_2 R s_0)
 (sls P t_string s_0 (some 1) none fun (x3 : Bs) =>
 c1 (x3, ()) (as_1, ())))
 (strings_trimLeftASCII_2 R s_0)
def strings_trimLeftASCII_1 (R : Bs → World → Prop) (s_0 : Bs) (as_1 : Option Addr) : World → Prop :=
 W.Loop (as_1, ()) (fun (c1 : (Bs × Unit) → (Option Addr × Unit) → World → Prop) (s : Bs × Unit) => strings_trimLeftASCII_3 c1 R s.1 as_1) (s_0, ())
def strings_trimLeftASCII_0 (R : Bs → World → Prop) (s_0 : Bs) (as_1 : Option Addr) : World → Prop :=
 strings_trimLeftASCII_1 R s_0 as_1
theorem strings_trimLeftASCII_2_ok (R : Bs → World → Prop) (s_0 : Bs) (w : World) (h : strings_trimLeftASCII_2 R s_0 w) : WPC P 16 [] (Code.at strings_trimLeftASCII_B [.snd, .snd]) (topQ P [.tmp 4] .s R) (mkE 16 strings_trimLeftASCII_l4 (s_0, ())) w :=
  pc_end (T := strings_trimLeftASCII_2 R s_0 w) hmix (by kernel_rfl) h
theorem strings_trimLeftASCII_3_ok (c1 : (Bs × Unit) → (Option Addr × Unit) → World → Prop) (R : Bs → World → Prop) (s_0 : Bs) (as_1 : Option Addr) (w : World) (h : strings_trimLeftASCII_3 c1 R s_0 as_1 w) : WPC P 16 [] (Code.at strings_trimLeftASCII_B [.snd, .fst, .blk, .blk]) (thenQ (fun env => getE env strings_trimLeftASCII_l2 fun (s : Bs × Unit) => getE env strings_trimLeftASCII_l3 (c1 s)) (blockQ 0 (fun env => getE env strings_trimLeftASCII_l4 fun (x : Bs × Unit) => strings_trimLeftASCII_2 R x.1) (topQ P [.tmp 4] .s R))) (mkE2 16 strings_trimLeftASCII_l2 strings_trimLeftASCII_l3 (s_0, ()) (as_1, ())) w :=
  pc_end (T := strings_trimLeftASCII_3 c1 R s_0 as_1 w) hmix (by kernel_rfl) h
theorem strings_trimLeftASCII_1_ok (R : Bs → World → Prop) (s_0 : Bs) (as_1 : Option Addr) (w : World) (h : strings_trimLeftASCII_1 R s_0 as_1 w) : WPC P 16 [] (Code.at strings_trimLeftASCII_B [.snd]) (topQ P [.tmp 4] .s R) (mkE2 16 strings_trimLeftASCII_l2 strings_trimLeftASCII_l3 (s_0, ()) (as_1, ())) w :=
  pc_loopR (l := strings_trimLeftASCII_l2) (l' := strings_trimLeftASCII_l3) (body := fun (c1 : (Bs × Unit) → (Option Addr × Unit) → World → Prop) (s : Bs × Unit) => strings_trimLeftASCII_3 c1 R s.1 as_1) (lr := strings_trimLeftASCII_l4) (FR := fun (x : Bs × Unit) => strings_trimLeftASCII_2 R x.1) (id := 0) (b := (Code.at strings_trimLeftASCII_B [.snd, .fst, .blk, .blk])) (rest := (Code.at strings_trimLeftASCII_B [.snd, .snd])) (by kernel_rfl) (fun c1 s w h => strings_trimLeftASCII_3_ok c1 R s.1 as_1 w h) (fun x w h => strings_trimLeftASCII_2_ok R x.1 w h) h
theorem strings_trimLeftASCII_0_ok (R : Bs → World → Prop) (s_0 : Bs) (as_1 : Option Addr) (w : World) (h : strings_trimLeftASCII_0 R s_0 as_1 w) : WPC P 16 [] (Code.at strings_trimLeftASCII_B []) (topQ P [.tmp 4] .s R) (mkE 16 strings_trimLeftASCII_l1 (s_0, as_1, ())) w :=
  pc_cut2 (T := strings_trimLeftASCII_0 R s_0 as_1 w) (l := strings_trimLeftASCII_l2) (l' := strings_trimLeftASCII_l3) (F := fun (x : Bs × Unit) (y : Option Addr × Unit) => strings_trimLeftASCII_1 R x.1 y.1) hmix 1 (mkE_len ..) (by kernel_rfl) (fun x y w h => strings_trimLeftASCII_1_ok R x.1 y.1 w h) (by kernel_rfl) h
theorem strings_trimLeftASCII_call (R : Bs → World → Prop) (s_0 : Bs) (as_1 : Option Addr) (w : World) (h : strings_trimLeftASCII_0 R s_0 as_1 w) : mcall P n_strings_trimLeftASCII [(.string ⟨s_0.toArray⟩), (.pointer as_1)] .s R w :=
  pc_top (T := (strings_trimLeftASCII_0 R s_0 as_1) w) (l := strings_trimLeftASCII_l1) (F := fun (x : Bs × Option Addr × Unit) => strings_trimLeftASCII_0 R x.1 x.2.1) (n := 16) (c := strings_trimLeftASCII_B) Tryz.func112 rfl (by kernel_rfl) (by kernel_rfl) (by kernel_rfl) (fun x w h => strings_trimLeftASCII_0_ok R x.1 x.2.1 w h) (by kernel_rfl) h
/- strings.trimRightASCII -/
noncomputable abbrev strings_trimRightASCII_B : Code := (Tryz.f113.body).getD .skip
abbrev strings_trimRightASCII_l1 : Slots := [(0, .s), (1, .p)]
abbrev strings_trimRightASCII_l2 : Slots := [(0, .s)]
abbrev strings_trimRightASCII_l3 : Slots := [(1, .p)]
abbrev strings_trimRightASCII_l4 : Slots := [(0, .s)]
def strings_trimRightASCII_2 (R : Bs → World → Prop) (s_0 : Bs) : World → Prop :=
 R s_0
def strings_trimRightASCII_3 (c1 : (Bs × Unit) → (Option Addr × Unit) → World → Prop) (R : Bs → World → Prop) (s_0 : Bs) (as_1 : Option Addr) : World → Prop :=
 mif (decide ((s_0.length : Int) > 0))
 (ixs P t_string s_0 (w64 ((s_0.length : Int) - 1)) fun (x1 : Int) =>
 mcall P n_strings_asciiSet_contains [(.pointer as_1), (.int .u8 x1)] .b fun (x2 : Bool) =>
 mif (!x2)
 (strings_trimRightASCII_2 R s_0)
 (sls P t_string s_0 none (some (w64 ((s_0.length : Int) - 1))) fun (x3 : Bs) =>
 c1 (x3, ()) (as_1, ())))
 (strings_trimRightASCII_2 R s_0)
def strings_trimRightASCII_1 (R : Bs → World → Prop) (s_0 : Bs) (as_1 : Option Addr) : World → Prop :=
 W.Loop (as_1, ()) (fun (c1 : (Bs × Unit) → (Option Addr × Unit) → World → Prop) (s : Bs × Unit) => strings_trimRightASCII_3 c1 R s.1 as_1) (s_0, ())
def strings_trimRightASCII_0 (R : Bs → World → Prop) (s_0 : Bs) (as_1 : Option Addr) : World → Prop :=
 strings_trimRightASCII_1 R s_0 as_1
theorem strings_trimRightASCII_2_ok (R : Bs → World → Prop) (s_0 : Bs) (w : World) (h : strings_trimRightASCII_2 R s_0 w) : WPC P 22 [] (Code.at strings_trimRightASCII_B [.snd, .snd]) (topQ P [.tmp 4] .s R) (mkE 22 strings_trimRightASCII_l4 (s_0, ())) w :=
  pc_end (T := strings_trimRightASCII_2 R s_0 w) hmix (by kernel_rfl) h
theorem strings_trimRightASCII_3_ok (c1 : (Bs × Unit) → (Option Addr × Unit) → World → Prop) (R : Bs → World → Prop) (s_0 : Bs) (as_1 : Option Addr) (w : World) (h : strings_trimRightASCII_3 c1 R s_0 as_1 w) : WPC P 22 [] (Code.at strings_trimRightASCII_B [.snd, .fst, .blk, .blk]) (thenQ (fun env => getE env strings_trimRightASCII_l2 fun (s : Bs × Unit) => getE env strings_trimRightASCII_l3 (c1 s)) (blockQ 0 (fun env => getE env strings_trimRightASCII_l4 fun (x : Bs × Unit) => strings_trimRightASCII_2 R x.1) (topQ P [.tmp 4] .s R))) (mkE2 22 strings_trimRightASCII_l2 strings_trimRightASCII_l3 (s_0, ()) (as_1, ())) w :=
  pc_end (T := strings_trimRightASCII_3 c1 R s_0 as_1 w) hmix (by kernel_rfl) h
theorem strings_trimRightASCII_1_ok (R : Bs → World → Prop) (s_0 : Bs) (as_1 : Option Addr) (w : World) (h : strings_trimRightASCII_1 R s_0 as_1 w) : WPC P 22 [] (Code.at strings_trimRightASCII_B [.snd]) (topQ P [.tmp 4] .s R) (mkE2 22 strings_trimRightASCII_l2 strings_trimRightASCII_l3 (s_0, ()) (as_1, ())) w :=
  pc_loopR (l := strings_trimRightASCII_l2) (l' := strings_trimRightASCII_l3) (body := fun (c1 : (Bs × Unit) → (Option Addr × Unit) → World → Prop) (s : Bs × Unit) => strings_trimRightASCII_3 c1 R s.1 as_1) (lr := strings_trimRightASCII_l4) (FR := fun (x : Bs × Unit) => strings_trimRightASCII_2 R x.1) (id := 0) (b := (Code.at strings_trimRightASCII_B [.snd, .fst, .blk, .blk])) (rest := (Code.at strings_trimRightASCII_B [.snd, .snd])) (by kernel_rfl) (fun c1 s w h => strings_trimRightASCII_3_ok c1 R s.1 as_1 w h) (fun x w h => strings_trimRightASCII_2_ok R x.1 w h) h
theorem strings_trimRightASCII_0_ok (R : Bs → World → Prop) (s_0 : Bs) (as_1 : Option Addr) (w : World) (h : strings_trimRightASCII_0 R s_0 as_1 w) : WPC P 22 [] (Code.at strings_trimRightASCII_B []) (topQ P [.tmp 4] .s R) (mkE 22 strings_trimRightASCII_l1 (s_0, as_1, ())) w :=
  pc_cut2 (T := strings_trimRightASCII_0 R s_0 as_1 w) (l := strings_trimRightASCII_l2) (l' := strings_trimRightASCII_l3) (F := fun (x : Bs × Unit) (y : Option Addr × Unit) => strings_trimRightASCII_1 R x.1 y.1) hmix 1 (mkE_len ..) (by kernel_rfl) (fun x y w h => strings_trimRightASCII_1_ok R x.1 y.1 w h) (by kernel_rfl) h
theorem strings_trimRightASCII_call (R : Bs → World → Prop) (s_0 : Bs) (as_1 : Option Addr) (w : World) (h : strings_trimRightASCII_0 R s_0 as_1 w) : mcall P n_strings_trimRightASCII [(.string ⟨s_0.toArray⟩), (.pointer as_1)] .s R w :=
  pc_top (T := (strings_trimRightASCII_0 R s_0 as_1) w) (l := strings_trimRightASCII_l1) (F := fun (x : Bs × Option Addr × Unit) => strings_trimRightASCII_0 R x.1 x.2.1) (n := 22) (c := strings_trimRightASCII_B) Tryz.func113 rfl (by kernel_rfl) (by kernel_rfl) (by kernel_rfl) (fun x w h => strings_trimRightASCII_0_ok R x.1 x.2.1 w h) (by kernel_rfl) h
end Go.Proofs.YtegjokkkdkaphaaGreatDoor
