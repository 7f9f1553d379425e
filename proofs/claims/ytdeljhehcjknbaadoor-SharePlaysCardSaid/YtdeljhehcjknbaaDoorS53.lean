/- `alike`, its second loop walked: the carts of each of some people. -/
import Derived.Test.YtdeljhehcjknbaaDoorS51
import Derived.Test.YtdeljhehcjknbaaDoorS34
import Derived.Test.YtdeljhehcjknbaaDoorS22
import Derived.Deep.RegionLaw
import Derived.Deep.RegionHeld3
import Derived.Deep.AppendLies
namespace Go.Proofs.YtdeljhehcjknbaaDoor
open Go.RowKit Go.Maps Go.Sort Go.Lib

set_option maxRecDepth 100000 in
set_option maxHeartbeats 8000000 in
theorem ins_carts (W3 : World) (base z n c12 : Nat) (a12 : Option Addr) (cl : List ByteArray) (pc : ByteArray) (hrow : W3.ownsRow base 9 1 (.slice a12 cl.length c12) cl.length (flatS cl)) (_hz : z < W3.heap.size) (s4 : W3.cell? ⟨z, 0, none⟩ = some (.string pc)) (hn : n ≤ cl.length) (hcl : cl.length ≤ 500) (u0 u1 u2 u3 u4 u5 u6 u7 u8 u9 u10 u11 u13 u15 u17 u18 u19 u20 u21 u22 u23 u24 u25 u26 u27 u28 u29 u30 u31 u32 u33 u34 u35 u36 u37 u38 u39 u40 u41 u42 u43 u44 u45 u46 u47 u48 u49 u50 u51 u52 u53 u54 u55 u56 u57 u58 u59 u60 u61 u62 u63 u64 u65 u66 u67 u68 u69 u70 u71 u72 u73 u74 u75 u76 u77 u78 u79 u80 u81 u82 u83 u84 u85 u86 u87 u88 u89 u90 u91 u92 u93 u94 u95 u96 u97 u98 u99 u100 u101 u102 u103 u104 u105 u106 u107 u108 u109 u110 u111 u112 u113 u114 u115 u116 u117 u118 u119 u120 u121 u122 u123 u124 u125 u126 u127 u128 u129 u130 u131 u132 u133 u134 u135 u136 u137 u138 u139 u140 u141 u142 u143 u144 u145 u146 u147 u148 u149 u150 u151 u152 u153 u154 u155 u156 u157 u158 u159 u160 u161 u162 : Value)
    (R : Act → World → Prop) (hQ : ∀ (u12x u17x u127x u128x u129x u130x u131x u132x u133x u134x u135x u136x u137x u138x u139x : Value) (wx : World), wx.ownsRow W3.heap.size 9 1 u12x (n + (1 + (cl.length - n))) (flatS (cl.take n) ++ ([.string pc] ++ flatS (cl.drop n))) → Below W3.heap.size W3 wx → R { tmps := #[u0, u1, u2, u3, u4, u5, u6, u7, u8, u9, u10, u11, u12x, u13, .pointer (some ⟨z, 0, none⟩), u15, .int .i64 n, u17x, u18, u19, u20, u21, u22, u23, u24, u25, u26, u27, u28, u29, u30, u31, u32, u33, u34, u35, u36, u37, u38, u39, u40, u41, u42, u43, u44, u45, u46, u47, u48, u49, u50, u51, u52, u53, u54, u55, u56, u57, u58, u59, u60, u61, u62, u63, u64, u65, u66, u67, u68, u69, u70, u71, u72, u73, u74, u75, u76, u77, u78, u79, u80, u81, u82, u83, u84, u85, u86, u87, u88, u89, u90, u91, u92, u93, u94, u95, u96, u97, u98, u99, u100, u101, u102, u103, u104, u105, u106, u107, u108, u109, u110, u111, u112, u113, u114, u115, u116, u117, u118, u119, u120, u121, u122, u123, u124, u125, u126, u127x, u128x, u129x, u130x, u131x, u132x, u133x, u134x, u135x, u136x, u137x, u138x, u139x, u140, u141, u142, u143, u144, u145, u146, u147, u148, u149, u150, u151, u152, u153, u154, u155, u156, u157, u158, u159, u160, u161, u162], defers := [] } wx) :
    (codeAt [1,1,0, 1,0,0, 1,0,0, 1,0, 1,0,0, 1,0,0, 1,1,1, 1,1,0,1,1] (Tryd.f24.body.getD .skip)).wp Tryd.prog (NQ R) { tmps := #[u0, u1, u2, u3, u4, u5, u6, u7, u8, u9, u10, u11, .slice a12 cl.length c12, u13, .pointer (some ⟨z, 0, none⟩), u15, .int .i64 n, u17, u18, u19, u20, u21, u22, u23, u24, u25, u26, u27, u28, u29, u30, u31, u32, u33, u34, u35, u36, u37, u38, u39, u40, u41, u42, u43, u44, u45, u46, u47, u48, u49, u50, u51, u52, u53, u54, u55, u56, u57, u58, u59, u60, u61, u62, u63, u64, u65, u66, u67, u68, u69, u70, u71, u72, u73, u74, u75, u76, u77, u78, u79, u80, u81, u82, u83, u84, u85, u86, u87, u88, u89, u90, u91, u92, u93, u94, u95, u96, u97, u98, u99, u100, u101, u102, u103, u104, u105, u106, u107, u108, u109, u110, u111, u112, u113, u114, u115, u116, u117, u118, u119, u120, u121, u122, u123, u124, u125, u126, u127, u128, u129, u130, u131, u132, u133, u134, u135, u136, u137, u138, u139, u140, u141, u142, u143, u144, u145, u146, u147, u148, u149, u150, u151, u152, u153, u154, u155, u156, u157, u158, u159, u160, u161, u162], defers := [] } W3 := by
  simp only [codeAt, codeL, codeR, Tryd.f24, Option.getD_some]
  obtain ⟨i9, hi9, hz0, hz1, hz2⟩ := info_parts Tryd_info9
  have HI := Lib.hid (And.intro hi9 (And.intro hz0 (And.intro hz1 hz2)))
  clear hi9 hz0 hz1 hz2
  have HQ := Lib.hid hQ
  have HR3 := Lib.hid hrow
  have hn0 : (0 : Int) ≤ n := by omega
  rcases hrow.2 with ⟨hv, h0⟩ | ⟨g, cap, cur, hv, hgb, hgc, hcc, -⟩
  · injection hv with ea eb ec
    subst ea ec
    obtain rfl : cl = [] := List.eq_nil_of_length_eq_zero h0
    obtain rfl : n = 0 := by simpa using hn
    clear h0 eb hcl hn hrow hQ
    go_upto_region 29 with fail
    go_cut [17] from 127 to 133 (fun v17 wx => wx.ownsRow W3.heap.size 9 1 v17 (1 + 0) ([.string pc] ++ []) ∧ Below W3.heap.size W3 wx)
    case first =>
      first | go_region_law (first | (refine step_append_src rfl _ _ 43 rfl W3.heap.size 9 i9 (.string ⟨#[]⟩) 1 16 Tryd.underlying43 HI.out.1 HI.out.2.1 HI.out.2.2.1 HI.out.2.2.2 rfl (by decide) (.slice (some ⟨W3.heap.size, 0, none⟩) 1 1) 1 [.string pc] rfl (World.ownsRow_lit W3 #[.string pc] 1 (Nat.le_refl _) (by unfold maxLen; omega) rfl) _ _ _ rfl (Or.inl ⟨rfl, rfl, rfl⟩) (by first | rfl | (rw [flatS_len, List.length_drop]; omega)) (by first | exact flatS_one _ | (intro u hu; cases hu)) (by unfold maxLen; omega) (by omega) (by simp) ?_; intro v4 w4 hown4 hgr4 _; have hb4 : Below W3.heap.size W3 w4 := (((Below.refl _ _).alloc (Nat.le_refl _) _).drew).grown hgr4 (by simp) (by simp [Value.ownBlock]))) | fail
      all_goals
        go_wp2
        go_meet
        case rel => exact ⟨hown4, hb4⟩
    case rest =>
      obtain ⟨hown4, hb4⟩ := hcut
      obtain ⟨a4, c4, rfl⟩ := owns_slice hown4
      have h44 : SrcIs wc (.slice none 0 0) 0 [] := Or.inl ⟨rfl, rfl, rfl⟩
      go_wp2_with (first | (at_builtin; refine wpList_append_src rfl _ _ 43 rfl W3.heap.size 9 i9 (.string ⟨#[]⟩) 1 16 Tryd.underlying43 HI.out.1 HI.out.2.1 HI.out.2.2.1 HI.out.2.2.2 rfl (by decide) v5 (0 + 0) ([] ++ []) rfl hown5 _ _ _ rfl (row_src hrow45) hrow45.1 (by intro u hu; rcases List.mem_append.1 hu with hu | hu; (simp at hu; subst hu; rfl); (first | exact flatS_one _ u hu | cases hu)) (by unfold maxLen; omega) (by omega) (Nat.le_trans hb4.size hgr5.size) ?_; intro v6 w6 hown6 hgr6 _; have hb6 : Below W3.heap.size W3 w6 := hb5.grown hgr6 hb5.size (own_blk hown5)) | (at_builtin; refine wpList_append_src rfl _ _ 43 rfl W3.heap.size 9 i9 (.string ⟨#[]⟩) 1 16 Tryd.underlying43 HI.out.1 HI.out.2.1 HI.out.2.2.1 HI.out.2.2.2 rfl (by decide) (.slice none 0 0) 0 [] rfl (World.ownsRow_nil _ _ _ _) _ _ _ rfl h44 (rfl) (by intro u hu; cases hu) (by unfold maxLen; omega) (by omega) hb4.size ?_; intro v5 w5 hown5 hgr5 _; have hb5 : Below W3.heap.size W3 w5 := hb4.grown hgr5 hb4.size (by simp [Value.ownBlock]); have hrow45 := hown4.kept hgr5 (Classical.em _)))
      exact HQ.out _ _ _ _ _ _ _ _ _ _ _ _ _ _ _ _ hown6 hb6
  · injection hv with ea eb ec
    subst ea ec
    have hcn : (n : Int) ≤ c12 := by omega
    have hnl : (n : Int) ≤ cl.length := by omega
    have HSD := Lib.hid (fun (wx : World) (h : Below W3.heap.size W3 wx) ad cx had => src_drop (n := n) (row_below HR3.out h) ad cx had)
    have HSTK := Lib.hid (fun (wx : World) (h : Below W3.heap.size W3 wx) cx => src_take (row_below HR3.out h) hn cx)
    clear eb hgb hgc hrow hQ
    by_cases hce : c12 = n
    · obtain rfl : n = cl.length := by omega
      subst hce
      have HS0 : Hid (∀ wx ad cx, SrcIs wx (.slice (some ad) 0 cx) 0 []) := Lib.hid (fun wx ad cx => Or.inr ⟨_, _, rfl, fun j u h => by simp at h⟩)
      have HQ : Hid _ := Lib.hid (fun a b c d e f g h i j k l m n o wx (hr : wx.ownsRow W3.heap.size 9 1 a (cl.length + (1 + 0)) (flatS (cl.take cl.length) ++ ([.string pc] ++ []))) => HQ.out a b c d e f g h i j k l m n o wx (by rw [Nat.sub_self, List.drop_length]; exact hr))
      go_upto_region 29 with fail
      go_cut [17] from 127 to 133 (fun v17 wx => wx.ownsRow W3.heap.size 9 1 v17 (1 + 0) ([.string pc] ++ []) ∧ Below W3.heap.size W3 wx)
      case first =>
        first | go_region_law (first | (refine step_append_src rfl _ _ 43 rfl W3.heap.size 9 i9 (.string ⟨#[]⟩) 1 16 Tryd.underlying43 HI.out.1 HI.out.2.1 HI.out.2.2.1 HI.out.2.2.2 rfl (by decide) (.slice (some ⟨W3.heap.size, 0, none⟩) 1 1) 1 [.string pc] rfl (World.ownsRow_lit W3 #[.string pc] 1 (Nat.le_refl _) (by unfold maxLen; omega) rfl) _ _ _ rfl (HS0.out _ _ _) (by first | rfl | (rw [flatS_len, List.length_drop]; omega)) (by first | exact flatS_one _ | (intro u hu; cases hu)) (by unfold maxLen; omega) (by omega) (by simp) ?_; intro v4 w4 hown4 hgr4 _; have hb4 : Below W3.heap.size W3 w4 := (((Below.refl _ _).alloc (Nat.le_refl _) _).drew).grown hgr4 (by simp) (by simp [Value.ownBlock]))) | fail
        all_goals
          go_wp2
          go_meet
          case rel => exact ⟨hown4, hb4⟩
      case rest =>
        obtain ⟨hown4, hb4⟩ := hcut
        obtain ⟨a4, c4, rfl⟩ := owns_slice hown4
        have h44 := HSTK.out wc hb4
        go_wp2_with (first | (at_builtin; refine wpList_append_src rfl _ _ 43 rfl W3.heap.size 9 i9 (.string ⟨#[]⟩) 1 16 Tryd.underlying43 HI.out.1 HI.out.2.1 HI.out.2.2.1 HI.out.2.2.2 rfl (by decide) v5 (0 + cl.length) ([] ++ flatS (cl.take cl.length)) rfl hown5 _ _ _ rfl (row_src hrow45) hrow45.1 (by intro u hu; rcases List.mem_append.1 hu with hu | hu; (simp at hu; subst hu; rfl); (first | exact flatS_one _ u hu | cases hu)) (by unfold maxLen; omega) (by omega) (Nat.le_trans hb4.size hgr5.size) ?_; intro v6 w6 hown6 hgr6 _; have hb6 : Below W3.heap.size W3 w6 := hb5.grown hgr6 hb5.size (own_blk hown5)) | (at_builtin; refine wpList_append_src rfl _ _ 43 rfl W3.heap.size 9 i9 (.string ⟨#[]⟩) 1 16 Tryd.underlying43 HI.out.1 HI.out.2.1 HI.out.2.2.1 HI.out.2.2.2 rfl (by decide) (.slice none 0 0) 0 [] rfl (World.ownsRow_nil _ _ _ _) _ _ _ rfl (h44 _) (by rw [flatS_len, List.length_take]; omega) (flatS_one _) (by unfold maxLen; omega) (by omega) hb4.size ?_; intro v5 w5 hown5 hgr5 _; have hb5 : Below W3.heap.size W3 w5 := hb4.grown hgr5 hb4.size (by simp [Value.ownBlock]); have hrow45 := hown4.kept hgr5 (Classical.em _)))
        rw [Nat.zero_add, List.nil_append] at hown6
        exact HQ.out _ _ _ _ _ _ _ _ _ _ _ _ _ _ _ _ hown6 hb6
    · go_upto_region 29 with fail
      go_cut [17] from 127 to 133 (fun v17 wx => wx.ownsRow W3.heap.size 9 1 v17 (1 + (cl.length - n)) ([.string pc] ++ flatS (cl.drop n)) ∧ Below W3.heap.size W3 wx)
      case first =>
        first | go_region_law (first | (refine step_append_src rfl _ _ 43 rfl W3.heap.size 9 i9 (.string ⟨#[]⟩) 1 16 Tryd.underlying43 HI.out.1 HI.out.2.1 HI.out.2.2.1 HI.out.2.2.2 rfl (by decide) (.slice (some ⟨W3.heap.size, 0, none⟩) 1 1) 1 [.string pc] rfl (World.ownsRow_lit W3 #[.string pc] 1 (Nat.le_refl _) (by unfold maxLen; omega) rfl) _ _ _ rfl (HSD.out _ (((Below.refl _ _).alloc (Nat.le_refl _) _).drew) _ _ (Or.inl rfl)) (by first | rfl | (rw [flatS_len, List.length_drop]; omega)) (by first | exact flatS_one _ | (intro u hu; cases hu)) (by unfold maxLen; omega) (by omega) (by simp) ?_; intro v4 w4 hown4 hgr4 _; have hb4 : Below W3.heap.size W3 w4 := (((Below.refl _ _).alloc (Nat.le_refl _) _).drew).grown hgr4 (by simp) (by simp [Value.ownBlock]))) | fail
        all_goals
          go_wp2
          go_meet
          case rel => exact ⟨hown4, hb4⟩
      case rest =>
        obtain ⟨hown4, hb4⟩ := hcut
        obtain ⟨a4, c4, rfl⟩ := owns_slice hown4
        have h44 := HSTK.out wc hb4
        go_wp2_with (first | (at_builtin; refine wpList_append_src rfl _ _ 43 rfl W3.heap.size 9 i9 (.string ⟨#[]⟩) 1 16 Tryd.underlying43 HI.out.1 HI.out.2.1 HI.out.2.2.1 HI.out.2.2.2 rfl (by decide) v5 (0 + n) ([] ++ flatS (cl.take n)) rfl hown5 _ _ _ rfl (row_src hrow45) hrow45.1 (by intro u hu; rcases List.mem_append.1 hu with hu | hu; (simp at hu; subst hu; rfl); (first | exact flatS_one _ u hu | cases hu)) (by unfold maxLen; omega) (by omega) (Nat.le_trans hb4.size hgr5.size) ?_; intro v6 w6 hown6 hgr6 _; have hb6 : Below W3.heap.size W3 w6 := hb5.grown hgr6 hb5.size (own_blk hown5)) | (at_builtin; refine wpList_append_src rfl _ _ 43 rfl W3.heap.size 9 i9 (.string ⟨#[]⟩) 1 16 Tryd.underlying43 HI.out.1 HI.out.2.1 HI.out.2.2.1 HI.out.2.2.2 rfl (by decide) (.slice none 0 0) 0 [] rfl (World.ownsRow_nil _ _ _ _) _ _ _ rfl (h44 _) (by rw [flatS_len, List.length_take]; omega) (flatS_one _) (by unfold maxLen; omega) (by omega) hb4.size ?_; intro v5 w5 hown5 hgr5 _; have hb5 : Below W3.heap.size W3 w5 := hb4.grown hgr5 hb4.size (by simp [Value.ownBlock]); have hrow45 := hown4.kept hgr5 (Classical.em _)))
        rw [Nat.zero_add, List.nil_append] at hown6
        exact HQ.out _ _ _ _ _ _ _ _ _ _ _ _ _ _ _ _ hown6 hb6
end Go.Proofs.YtdeljhehcjknbaaDoor
namespace Go.Proofs.YtdeljhehcjknbaaDoor
open Go.RowKit Go.Maps Go.Sort Go.Lib

set_option maxRecDepth 100000 in
set_option maxHeartbeats 8000000 in
theorem alike_carts (A : List APg) (pl : List ByteArray) (bB bM : Nat) (v2 : Value) (w : World) (hL : Looks w bB bM A) (hP : Rd w v2 1 pl.length (flatS pl)) (u3 u4 u5 u6 u7 u8 u9 u10 u11 u12 u13 u14 u15 u16 u17 u18 u19 u20 u21 u22 u23 u24 u25 u26 u27 u28 u29 u30 u31 u32 u33 u34 u35 u36 u37 u38 u39 u40 u41 u42 u43 u44 u45 u46 u47 u48 u49 u50 u51 u52 u53 u54 u55 u56 u57 u58 u59 u60 u61 u62 u63 u64 u65 u66 u67 u68 u69 u70 u71 u72 u73 u74 u75 u76 u77 u78 u79 u80 u81 u82 u83 u84 u85 u86 u87 u88 u89 u90 u91 u92 u93 u94 u95 u96 u97 u98 u99 u100 u101 u102 u103 u104 u105 u106 u107 u108 u109 u110 u111 u112 u113 u114 u115 u116 u117 u118 u119 u120 u121 u122 u123 u124 u125 u126 u127 u128 u129 u130 u131 u132 u133 u134 u135 u136 u137 u138 u139 u140 u141 u142 u143 u144 u145 u146 u147 u148 u149 u150 u151 u152 u153 u154 u155 u156 u157 u158 u159 u160 u161 u162 : Value)
    (R : Act → World → Prop) (hQ : ∀ (u6x u11x u12x u13x u14x u15x u16x u17x u70x u71x u72x u73x u74x u75x u76x u77x u78x u79x u80x u81x u82x u83x u84x u85x u86x u87x u88x u89x u90x u91x u92x u93x u94x u95x u96x u97x u98x u99x u100x u101x u102x u103x u104x u105x u106x u107x u108x u109x u110x u111x u112x u113x u114x u115x u116x u117x u118x u119x u120x u121x u122x u123x u124x u125x u126x u127x u128x u129x u130x u131x u132x u133x u134x u135x u136x u137x u138x u139x u140x u141x u142x u143x u144x u145x u146x u147x u148x : Value) (wx : World), Below w.heap.size w wx → R { tmps := #[.pointer (some ⟨bB, 0, none⟩), .pointer (some ⟨bM, 0, none⟩), v2, u3, u4, u5, u6x, u7, u8, u9, u10, u11x, u12x, u13x, u14x, u15x, u16x, u17x, u18, u19, u20, u21, u22, u23, u24, u25, u26, u27, u28, u29, u30, u31, u32, u33, u34, u35, u36, u37, u38, u39, u40, u41, u42, u43, u44, u45, u46, u47, u48, u49, u50, u51, u52, u53, u54, u55, u56, u57, u58, u59, u60, u61, u62, u63, u64, u65, u66, u67, u68, u69, u70x, u71x, u72x, u73x, u74x, u75x, u76x, u77x, u78x, u79x, u80x, u81x, u82x, u83x, u84x, u85x, u86x, u87x, u88x, u89x, u90x, u91x, u92x, u93x, u94x, u95x, u96x, u97x, u98x, u99x, u100x, u101x, u102x, u103x, u104x, u105x, u106x, u107x, u108x, u109x, u110x, u111x, u112x, u113x, u114x, u115x, u116x, u117x, u118x, u119x, u120x, u121x, u122x, u123x, u124x, u125x, u126x, u127x, u128x, u129x, u130x, u131x, u132x, u133x, u134x, u135x, u136x, u137x, u138x, u139x, u140x, u141x, u142x, u143x, u144x, u145x, u146x, u147x, u148x, u149, u150, u151, u152, u153, u154, u155, u156, u157, u158, u159, u160, u161, u162], defers := [] } wx) :
    (codeAt [1, 1, 0] (Tryd.f24.body.getD .skip)).wp Tryd.prog (NQ R) { tmps := #[.pointer (some ⟨bB, 0, none⟩), .pointer (some ⟨bM, 0, none⟩), v2, u3, u4, u5, u6, u7, u8, u9, u10, u11, u12, u13, u14, u15, u16, u17, u18, u19, u20, u21, u22, u23, u24, u25, u26, u27, u28, u29, u30, u31, u32, u33, u34, u35, u36, u37, u38, u39, u40, u41, u42, u43, u44, u45, u46, u47, u48, u49, u50, u51, u52, u53, u54, u55, u56, u57, u58, u59, u60, u61, u62, u63, u64, u65, u66, u67, u68, u69, u70, u71, u72, u73, u74, u75, u76, u77, u78, u79, u80, u81, u82, u83, u84, u85, u86, u87, u88, u89, u90, u91, u92, u93, u94, u95, u96, u97, u98, u99, u100, u101, u102, u103, u104, u105, u106, u107, u108, u109, u110, u111, u112, u113, u114, u115, u116, u117, u118, u119, u120, u121, u122, u123, u124, u125, u126, u127, u128, u129, u130, u131, u132, u133, u134, u135, u136, u137, u138, u139, u140, u141, u142, u143, u144, u145, u146, u147, u148, u149, u150, u151, u152, u153, u154, u155, u156, u157, u158, u159, u160, u161, u162], defers := [] } w := by
  simp only [codeAt, codeL, codeR, Tryd.f24, Option.getD_some]
  obtain ⟨av, cv, rfl, -, hpm, hpc⟩ := hP
  unfold maxLen at hpm
  have HL := Lib.hid hL
  have HPC := Lib.hid hpc
  obtain ⟨i9, hi9, hz0, hz1, hz2⟩ := info_parts Tryd_info9
  have HI := Lib.hid (And.intro hi9 (And.intro hz0 (And.intro hz1 hz2)))
  clear hL hpc hi9 hz0 hz1 hz2
  go_wp2_with fail
  go_loopw [11] (fun i wr => ∃ k : Nat, k ≤ pl.length ∧ i = .int .i64 k ∧ Below w.heap.size w wr) (fun i _ => pl.length - (intOf i).toNat)
  case atStart => exact ⟨0, Nat.zero_le _, rfl, Below.refl _ _⟩
  case round =>
    obtain ⟨k, hk, rfl, hB⟩ := hrel
    obtain ⟨wo, rfl⟩ : ∃ wo : World, wo = wr := ⟨_, rfl⟩
    have HB := Lib.hid hB
    have HLW := Lib.hid (HL.out.below hB)
    by_cases hlt : k < pl.length
    · obtain ⟨gp, rfl, hgp, hdp⟩ := HPC.out (by omega)
      have hgw : gp < wo.heap.size := Nat.lt_of_lt_of_le hgp hB.size
      have p0 : wo.cell? ⟨gp, k, none⟩ = some (.string pl[k]) := by
        rw [hB.cell (p := ⟨gp, k, none⟩) hgp]; exact hdp _ _ (flatS_get pl k hlt)
      have hk0 : (0 : Int) ≤ k := by omega
      have hk1 : (k : Int) < pl.length := by omega
      clear hdp hB
      generalize pl[k] = who at *
      obtain ⟨am, cm, c0, hbm, hpg⟩ := HLW.out.pages
      have hAl := HLW.out.len
      have HPG := Lib.hid hpg
      clear hpg
      go_wp2_with fail
      go_loopw [12, 13] (fun v i wr => ∃ (kk : Nat) (cl : List ByteArray), kk ≤ A.length ∧ i = .int .i64 kk ∧ wr.ownsRow wo.heap.size 9 1 v cl.length (flatS cl) ∧ CL A who kk cl ∧ Below wo.heap.size wo wr) (fun _ i _ => A.length - (intOf i).toNat)
      case atStart => exact ⟨0, [], Nat.zero_le _, rfl, World.ownsRow_nil _ _ _ _, CL.start A who, Below.refl _ _⟩
      case round =>
        obtain ⟨kk, cl, hkk, rfl, hrow, hCL, hB2⟩ := hrel
        obtain ⟨wi, rfl⟩ : ∃ wi : World, wi = wr := ⟨_, rfl⟩
        have hclk := hCL.2.1
        obtain ⟨a12, c12, rfl⟩ := owns_slice hrow
        have c1 : wi.cell? ⟨bM, 0, none⟩ = some (.slice am A.length cm) := by rw [hB2.cell (p := ⟨_, _, _⟩) hbm]; exact c0
        have p1 : wi.cell? ⟨gp, k, none⟩ = some (.string who) := by rw [hB2.cell (p := ⟨_, _, _⟩) hgw]; exact p0
        have HB2 := Lib.hid hB2
        have HCL := Lib.hid hCL
        have HROW := Lib.hid hrow
        clear hrow hCL
        by_cases hk2 : kk < A.length
        · obtain ⟨gA, rfl, hgA, hpgs⟩ := HPG.out (by intro e; rw [e] at hk2; simp at hk2)
          obtain ⟨mv, q0, q1, q2, ⟨am2, cm2, rfl, -, -, -⟩, -⟩ := hpgs kk hk2
          generalize (membersA A A[kk].cart).length = ml at *
          have r0 : wi.cell? ⟨gA, kk * 3, none⟩ = some (.string A[kk].cart) := by rw [hB2.cell (p := ⟨_, _, _⟩) hgA]; exact q0
          have r1 : wi.cell? ⟨gA, kk * 3 + 1, none⟩ = some (.string A[kk].owner) := by rw [hB2.cell (p := ⟨_, _, _⟩) hgA]; exact q1
          have r2 : wi.cell? ⟨gA, kk * 3 + 2, none⟩ = some (.slice am2 ml cm2) := by rw [hB2.cell (p := ⟨_, _, _⟩) hgA]; exact q2
          have hq0 : (0 : Int) ≤ kk := by omega
          have hq1 : (kk : Int) < A.length := by omega
          have HSKIP := Lib.hid (fun hr => HCL.out.skip hk2 hr)
          have HINS := Lib.hid (fun hr n hn h1 h2 => HCL.out.ins (n := n) HLW.out.nodup hk2 hr hn h1 h2)
          have hbm2 : bM < wi.heap.size := Nat.lt_of_lt_of_le hbm hB2.size
          have hgp2 : gp < wi.heap.size := Nat.lt_of_lt_of_le hgw hB2.size
          have HBz := hB2.size
          clear hpgs q0 q1 q2 hB2
          generalize A[kk].cart = pc at *
          generalize A[kk].owner = po at *
          go_upto_region 22 with fail
          obtain ⟨W1, hW1⟩ : ∃ W1, W1 = wi.alloc (.cells #[.string pc, .string po, .slice am2 ml cm2] 66) := ⟨_, rfl⟩
          have hb1 : Below wi.heap.size wi W1 := by rw [hW1]; exact (Below.refl _ _).alloc (Nat.le_refl _) _
          have hz1 : W1.heap.size = wi.heap.size + 1 := by rw [hW1]; simp
          have s0 : W1.cell? ⟨wi.heap.size, 0, none⟩ = some (.string pc) := by rw [hW1]; go_simp
          rw [← hW1]
          have HB1 := Lib.hid (HB2.out.trans (hb1.mono HBz))
          have HROW1 := Lib.hid (show W1.ownsRow wo.heap.size 9 1 (.slice a12 cl.length c12) cl.length (flatS cl) from by rw [hW1]; exact HROW.out.alloc _)
          have p2 : W1.cell? ⟨gp, k, none⟩ = some (.string who) := by rw [hb1.cell (p := ⟨_, _, _⟩) hgp2]; exact p1
          have hgp3 : gp < W1.heap.size := by omega
          have hsz3 : wi.heap.size < W1.heap.size := by omega
          have HK : Hid (∀ wx, Below W1.heap.size W1 wx → (wx.cell? ⟨gp, k, none⟩ = some (.string who) ∧ wx.cell? ⟨wi.heap.size, 0, none⟩ = some (.string pc) ∧ Below W1.heap.size W1 wx)) := Lib.hid (fun wx h => ⟨by rw [h.cell (p := ⟨gp, k, none⟩) hgp3]; exact p2, by rw [h.cell (p := ⟨wi.heap.size, 0, none⟩) hsz3]; exact s0, h⟩)
          have HLX := Lib.hid (fun wx (h : Below W1.heap.size W1 wx) => HLW.out.below (HB1.out.trans (h.mono HB1.out.size)))
          have HT := Lib.hid (fun (wa wb : World) (h : Below W1.heap.size W1 wa) (h2 : Below wa.heap.size wa wb) => h.trans (h2.mono h.size))
          have HRM := Lib.hid (fun wx (h : Below W1.heap.size W1 wx) => HLW.out.rightsM wx (HB1.out.trans (h.mono HB1.out.size)) who pc)
          have HRB := Lib.hid (fun wx (h : Below W1.heap.size W1 wx) => HLW.out.rights wx (HB1.out.trans (h.mono HB1.out.size)) who pc)
          have HRX := Lib.hid (fun wx (h : Below W1.heap.size W1 wx) => row_below HROW1.out h)
          have HBX := Lib.hid (fun wx (h : Below W1.heap.size W1 wx) => HB1.out.trans (h.mono HB1.out.size))
          clear r0 r1 r2 hW1 c1 p1 hb1 s0 p2
          obtain ⟨p2, s0, hbr⟩ := HK.out _ (Below.refl _ _)
          go_cut [15] from 92 to 99 (fun r wx => r = .int .i64 (rightsA A who pc) ∧ Below W1.heap.size W1 wx)
          case first =>
            go_region_held3 (fun wx => wx.cell? ⟨gp, k, none⟩ = some (.string who) ∧ wx.cell? ⟨wi.heap.size, 0, none⟩ = some (.string pc) ∧ Below W1.heap.size W1 wx)
              (first | exact HK.out _ ((Below.refl _ _).drew) | assumption | exact HK.out _ hbk)
              ((go_at_call 28; refine (HRM.out _ ((Below.refl _ _).drew)).mono ?_; rintro e w7 ⟨rfl, hbb⟩; have hbk := HT.out _ _ ((Below.refl _ _).drew) hbb))
            go_wp2
            go_meet
            case rel => exact ⟨rfl, hbk⟩
          case rest =>
            obtain ⟨rfl, hbc⟩ := hcut
            clear p2 s0 hbr
            obtain ⟨p2, s0, hbr⟩ := HK.out _ hbc
            have HRBN := Lib.hid (fun n => HRB.out (wc.drewN n) ⟨hbc.os, hbc.tape, hbc.output, hbc.size, hbc.block⟩)
            have HKN := Lib.hid (fun n => HK.out (wc.drewN n) ⟨hbc.os, hbc.tape, hbc.output, hbc.size, hbc.block⟩)
            clear hbc hbr HRM
            generalize rightsA A who pc = r at *
            go_wp2_with fail
            go_quiet ((go_at_call 20; exact Calls.quiet_of_same (HRBN.out _)))
            by_cases hr : r = 0
            · subst hr
              go_wp2_with fail
              have HX := (HKN.out nq).2.2
              go_roundw
              case rel => exact ⟨kk + 1, cl, by omega, by go_num, HRX.out _ HX, HSKIP.out rfl, HBX.out _ HX⟩
              case measure => simp [intOf]; omega
            · have hrn : (r != 0) = true := by simpa using hr
              have HINS := Lib.hid (HINS.out hr)
              obtain ⟨W2, hW2⟩ : ∃ W2, W2 = wc.drewN nq := ⟨_, rfl⟩
              obtain ⟨p3, s3, hb3⟩ := HKN.out nq
              rw [← hW2] at p3 s3 hb3
              rw [← hW2]
              have HX := Lib.hid hb3
              have HROW2 := Lib.hid (HRX.out _ hb3)
              have hsz4 : wi.heap.size < W2.heap.size := Nat.lt_of_lt_of_le hsz3 hb3.size
              have hbz4 : wo.heap.size ≤ W2.heap.size := (HBX.out _ hb3).size |> fun h => h
              clear hW2 hb3 hr HRBN HKN p2 s0 p3
              go_wp2_with fail
              go_loopw [16] (fun i wr => ∃ n : Nat, n ≤ cl.length ∧ i = .int .i64 n ∧ (∀ j (_ : j < n) (h : j < cl.length), ltK cl[j] pc) ∧ ∃ d, wr = W2.drewN d) (fun i _ => cl.length - (intOf i).toNat)
              case atStart => exact ⟨0, Nat.zero_le _, rfl, fun j hj => by omega, 0, rfl⟩
              case round =>
                obtain ⟨n, hn, rfl, hlo, d, rfl⟩ := hrel
                have HLO := Lib.hid hlo
                clear hlo
                have hn0 : (0 : Int) ≤ n := by omega
                by_cases hgo : ∃ h : n < cl.length, ltK cl[n] pc
                · obtain ⟨hnl, hlt5⟩ := hgo
                  obtain ⟨g, c5, hv, -, -⟩ := HROW2.out.form (by omega)
                  cases hv
                  have e1 : W2.cell? ⟨g, n, none⟩ = some (.string cl[n]) := by rw [HROW2.out.cellAt n (by omega)]; exact flatS_get cl n hnl
                  have hbl : Op.bytesLess cl[n].toList pc.toList = true := by rw [bytesLess_eq, bytes_toList, bytes_toList]; exact decide_eq_true hlt5
                  have HNX : Hid (∀ j (_ : j < n + 1) (h : j < cl.length), ltK cl[j] pc) := Lib.hid (fun j hj h => by
                    by_cases e : j = n
                    · subst e; exact hlt5
                    · exact HLO.out j (by omega) h)
                  have hn1 : (n : Int) < cl.length := by omega
                  clear hlt5
                  generalize cl[n] = s at *
                  go_wp2_with fail
                  go_quiet (fail)
                  go_wp2_with fail
                  go_roundw
                  case rel => exact ⟨n + 1, by omega, by go_num, HNX.out, d + nq, rfl⟩
                  case measure => simp [intOf]; omega
                · have HSTOP := Lib.hid (fun (h : n < cl.length) (h2 : ltK cl[n] pc) => hgo ⟨h, h2⟩)
                  clear hgo
                  have FIN : Hid (∀ w5 v5 n', n' = n + (1 + (cl.length - n)) → w5.ownsRow W2.heap.size 9 1 v5 n' (flatS (cl.take n) ++ ([.string pc] ++ flatS (cl.drop n))) → Below W2.heap.size W2 w5 →
                      ∃ (kk' : Nat) (cl' : List ByteArray), kk' ≤ A.length ∧ Value.int .i64 (kk + 1) = .int .i64 kk' ∧ w5.ownsRow wo.heap.size 9 1 v5 cl'.length (flatS cl') ∧ CL A who kk' cl' ∧ Below wo.heap.size wo w5) := Lib.hid (by
                    intro w5 v5 n' hn' ho h5
                    subst hn'
                    refine ⟨kk + 1, cl.take n ++ (pc :: cl.drop n), by omega, rfl, ?_, HINS.out n hn (fun j hj => HLO.out j hj (by omega)) HSTOP.out, (HBX.out _ HX.out).trans (h5.mono hbz4)⟩
                    have e1 : (cl.take n ++ (pc :: cl.drop n)).length = n + (1 + (cl.length - n)) := by simp; omega
                    have e2 : flatS (cl.take n ++ (pc :: cl.drop n)) = flatS (cl.take n) ++ ([.string pc] ++ flatS (cl.drop n)) := by simp [flatS]
                    rw [e1, e2]
                    exact row_mono ho hbz4)
                  have hcase : n < cl.length ∨ ¬ n < cl.length := Classical.em _
                  rcases hcase with hnl | hnl
                  · obtain ⟨g, c5, hv, -, -⟩ := HROW2.out.form (by omega)
                    cases hv
                    have e1 : W2.cell? ⟨g, n, none⟩ = some (.string cl[n]) := by rw [HROW2.out.cellAt n (by omega)]; exact flatS_get cl n hnl
                    have hbl : Op.bytesLess cl[n].toList pc.toList = false := by rw [bytesLess_eq, bytes_toList, bytes_toList]; exact decide_eq_false (HSTOP.out hnl)
                    have hn1 : (n : Int) < cl.length := by omega
                    generalize cl[n] = s at *
                    go_wp2_with fail
                    go_quiet (fail)
                    iterate 8 (first | go_values | go_skip | go_guarded | go_step | go_upon | go_back | go_simp)
                    refine NQ.to (ins_carts ((W2.drewN d).drewN nq) wo.heap.size wi.heap.size n c12 (some ⟨g, 0, none⟩) cl pc HROW2.out hsz4 s3 hn (by omega) _ _ _ _ _ _ _ _ _ _ _ _ _ _ _ _ _ _ _ _ _ _ _ _ _ _ _ _ _ _ _ _ _ _ _ _ _ _ _ _ _ _ _ _ _ _ _ _ _ _ _ _ _ _ _ _ _ _ _ _ _ _ _ _ _ _ _ _ _ _ _ _ _ _ _ _ _ _ _ _ _ _ _ _ _ _ _ _ _ _ _ _ _ _ _ _ _ _ _ _ _ _ _ _ _ _ _ _ _ _ _ _ _ _ _ _ _ _ _ _ _ _ _ _ _ _ _ _ _ _ _ _ _ _ _ _ _ _ _ _ _ _ _ _ _ _ _ _ _ _ _ _ _ _ _ _ _ _ _ _ _ ?_)
                    intros
                    rename_i wx hr5 hb5
                    have hfin := FIN.out wx _ _ rfl hr5 ⟨hb5.os, hb5.tape, hb5.output, hb5.size, hb5.block⟩
                    go_wp2_with fail
                    go_roundw
                    case rel => exact hfin
                    case measure => simp [intOf]; omega
                  · have hnn : ¬ (n : Int) < cl.length := by omega
                    go_wp2_with fail
                    go_quiet (fail)
                    iterate 8 (first | go_values | go_skip | go_guarded | go_step | go_upon | go_back | go_simp)
                    refine NQ.to (ins_carts ((W2.drewN d).drewN nq) wo.heap.size wi.heap.size n c12 a12 cl pc HROW2.out hsz4 s3 hn (by omega) _ _ _ _ _ _ _ _ _ _ _ _ _ _ _ _ _ _ _ _ _ _ _ _ _ _ _ _ _ _ _ _ _ _ _ _ _ _ _ _ _ _ _ _ _ _ _ _ _ _ _ _ _ _ _ _ _ _ _ _ _ _ _ _ _ _ _ _ _ _ _ _ _ _ _ _ _ _ _ _ _ _ _ _ _ _ _ _ _ _ _ _ _ _ _ _ _ _ _ _ _ _ _ _ _ _ _ _ _ _ _ _ _ _ _ _ _ _ _ _ _ _ _ _ _ _ _ _ _ _ _ _ _ _ _ _ _ _ _ _ _ _ _ _ _ _ _ _ _ _ _ _ _ _ _ _ _ _ _ _ _ ?_)
                    intros
                    rename_i wx hr5 hb5
                    have hfin := FIN.out wx _ _ rfl hr5 ⟨hb5.os, hb5.tape, hb5.output, hb5.size, hb5.block⟩
                    go_wp2_with fail
                    go_roundw
                    case rel => exact hfin
                    case measure => simp [intOf]; omega
        · have hke : kk = A.length := by omega
          subst hke
          obtain rfl : cl = cartsA A who := HCL.out.all HLW.out.nodup
          have HCA := Lib.hid (HLW.out.carts wi HB2.out who)
          have hl5 := HLW.out.cl who
          have HTX := Lib.hid (fun w5 vv (hrow5 : w5.ownsRow wi.heap.size 9 1 vv (cartsA A who).length (flatS (cartsA A who))) (hb5 : Below wi.heap.size wi w5) => show Calls Tryd.prog 25 #[vv, .slice a12 (cartsA A who).length c12] w5 fun e w' => e = .returned (.bool true) ∧ ∃ n, w' = w5.drewN n from
            (textsEq_any _ _ _ _ _ (Rd.of_own hrow5 (by unfold maxLen; omega)) (Rd.of_own (row_below HROW.out hb5) (by unfold maxLen; omega))).mono fun e w' h => ⟨by rw [h.1]; simp, h.2⟩)
          have HBW := Lib.hid (HB.out.trans (HB2.out.mono HB.out.size))
          clear hB2
          go_wp2_with (first | (go_at_call 15; refine HCA.out.mono ?_; rintro e w5 ⟨vv, rfl, hrow5, hb5⟩) | (go_at_call 25; refine (HTX.out w5 vv hrow5 hb5).mono ?_; rintro e w6 ⟨rfl, n6, rfl⟩))
          go_roundw
          case rel => exact ⟨k + 1, by omega, by go_num, HBW.out.trans ((show Below wi.heap.size wi (w5.drewN n6) from ⟨hb5.os, hb5.tape, hb5.output, hb5.size, hb5.block⟩).mono (HBW.out.size))⟩
          case measure => simp [intOf]; omega
    · have hke : k = pl.length := by omega
      subst hke
      go_wp2_with fail
      show R _ _
      apply hQ
      exact hB
end Go.Proofs.YtdeljhehcjknbaaDoor
