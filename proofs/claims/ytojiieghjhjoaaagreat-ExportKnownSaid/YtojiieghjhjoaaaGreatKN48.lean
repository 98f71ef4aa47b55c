/-
  Several texts in one.
-/
import Derived.Test.YtojiieghjhjoaaaGreatKN43
import Derived.BigRegion
set_option linter.unusedVariables false
set_option linter.unusedSimpArgs false
namespace Go.Proofs.YtojiieghjhjoaaaGreat
open Go.RowKit Go.MapKept Go.Shelf
open Go.Lib hiding intOf

set_option maxRecDepth 100000 in
set_option maxHeartbeats 32000000 in
theorem draw_14 (w V : World) (l : List Ent) (HL : Hid (Led w V l)) (b1 i1 : Nat) (r1 : Cfg) (h1 : l[i1]? = some (.box b1 r1.ar 49)) (b15 i15 : Nat) (r15 : Pth) (h15 : l[i15]? = some (.box b15 r15.ar 37)) (ip np : Nat) (hp : l[ip]? = some (.fact np (fun W => PthOk W r15))) (hg : r1.Ok) (he : ∀ c, (toldF r1 r15 (mkPr ⟨#[99]⟩ 65000 c)).2 = false) (u0 u2 u3 u4 u5 u6 u7 u8 u9 u10 u11 u12 u13 u14 u16 u17 u18 u19 u20 u21 u22 u23 u24 u25 u26 u27 u28 u29 u30 u31 u32 u33 u34 u35 u36 u37 u38 u39 u40 u41 u42 u43 u44 u45 u46 u47 u48 u49 u50 u51 u52 u53 u54 u55 u56 u57 u58 u59 u60 u61 u62 u63 u64 u65 u66 u67 u68 u69 u70 u71 u72 u73 u74 u75 u76 u77 u78 u79 u80 u81 u82 u83 u84 u85 u86 u87 u88 u89 u90 u91 u92 u93 u94 u95 u96 u97 u98 u99 u100 u101 u102 u103 u104 u105 u106 u107 u108 u109 u110 u111 u112 u113 u114 u115 u116 u117 u118 u119 u120 u121 u122 u123 u124 u125 u126 u127 u128 u129 u130 u131 u132 u133 u134 u135 u136 u137 u138 u139 u140 u141 u142 u143 u144 u145 u146 u147 u148 u149 u150 u151 u152 u153 u154 u155 u156 u157 u158 u159 u160 u161 u162 u163 u164 u165 u166 u167 u168 u169 u170 u171 u172 u173 u174 u175 u176 u177 u178 u179 u180 u181 u182 u183 u184 u185 u186 u187 u188 u189 u190 u191 u192 u193 u194 u195 u196 u197 u198 u199 u200 u201 u202 u203 u204 u205 u206 u207 u208 u209 u210 u211 u212 u213 u214 u215 u216 u217 u218 u219 u220 u221 u222 u223 u224 u225 u226 u227 u228 u229 u230 u231 u232 u233 u234 u235 u236 u237 u238 u239 u240 u241 u242 u243 u244 u245 u246 u247 u248 u249 u250 u251 u252 u253 u254 u255 u256 u257 u258 u259 u260 u261 u262 u263 u264 u265 u266 u267 u268 u269 u270 u271 u272 u273 u274 u275 : Value) :
    (Code.region 14 #[{ dst := some 87, op := Op.load 49 (Operand.tmp 1), type := 49, pos := "outright.go:122", after := #[], guard := none }, { dst := some 88, op := Op.load 37 (Operand.tmp 15), type := 37, pos := "outright.go:122", after := #[], guard := none }, { dst := some 89, op := Op.call { callee := Callee.value (Operand.func 23), args := #[Operand.const (Value.string { data := #[99] }), Operand.const (Value.int IntKind.u32 65000)], argTypes := #[9, 22] }, type := 40, pos := "outright.go:122", after := #[], guard := none }, { dst := some 90, op := Op.call { callee := Callee.value (Operand.func 17), args := #[Operand.tmp 87, Operand.tmp 88, Operand.tmp 89], argTypes := #[49, 37, 40] }, type := 57, pos := "outright.go:122", after := #[{ on := 0, ground := Ground.data }, { on := 1, ground := Ground.data }, { on := 2, ground := Ground.data }, { on := 2, ground := Ground.chain }], guard := none }, { dst := some 86, op := Op.move (Operand.tmp 90), type := 57, pos := "outright.go:122", after := #[{ on := 3, ground := Ground.data }], guard := none }, { dst := some 91, op := Op.extract (Operand.tmp 86) 0, type := 33, pos := "outright.go:122", after := #[{ on := 4, ground := Ground.data }], guard := none }, { dst := some 92, op := Op.extract (Operand.tmp 86) 1, type := 4, pos := "outright.go:122", after := #[{ on := 4, ground := Ground.data }, { on := 8, ground := Ground.gcOnly Departure.lateStores }], guard := none }, { dst := some 16, op := Op.alloc 33, type := 0, pos := "outright.go:122", after := #[], guard := none }, { dst := none, op := Op.store 33 (Operand.tmp 16) (Operand.tmp 91), type := 0, pos := "outright.go:122", after := #[{ on := 7, ground := Ground.data }, { on := 5, ground := Ground.data }, { on := 3, ground := Ground.chain }, { on := 0, ground := Ground.phase }, { on := 1, ground := Ground.phase }, { on := 2, ground := Ground.phase }, { on := 3, ground := Ground.phase }, { on := 4, ground := Ground.phase }, { on := 5, ground := Ground.phase }, { on := 6, ground := Ground.textOnly Departure.lateStores }, { on := 7, ground := Ground.phase }], guard := none }, { dst := some 17, op := Op.assign (Operand.tmp 92), type := 4, pos := "outright.go:122", after := #[{ on := 6, ground := Ground.data }, { on := 8, ground := Ground.chain }, { on := 0, ground := Ground.phase }, { on := 1, ground := Ground.phase }, { on := 2, ground := Ground.phase }, { on := 3, ground := Ground.phase }, { on := 4, ground := Ground.phase }, { on := 5, ground := Ground.phase }, { on := 6, ground := Ground.phase }, { on := 7, ground := Ground.phase }, { on := 8, ground := Ground.phase }], guard := none }] true).wp Tryz.prog (fun e a' w' => e = .normal ∧ ∃ (k : Nat) (x : Atr) (d86 d87 d88 d89 d90 d91 d92 : Value), a' = { tmps := #[u0, .pointer (some ⟨b1, 0, none⟩), u2, u3, u4, u5, u6, u7, u8, u9, u10, u11, u12, u13, u14, .pointer (some ⟨b15, 0, none⟩), .pointer (some ⟨k, 0, none⟩), .bool false, u18, u19, u20, u21, u22, u23, u24, u25, u26, u27, u28, u29, u30, u31, u32, u33, u34, u35, u36, u37, u38, u39, u40, u41, u42, u43, u44, u45, u46, u47, u48, u49, u50, u51, u52, u53, u54, u55, u56, u57, u58, u59, u60, u61, u62, u63, u64, u65, u66, u67, u68, u69, u70, u71, u72, u73, u74, u75, u76, u77, u78, u79, u80, u81, u82, u83, u84, u85, d86, d87, d88, d89, d90, d91, d92, u93, u94, u95, u96, u97, u98, u99, u100, u101, u102, u103, u104, u105, u106, u107, u108, u109, u110, u111, u112, u113, u114, u115, u116, u117, u118, u119, u120, u121, u122, u123, u124, u125, u126, u127, u128, u129, u130, u131, u132, u133, u134, u135, u136, u137, u138, u139, u140, u141, u142, u143, u144, u145, u146, u147, u148, u149, u150, u151, u152, u153, u154, u155, u156, u157, u158, u159, u160, u161, u162, u163, u164, u165, u166, u167, u168, u169, u170, u171, u172, u173, u174, u175, u176, u177, u178, u179, u180, u181, u182, u183, u184, u185, u186, u187, u188, u189, u190, u191, u192, u193, u194, u195, u196, u197, u198, u199, u200, u201, u202, u203, u204, u205, u206, u207, u208, u209, u210, u211, u212, u213, u214, u215, u216, u217, u218, u219, u220, u221, u222, u223, u224, u225, u226, u227, u228, u229, u230, u231, u232, u233, u234, u235, u236, u237, u238, u239, u240, u241, u242, u243, u244, u245, u246, u247, u248, u249, u250, u251, u252, u253, u254, u255, u256, u257, u258, u259, u260, u261, u262, u263, u264, u265, u266, u267, u268, u269, u270, u271, u272, u273, u274, u275], defers := [] } ∧ Hid (Led w w' (.fact w'.heap.size (fun W => AtrOk W x) :: .box k x.ar 33 :: l))) { tmps := #[u0, .pointer (some ⟨b1, 0, none⟩), u2, u3, u4, u5, u6, u7, u8, u9, u10, u11, u12, u13, u14, .pointer (some ⟨b15, 0, none⟩), u16, u17, u18, u19, u20, u21, u22, u23, u24, u25, u26, u27, u28, u29, u30, u31, u32, u33, u34, u35, u36, u37, u38, u39, u40, u41, u42, u43, u44, u45, u46, u47, u48, u49, u50, u51, u52, u53, u54, u55, u56, u57, u58, u59, u60, u61, u62, u63, u64, u65, u66, u67, u68, u69, u70, u71, u72, u73, u74, u75, u76, u77, u78, u79, u80, u81, u82, u83, u84, u85, u86, u87, u88, u89, u90, u91, u92, u93, u94, u95, u96, u97, u98, u99, u100, u101, u102, u103, u104, u105, u106, u107, u108, u109, u110, u111, u112, u113, u114, u115, u116, u117, u118, u119, u120, u121, u122, u123, u124, u125, u126, u127, u128, u129, u130, u131, u132, u133, u134, u135, u136, u137, u138, u139, u140, u141, u142, u143, u144, u145, u146, u147, u148, u149, u150, u151, u152, u153, u154, u155, u156, u157, u158, u159, u160, u161, u162, u163, u164, u165, u166, u167, u168, u169, u170, u171, u172, u173, u174, u175, u176, u177, u178, u179, u180, u181, u182, u183, u184, u185, u186, u187, u188, u189, u190, u191, u192, u193, u194, u195, u196, u197, u198, u199, u200, u201, u202, u203, u204, u205, u206, u207, u208, u209, u210, u211, u212, u213, u214, u215, u216, u217, u218, u219, u220, u221, u222, u223, u224, u225, u226, u227, u228, u229, u230, u231, u232, u233, u234, u235, u236, u237, u238, u239, u240, u241, u242, u243, u244, u245, u246, u247, u248, u249, u250, u251, u252, u253, u254, u255, u256, u257, u258, u259, u260, u261, u262, u263, u264, u265, u266, u267, u268, u269, u270, u271, u272, u273, u274, u275], defers := [] } V := by
  have HCF := Lib.hid conf_any
  have HTA := Lib.hid to_any
  have HTO := Lib.hid told_any
  refine wp_region_held_drew (S := fun w' => Led w w' l) (by kernel_rfl) (HL.out.below (below_drewN (Below.refl _ _) 1)) (fun hHeld => ?_)
  refine wpAnyH_take (i := 0) (oi := { dst := some 87, op := Op.load 49 (Operand.tmp 1), type := 49, pos := "outright.go:122", after := #[], guard := none }) (v := .agg r1.ar) rfl (by kernel_rfl) (by kernel_rfl) (by kernel_rfl) (fun _ _ _ h => nomatch h.1) (yields_row (by rfl) _ _ rfl b1 0 (by rfl) r1.ar confS 13 confZ rfl (fun w h => whole_range (h.box i1 h1))) hHeld ?_
  try simp only [Act.put, sA, sZ, sS]
  refine wpAnyH_take (i := 1) (oi := { dst := some 88, op := Op.load 37 (Operand.tmp 15), type := 37, pos := "outright.go:122", after := #[], guard := none }) (v := .agg r15.ar) rfl (by kernel_rfl) (by kernel_rfl) (by kernel_rfl) (fun _ _ _ h => nomatch h.1) (yields_row (by rfl) _ _ rfl b15 0 (by rfl) r15.ar pathS 29 pathZ rfl (fun w h => whole_range (h.box i15 h15))) hHeld ?_
  try simp only [Act.put, sA, sZ, sS]
  refine wpAnyH_ready (rs := [2, 7]) (by kernel_rfl) (by simp) ?_
  refine AllReadyH.cons (o := { dst := some 89, op := Op.call { callee := Callee.value (Operand.func 23), args := #[Operand.const (Value.string { data := #[99] }), Operand.const (Value.int IntKind.u32 65000)], argTypes := #[9, 22] }, type := 40, pos := "outright.go:122", after := #[], guard := none }) rfl (fun K hK => ?_) ?_
  · go_simp
    refine (HTA.out ⟨#[99]⟩ 65000 _ (by decide) (by decide)).mono ?_
    rintro e u1 ⟨⟨bt1, rfl, hr⟩, hb1⟩
    refine hK.out _ _ (hHeld.below hb1) (fun hHeld => ?_)
    clear hK K
    try simp only [Act.put, sA, sZ, sS]
    refine wpAnyH_ready (rs := [3, 7]) (by kernel_rfl) (by simp) ?_
    refine AllReadyH.cons (o := { dst := some 90, op := Op.call { callee := Callee.value (Operand.func 17), args := #[Operand.tmp 87, Operand.tmp 88, Operand.tmp 89], argTypes := #[49, 37, 40] }, type := 57, pos := "outright.go:122", after := #[{ on := 0, ground := Ground.data }, { on := 1, ground := Ground.data }, { on := 2, ground := Ground.data }, { on := 2, ground := Ground.chain }], guard := none }) rfl (fun K hK => ?_) ?_
    · go_simp
      refine (HTO.out r1 r15 (mkPr ⟨#[99]⟩ 65000 bt1) _ hg (hHeld.fact ip hp) hr).mono ?_
      rintro e u2 ⟨x2, rfl, hxo, hxc, hb2⟩
      rw [he]
      clear hxc
      refine hK.out _ _ (hHeld.below hb2) (fun hHeld => ?_)
      clear hK K
      try simp only [Act.put, sA, sZ, sS]
      refine wpAnyH_take (i := 4) (oi := { dst := some 86, op := Op.move (Operand.tmp 90), type := 57, pos := "outright.go:122", after := #[{ on := 3, ground := Ground.data }], guard := none }) (v := ?_) rfl (by kernel_rfl) (by kernel_rfl) (by kernel_rfl) (fun _ _ _ h => nomatch h.1) (Or.inl ⟨by rfl, ?_⟩) hHeld ?_
      rotate_left
      · intro w hSw
        clear hSw
        go_simp
        try with_reducible rfl
      try simp only [Act.put, sA, sZ, sS]
      refine wpAnyH_take (i := 5) (oi := { dst := some 91, op := Op.extract (Operand.tmp 86) 0, type := 33, pos := "outright.go:122", after := #[{ on := 4, ground := Ground.data }], guard := none }) (v := ?_) rfl (by kernel_rfl) (by kernel_rfl) (by kernel_rfl) (fun _ _ _ h => nomatch h.1) (Or.inl ⟨by rfl, ?_⟩) hHeld ?_
      rotate_left
      · intro w hSw
        clear hSw
        go_simp
        try with_reducible rfl
      try simp only [Act.put, sA, sZ, sS]
      refine wpAnyH_take (i := 6) (oi := { dst := some 92, op := Op.extract (Operand.tmp 86) 1, type := 4, pos := "outright.go:122", after := #[{ on := 4, ground := Ground.data }, { on := 8, ground := Ground.gcOnly Departure.lateStores }], guard := none }) (v := ?_) rfl (by kernel_rfl) (by kernel_rfl) (by kernel_rfl) (fun _ _ _ h => nomatch h.1) (Or.inl ⟨by rfl, ?_⟩) hHeld ?_
      rotate_left
      · intro w hSw
        clear hSw
        go_simp
        try with_reducible rfl
      try simp only [Act.put, sA, sZ, sS]
      refine wpAnyH_ready (rs := [7]) (by kernel_rfl) (by simp) ?_
      refine AllReadyH.cons (o := { dst := some 16, op := Op.alloc 33, type := 0, pos := "outright.go:122", after := #[], guard := none }) rfl (fun K hK => ?_) AllReadyH.nil
      go_simp
      have hkb : CellsAt _ _ noAtr.ar 33 := CellsAt.new (u2) noAtr.ar 33
      have hkn : ∀ e ∈ l, e.no ≤ (u2).heap.size := hHeld.nums (Nat.le_refl _)
      have hkw : w.heap.size ≤ (u2).heap.size := hHeld.b.size
      replace hxo := hxo.below (below1 (u2) (.cells noAtr.ar 33))
      refine hK.out _ _ (hHeld.below (below1 _ _)) (fun hHeld => ?_)
      clear hK K
      try simp only [Act.put, sA, sZ, sS]
      refine wpAnyH_ready (rs := [8]) (by kernel_rfl) (by simp) ?_
      refine AllReadyH.cons (o := { dst := none, op := Op.store 33 (Operand.tmp 16) (Operand.tmp 91), type := 0, pos := "outright.go:122", after := #[{ on := 7, ground := Ground.data }, { on := 5, ground := Ground.data }, { on := 3, ground := Ground.chain }, { on := 0, ground := Ground.phase }, { on := 1, ground := Ground.phase }, { on := 2, ground := Ground.phase }, { on := 3, ground := Ground.phase }, { on := 4, ground := Ground.phase }, { on := 5, ground := Ground.phase }, { on := 6, ground := Ground.textOnly Departure.lateStores }, { on := 7, ground := Ground.phase }], guard := none }) rfl (fun K hK => ?_) AllReadyH.nil
      rw [if_pos (by rfl)]
      refine wp_over_row 33 _ _ rfl _ (by rfl) x2.ar (by rfl) 16 atZ rfl rfl hkb (attrs_ones _) ?_
      intro v4 HC HG
      refine hK.out _ _ (hHeld.over hkn hkw HG.out) (fun hHeld => ?_)
      clear hK K
      replace hxo := hxo.box HG.out hkb
      try simp only [Act.put, sA, sZ, sS]
      refine wpAnyH_take (i := 9) (oi := { dst := some 17, op := Op.assign (Operand.tmp 92), type := 4, pos := "outright.go:122", after := #[{ on := 6, ground := Ground.data }, { on := 8, ground := Ground.chain }, { on := 0, ground := Ground.phase }, { on := 1, ground := Ground.phase }, { on := 2, ground := Ground.phase }, { on := 3, ground := Ground.phase }, { on := 4, ground := Ground.phase }, { on := 5, ground := Ground.phase }, { on := 6, ground := Ground.phase }, { on := 7, ground := Ground.phase }, { on := 8, ground := Ground.phase }], guard := none }) (v := ?_) rfl (by kernel_rfl) (by kernel_rfl) (by kernel_rfl) (fun _ _ _ h => nomatch h.1) (Or.inl ⟨by rfl, ?_⟩) hHeld ?_
      rotate_left
      · intro w hSw
        clear hSw
        go_simp
        try with_reducible rfl
      try simp only [Act.put, sA, sZ, sS]
      refine wpAnyH_done (by kernel_rfl) ?_ _
      exact ⟨rfl, _, x2, _, _, _, _, _, _, _, rfl, Lib.hid ((hHeld.add hkn hkw HC.out).know (steady_atr _) hxo.ok)⟩
    refine AllReadyH.cons (o := { dst := some 16, op := Op.alloc 33, type := 0, pos := "outright.go:122", after := #[], guard := none }) rfl (fun K hK => ?_) AllReadyH.nil
    go_simp
    have hkb : CellsAt _ _ noAtr.ar 33 := CellsAt.new (u1) noAtr.ar 33
    have hkn : ∀ e ∈ l, e.no ≤ (u1).heap.size := hHeld.nums (Nat.le_refl _)
    have hkw : w.heap.size ≤ (u1).heap.size := hHeld.b.size
    replace hr := hr.below (below1 (u1) (.cells noAtr.ar 33)) (Nat.le_refl _)
    refine hK.out _ _ (hHeld.below (below1 _ _)) (fun hHeld => ?_)
    clear hK K
    try simp only [Act.put, sA, sZ, sS]
    refine wpAnyH_ready (rs := [3]) (by kernel_rfl) (by simp) ?_
    refine AllReadyH.cons (o := { dst := some 90, op := Op.call { callee := Callee.value (Operand.func 17), args := #[Operand.tmp 87, Operand.tmp 88, Operand.tmp 89], argTypes := #[49, 37, 40] }, type := 57, pos := "outright.go:122", after := #[{ on := 0, ground := Ground.data }, { on := 1, ground := Ground.data }, { on := 2, ground := Ground.data }, { on := 2, ground := Ground.chain }], guard := none }) rfl (fun K hK => ?_) AllReadyH.nil
    go_simp
    refine (HTO.out r1 r15 (mkPr ⟨#[99]⟩ 65000 bt1) _ hg (hHeld.fact ip hp) hr).mono ?_
    rintro e u6 ⟨x6, rfl, hxo, hxc, hb6⟩
    replace hkb := hkb.below hb6 hkb.lt
    rw [he]
    clear hxc
    refine hK.out _ _ (hHeld.below hb6) (fun hHeld => ?_)
    clear hK K
    try simp only [Act.put, sA, sZ, sS]
    refine wpAnyH_take (i := 4) (oi := { dst := some 86, op := Op.move (Operand.tmp 90), type := 57, pos := "outright.go:122", after := #[{ on := 3, ground := Ground.data }], guard := none }) (v := ?_) rfl (by kernel_rfl) (by kernel_rfl) (by kernel_rfl) (fun _ _ _ h => nomatch h.1) (Or.inl ⟨by rfl, ?_⟩) hHeld ?_
    rotate_left
    · intro w hSw
      clear hSw
      go_simp
      try with_reducible rfl
    try simp only [Act.put, sA, sZ, sS]
    refine wpAnyH_take (i := 5) (oi := { dst := some 91, op := Op.extract (Operand.tmp 86) 0, type := 33, pos := "outright.go:122", after := #[{ on := 4, ground := Ground.data }], guard := none }) (v := ?_) rfl (by kernel_rfl) (by kernel_rfl) (by kernel_rfl) (fun _ _ _ h => nomatch h.1) (Or.inl ⟨by rfl, ?_⟩) hHeld ?_
    rotate_left
    · intro w hSw
      clear hSw
      go_simp
      try with_reducible rfl
    try simp only [Act.put, sA, sZ, sS]
    refine wpAnyH_take (i := 6) (oi := { dst := some 92, op := Op.extract (Operand.tmp 86) 1, type := 4, pos := "outright.go:122", after := #[{ on := 4, ground := Ground.data }, { on := 8, ground := Ground.gcOnly Departure.lateStores }], guard := none }) (v := ?_) rfl (by kernel_rfl) (by kernel_rfl) (by kernel_rfl) (fun _ _ _ h => nomatch h.1) (Or.inl ⟨by rfl, ?_⟩) hHeld ?_
    rotate_left
    · intro w hSw
      clear hSw
      go_simp
      try with_reducible rfl
    try simp only [Act.put, sA, sZ, sS]
    refine wpAnyH_ready (rs := [8]) (by kernel_rfl) (by simp) ?_
    refine AllReadyH.cons (o := { dst := none, op := Op.store 33 (Operand.tmp 16) (Operand.tmp 91), type := 0, pos := "outright.go:122", after := #[{ on := 7, ground := Ground.data }, { on := 5, ground := Ground.data }, { on := 3, ground := Ground.chain }, { on := 0, ground := Ground.phase }, { on := 1, ground := Ground.phase }, { on := 2, ground := Ground.phase }, { on := 3, ground := Ground.phase }, { on := 4, ground := Ground.phase }, { on := 5, ground := Ground.phase }, { on := 6, ground := Ground.textOnly Departure.lateStores }, { on := 7, ground := Ground.phase }], guard := none }) rfl (fun K hK => ?_) AllReadyH.nil
    rw [if_pos (by rfl)]
    refine wp_over_row 33 _ _ rfl _ (by rfl) x6.ar (by rfl) 16 atZ rfl rfl hkb (attrs_ones _) ?_
    intro v7 HC HG
    refine hK.out _ _ (hHeld.over hkn hkw HG.out) (fun hHeld => ?_)
    clear hK K
    replace hxo := hxo.box HG.out hkb
    try simp only [Act.put, sA, sZ, sS]
    refine wpAnyH_take (i := 9) (oi := { dst := some 17, op := Op.assign (Operand.tmp 92), type := 4, pos := "outright.go:122", after := #[{ on := 6, ground := Ground.data }, { on := 8, ground := Ground.chain }, { on := 0, ground := Ground.phase }, { on := 1, ground := Ground.phase }, { on := 2, ground := Ground.phase }, { on := 3, ground := Ground.phase }, { on := 4, ground := Ground.phase }, { on := 5, ground := Ground.phase }, { on := 6, ground := Ground.phase }, { on := 7, ground := Ground.phase }, { on := 8, ground := Ground.phase }], guard := none }) (v := ?_) rfl (by kernel_rfl) (by kernel_rfl) (by kernel_rfl) (fun _ _ _ h => nomatch h.1) (Or.inl ⟨by rfl, ?_⟩) hHeld ?_
    rotate_left
    · intro w hSw
      clear hSw
      go_simp
      try with_reducible rfl
    try simp only [Act.put, sA, sZ, sS]
    refine wpAnyH_done (by kernel_rfl) ?_ _
    exact ⟨rfl, _, x6, _, _, _, _, _, _, _, rfl, Lib.hid ((hHeld.add hkn hkw HC.out).know (steady_atr _) hxo.ok)⟩
  refine AllReadyH.cons (o := { dst := some 16, op := Op.alloc 33, type := 0, pos := "outright.go:122", after := #[], guard := none }) rfl (fun K hK => ?_) AllReadyH.nil
  go_simp
  have hkb : CellsAt _ _ noAtr.ar 33 := CellsAt.new (V.drew) noAtr.ar 33
  have hkn : ∀ e ∈ l, e.no ≤ (V.drew).heap.size := hHeld.nums (Nat.le_refl _)
  have hkw : w.heap.size ≤ (V.drew).heap.size := hHeld.b.size
  refine hK.out _ _ (hHeld.below (below1 _ _)) (fun hHeld => ?_)
  clear hK K
  try simp only [Act.put, sA, sZ, sS]
  refine wpAnyH_ready (rs := [2]) (by kernel_rfl) (by simp) ?_
  refine AllReadyH.cons (o := { dst := some 89, op := Op.call { callee := Callee.value (Operand.func 23), args := #[Operand.const (Value.string { data := #[99] }), Operand.const (Value.int IntKind.u32 65000)], argTypes := #[9, 22] }, type := 40, pos := "outright.go:122", after := #[], guard := none }) rfl (fun K hK => ?_) AllReadyH.nil
  go_simp
  refine (HTA.out ⟨#[99]⟩ 65000 _ (by decide) (by decide)).mono ?_
  rintro e u9 ⟨⟨bt9, rfl, hr⟩, hb9⟩
  replace hkb := hkb.below hb9 hkb.lt
  refine hK.out _ _ (hHeld.below hb9) (fun hHeld => ?_)
  clear hK K
  try simp only [Act.put, sA, sZ, sS]
  refine wpAnyH_ready (rs := [3]) (by kernel_rfl) (by simp) ?_
  refine AllReadyH.cons (o := { dst := some 90, op := Op.call { callee := Callee.value (Operand.func 17), args := #[Operand.tmp 87, Operand.tmp 88, Operand.tmp 89], argTypes := #[49, 37, 40] }, type := 57, pos := "outright.go:122", after := #[{ on := 0, ground := Ground.data }, { on := 1, ground := Ground.data }, { on := 2, ground := Ground.data }, { on := 2, ground := Ground.chain }], guard := none }) rfl (fun K hK => ?_) AllReadyH.nil
  go_simp
  refine (HTO.out r1 r15 (mkPr ⟨#[99]⟩ 65000 bt9) _ hg (hHeld.fact ip hp) hr).mono ?_
  rintro e u10 ⟨x10, rfl, hxo, hxc, hb10⟩
  replace hkb := hkb.below hb10 hkb.lt
  rw [he]
  clear hxc
  refine hK.out _ _ (hHeld.below hb10) (fun hHeld => ?_)
  clear hK K
  try simp only [Act.put, sA, sZ, sS]
  refine wpAnyH_take (i := 4) (oi := { dst := some 86, op := Op.move (Operand.tmp 90), type := 57, pos := "outright.go:122", after := #[{ on := 3, ground := Ground.data }], guard := none }) (v := ?_) rfl (by kernel_rfl) (by kernel_rfl) (by kernel_rfl) (fun _ _ _ h => nomatch h.1) (Or.inl ⟨by rfl, ?_⟩) hHeld ?_
  rotate_left
  · intro w hSw
    clear hSw
    go_simp
    try with_reducible rfl
  try simp only [Act.put, sA, sZ, sS]
  refine wpAnyH_take (i := 5) (oi := { dst := some 91, op := Op.extract (Operand.tmp 86) 0, type := 33, pos := "outright.go:122", after := #[{ on := 4, ground := Ground.data }], guard := none }) (v := ?_) rfl (by kernel_rfl) (by kernel_rfl) (by kernel_rfl) (fun _ _ _ h => nomatch h.1) (Or.inl ⟨by rfl, ?_⟩) hHeld ?_
  rotate_left
  · intro w hSw
    clear hSw
    go_simp
    try with_reducible rfl
  try simp only [Act.put, sA, sZ, sS]
  refine wpAnyH_take (i := 6) (oi := { dst := some 92, op := Op.extract (Operand.tmp 86) 1, type := 4, pos := "outright.go:122", after := #[{ on := 4, ground := Ground.data }, { on := 8, ground := Ground.gcOnly Departure.lateStores }], guard := none }) (v := ?_) rfl (by kernel_rfl) (by kernel_rfl) (by kernel_rfl) (fun _ _ _ h => nomatch h.1) (Or.inl ⟨by rfl, ?_⟩) hHeld ?_
  rotate_left
  · intro w hSw
    clear hSw
    go_simp
    try with_reducible rfl
  try simp only [Act.put, sA, sZ, sS]
  refine wpAnyH_ready (rs := [8]) (by kernel_rfl) (by simp) ?_
  refine AllReadyH.cons (o := { dst := none, op := Op.store 33 (Operand.tmp 16) (Operand.tmp 91), type := 0, pos := "outright.go:122", after := #[{ on := 7, ground := Ground.data }, { on := 5, ground := Ground.data }, { on := 3, ground := Ground.chain }, { on := 0, ground := Ground.phase }, { on := 1, ground := Ground.phase }, { on := 2, ground := Ground.phase }, { on := 3, ground := Ground.phase }, { on := 4, ground := Ground.phase }, { on := 5, ground := Ground.phase }, { on := 6, ground := Ground.textOnly Departure.lateStores }, { on := 7, ground := Ground.phase }], guard := none }) rfl (fun K hK => ?_) AllReadyH.nil
  rw [if_pos (by rfl)]
  refine wp_over_row 33 _ _ rfl _ (by rfl) x10.ar (by rfl) 16 atZ rfl rfl hkb (attrs_ones _) ?_
  intro v11 HC HG
  refine hK.out _ _ (hHeld.over hkn hkw HG.out) (fun hHeld => ?_)
  clear hK K
  replace hxo := hxo.box HG.out hkb
  try simp only [Act.put, sA, sZ, sS]
  refine wpAnyH_take (i := 9) (oi := { dst := some 17, op := Op.assign (Operand.tmp 92), type := 4, pos := "outright.go:122", after := #[{ on := 6, ground := Ground.data }, { on := 8, ground := Ground.chain }, { on := 0, ground := Ground.phase }, { on := 1, ground := Ground.phase }, { on := 2, ground := Ground.phase }, { on := 3, ground := Ground.phase }, { on := 4, ground := Ground.phase }, { on := 5, ground := Ground.phase }, { on := 6, ground := Ground.phase }, { on := 7, ground := Ground.phase }, { on := 8, ground := Ground.phase }], guard := none }) (v := ?_) rfl (by kernel_rfl) (by kernel_rfl) (by kernel_rfl) (fun _ _ _ h => nomatch h.1) (Or.inl ⟨by rfl, ?_⟩) hHeld ?_
  rotate_left
  · intro w hSw
    clear hSw
    go_simp
    try with_reducible rfl
  try simp only [Act.put, sA, sZ, sS]
  refine wpAnyH_done (by kernel_rfl) ?_ _
  exact ⟨rfl, _, x10, _, _, _, _, _, _, _, rfl, Lib.hid ((hHeld.add hkn hkw HC.out).know (steady_atr _) hxo.ok)⟩
end Go.Proofs.YtojiieghjhjoaaaGreat
