/-
  Contracts of the library's functions at this program; the lexer's classes, walked.
-/
import Derived.Test.YtfkgjbdeicggaaaGreatZH
import Derived.Deep.WholeRow
import Derived.Shelf.SlSortCmp.Whole1
import Derived.Shelf.SlSortCmp.WholeK
import Derived.Shelf.Slices.Cells
import Derived.Shelf.Slices.In.SortNone
import Derived.Shelf.Slices.SearchI
import Derived.Shelf.Slices.Turned
import Derived.Shelf.Small.Strs
import Derived.Shelf.Small.Wraps
import Derived.Shelf.Sort.Plain
set_option maxHeartbeats 2000000
set_option maxRecDepth 100000
namespace Go.Proofs
open Go.Shelf
def Tryz.lays106_ren:Go.Shelf.Ren:=⟨fun|106=>112|213=>155|265=>223|n=>n,fun|9=>9|3=>3|n=>n,fun|n=>n⟩
theorem Tryz.lays106:Go.Proofs.Lays.n106 Tryz.prog Tryz.lays106_ren:= {
 mixed:=K9
 f106:=Tryz.func112.trans (congrArg some K9)
 f213:=Tryz.func155.trans (congrArg some K9)
 f265:=Tryz.func223.trans (congrArg some K9)
 t3:=Tryz.underlying3
 a3:=Tryz.isAgg3
 z3:=Tryz.sizeOf3
 v3:=Tryz.zeroValue3
 t9:=Tryz.underlying9
 a9:=Tryz.isAgg9
 z9:=Tryz.sizeOf9
 v9:=Tryz.zeroValue9}
open Go.RowKit in
theorem Tryz.strings_Compare(a b:ByteArray)(w:World):Calls Tryz.prog 112 #[.string a,.string b] w fun e w'=>e= .returned (.int .i64 (Lib.compareBytes a.data.toList b.data.toList))∧w'=w:=Any.strings_Compare Tryz.lays106 a b w
def Tryz.lays137_ren:Go.Shelf.Ren:=⟨fun|137=>190|217=>235|266=>258|n=>n,fun|9=>9|5=>5|3=>3|n=>n,fun|n=>n⟩
theorem Tryz.lays137:Go.Proofs.Lays.n137 Tryz.prog Tryz.lays137_ren:= {
 mixed:=K9
 f137:=Tryz.func190.trans (congrArg some K9)
 f217:=Tryz.func235.trans (congrArg some K9)
 f266:=Tryz.func258.trans (congrArg some K9)
 t3:=Tryz.underlying3
 a3:=Tryz.isAgg3
 z3:=Tryz.sizeOf3
 v3:=Tryz.zeroValue3
 t5:=Tryz.underlying5
 a5:=Tryz.isAgg5
 z5:=Tryz.sizeOf5
 v5:=Tryz.zeroValue5
 t9:=Tryz.underlying9
 a9:=Tryz.isAgg9
 z9:=Tryz.sizeOf9
 v9:=Tryz.zeroValue9}
open Go.RowKit in
theorem Tryz.strings_IndexByte(s:ByteArray)(c:Int)(w:World):Calls Tryz.prog 190 #[.string s,.int .u8 c] w fun e w'=>e= .returned (.int .i64 (Lib.indexByte s.data.toList c.toNat.toUInt8))∧w'=w:=Any.strings_IndexByte Tryz.lays137 s c w
def Tryz.lays109_ren:Go.Shelf.Ren:=⟨fun|109=>89|n=>n,fun|31=>39|9=>9|3=>3|0=>0|4=>4|n=>n,fun|n=>n⟩
theorem Tryz.lays109:Go.Proofs.Lays.n109 Tryz.prog Tryz.lays109_ren:= {
 mixed:=K9
 f109:=Tryz.func89.trans (congrArg some K9)
 t0:=Tryz.underlying0
 a0:=Tryz.isAgg0
 z0:=Tryz.sizeOf0
 v0:=Tryz.zeroValue0
 t3:=Tryz.underlying3
 a3:=Tryz.isAgg3
 z3:=Tryz.sizeOf3
 v3:=Tryz.zeroValue3
 t4:=Tryz.underlying4
 a4:=Tryz.isAgg4
 z4:=Tryz.sizeOf4
 v4:=Tryz.zeroValue4
 t9:=Tryz.underlying9
 a9:=Tryz.isAgg9
 z9:=Tryz.sizeOf9
 v9:=Tryz.zeroValue9
 t31:=Tryz.underlying39
 a31:=Tryz.isAgg39
 z31:=Tryz.sizeOf39
 v31:=Tryz.zeroValue39}
open Go.Lib in
theorem Tryz.slices_Index_string(b off n c:Nat)(zs:List ByteArray)(x:ByteArray)(w:World)(hz:n≤zs.length)(hbig:n≤9223372036854775807)(hc:∀j,j<zs.length→w.cell? ⟨b,off+j,none⟩=some (.string (zs.getD j ByteArray.empty))):Calls Tryz.prog 89 #[.slice (some ⟨b,off,none⟩) n c,.string x] w fun e w'=>e= .returned (.int .i64 (Lib.idxOfS (zs.take n) x))∧w'=w:=Any.slices_Index_string Tryz.lays109 b off n c zs x w hz hbig hc
def Tryz.lays110_ren:Go.Shelf.Ren:=⟨fun|110=>33|109=>89|n=>n,fun|31=>39|9=>9|4=>4|3=>3|0=>0|n=>n,fun|n=>n⟩
theorem Tryz.lays110:Go.Proofs.Lays.n110 Tryz.prog Tryz.lays110_ren:= {
 mixed:=K9
 f109:=Tryz.func89.trans (congrArg some K9)
 f110:=Tryz.func33.trans (congrArg some K9)
 t0:=Tryz.underlying0
 a0:=Tryz.isAgg0
 z0:=Tryz.sizeOf0
 v0:=Tryz.zeroValue0
 t3:=Tryz.underlying3
 a3:=Tryz.isAgg3
 z3:=Tryz.sizeOf3
 v3:=Tryz.zeroValue3
 t4:=Tryz.underlying4
 a4:=Tryz.isAgg4
 z4:=Tryz.sizeOf4
 v4:=Tryz.zeroValue4
 t9:=Tryz.underlying9
 a9:=Tryz.isAgg9
 z9:=Tryz.sizeOf9
 v9:=Tryz.zeroValue9
 t31:=Tryz.underlying39
 a31:=Tryz.isAgg39
 z31:=Tryz.sizeOf39
 v31:=Tryz.zeroValue39}
open Go.Lib in
theorem Tryz.slices_Contains_string(b off n c:Nat)(zs:List ByteArray)(x:ByteArray)(w:World)(hz:n≤zs.length)(hbig:n≤9223372036854775807)(hc:∀j,j<zs.length→w.cell? ⟨b,off+j,none⟩=some (.string (zs.getD j ByteArray.empty))):Calls Tryz.prog 33 #[.slice (some ⟨b,off,none⟩) n c,.string x] w fun e w'=>e= .returned (.bool (Lib.containsS (zs.take n) x))∧w'=w:=Any.slices_Contains_string Tryz.lays110 b off n c zs x w hz hbig hc
open Go.Lib in
theorem Tryz.slices_Contains_string_empty(a:Option Addr)(c:Nat)(x:ByteArray)(w:World):Calls Tryz.prog 33 #[.slice a 0 c,.string x] w fun e w'=>e= .returned (.bool false)∧w'=w:=Any.slices_Contains_string_empty Tryz.lays110 a c x w
def Tryz.lays194_ren:Go.Shelf.Ren:=⟨fun|194=>36|n=>n,fun|31=>39|9=>9|3=>3|4=>4|0=>0|n=>n,fun|n=>n⟩
theorem Tryz.lays194:Go.Proofs.Lays.n194 Tryz.prog Tryz.lays194_ren:= {
 mixed:=K9
 f194:=Tryz.func36.trans (congrArg some K9)
 t0:=Tryz.underlying0
 a0:=Tryz.isAgg0
 z0:=Tryz.sizeOf0
 v0:=Tryz.zeroValue0
 t3:=Tryz.underlying3
 a3:=Tryz.isAgg3
 z3:=Tryz.sizeOf3
 v3:=Tryz.zeroValue3
 t4:=Tryz.underlying4
 a4:=Tryz.isAgg4
 z4:=Tryz.sizeOf4
 v4:=Tryz.zeroValue4
 t9:=Tryz.underlying9
 a9:=Tryz.isAgg9
 z9:=Tryz.sizeOf9
 v9:=Tryz.zeroValue9
 t31:=Tryz.underlying39
 a31:=Tryz.isAgg39
 z31:=Tryz.sizeOf39
 v31:=Tryz.zeroValue39}
open Go.RowKit Go.Lib Go.Sort in
theorem Tryz.slices_Compact_string_cells(b off n c:Nat)(Sx:Nat→ByteArray)(w:World)(hbig:n≤9223372036854775807)(hcap:n≤c)(hc:∀i,i<n→w.cell? ⟨b,off+i,none⟩=some (.string (Sx i)))(hf:∀j,j<n→w.frozen? ⟨b,off+j,none⟩=false):Calls Tryz.prog 36 #[.slice (some ⟨b,off,none⟩) n c] w fun e w'=>e= .returned (.slice (some ⟨b,off,none⟩) (Lib.compact (Lib.strsOf Sx n)).length c)∧∃q,w'=(w.drewN q).setCells b off ((Lib.compact (Lib.strsOf Sx n)++List.replicate (n-(Lib.compact (Lib.strsOf Sx n)).length) []).map encStr):=Any.slices_Compact_string_cells Tryz.lays194 b off n c Sx w hbig hcap hc hf
def Tryz.sortItems_ren:Go.Shelf.Ren:=⟨fun|6=>60|15=>91|14=>117|28=>141|29=>142|20=>157|21=>158|22=>159|23=>160|24=>161|25=>162|26=>163|27=>164|46=>224|47=>200|48=>201|49=>225|50=>226|57=>247|n=>n,fun|22=>130|24=>135|25=>139|3=>3|39=>176|0=>0|53=>233|55=>235|4=>4|46=>227|45=>226|50=>123|5=>5|9=>9|66=>273|70=>277|76=>302|77=>35|n=>n,fun|n=>n⟩
theorem Tryz.sortItems:Go.Proofs.SlLaysF0.n6 Tryz.prog Tryz.sortItems_ren:= {
 mixed:=K9
 f6:=⟨Tryz.f60.name,by decide,Tryz.func60.trans (congrArg some K9)⟩
 f14:=⟨Tryz.f117.name,by decide,Tryz.func117.trans (congrArg some K9)⟩
 f15:=Tryz.func91.trans (congrArg some K9)
 f20:=⟨Tryz.f157.name,by decide,Tryz.func157.trans (congrArg some K9)⟩
 f21:=⟨Tryz.f158.name,by decide,Tryz.func158.trans (congrArg some K9)⟩
 f22:=⟨Tryz.f159.name,by decide,Tryz.func159.trans (congrArg some K9)⟩
 f23:=⟨Tryz.f160.name,by decide,Tryz.func160.trans (congrArg some K9)⟩
 f24:=⟨Tryz.f161.name,by decide,Tryz.func161.trans (congrArg some K9)⟩
 f25:=⟨Tryz.f162.name,by decide,Tryz.func162.trans (congrArg some K9)⟩
 f26:=⟨Tryz.f163.name,by decide,Tryz.func163.trans (congrArg some K9)⟩
 f27:=⟨Tryz.f164.name,by decide,Tryz.func164.trans (congrArg some K9)⟩
 f28:=Tryz.func141.trans (congrArg some K9)
 f29:=Tryz.func142.trans (congrArg some K9)
 f46:=⟨Tryz.f224.name,by decide,Tryz.func224.trans (congrArg some K9)⟩
 f47:=Tryz.func200.trans (congrArg some K9)
 f48:=Tryz.func201.trans (congrArg some K9)
 f49:=⟨Tryz.f225.name,by decide,Tryz.func225.trans (congrArg some K9)⟩
 f50:=⟨Tryz.f226.name,by decide,Tryz.func226.trans (congrArg some K9)⟩
 f57:=⟨Tryz.f247.name,by decide,Tryz.func247.trans (congrArg some K9)⟩
 t0:=Tryz.underlying0
 a0:=Tryz.isAgg0
 z0:=Tryz.sizeOf0
 v0:=Tryz.zeroValue0
 t3:=Tryz.underlying3
 a3:=Tryz.isAgg3
 z3:=Tryz.sizeOf3
 v3:=Tryz.zeroValue3
 t4:=Tryz.underlying4
 a4:=Tryz.isAgg4
 z4:=Tryz.sizeOf4
 v4:=Tryz.zeroValue4
 t5:=Tryz.underlying5
 a5:=Tryz.isAgg5
 z5:=Tryz.sizeOf5
 v5:=Tryz.zeroValue5
 t9:=Tryz.underlying9
 a9:=Tryz.isAgg9
 z9:=Tryz.sizeOf9
 v9:=Tryz.zeroValue9
 t22:=Tryz.underlying130
 a22:=Tryz.isAgg130
 z22:=Tryz.sizeOf130
 v22:=Tryz.zeroValue130
 t25:=Tryz.underlying139
 a25:=Tryz.isAgg139
 z25:=Tryz.sizeOf139
 v25:=Tryz.zeroValue139
 t39:=Tryz.underlying176
 a39:=Tryz.isAgg176
 z39:=Tryz.sizeOf176
 v39:=Tryz.zeroValue176
 t45:=Tryz.underlying226
 a45:=Tryz.isAgg226
 z45:=Tryz.sizeOf226
 v45:=Tryz.zeroValue226
 t46:=Tryz.underlying227
 a46:=Tryz.isAgg227
 z46:=Tryz.sizeOf227
 v46:=Tryz.zeroValue227
 t50:=Tryz.underlying123
 a50:=Tryz.isAgg123
 z50:=Tryz.sizeOf123
 v50:=Tryz.zeroValue123
 t53:=Tryz.underlying233
 a53:=Tryz.isAgg233
 z53:=Tryz.sizeOf233
 v53:=Tryz.zeroValue233
 t55:=Tryz.underlying235
 a55:=Tryz.isAgg235
 z55:=Tryz.sizeOf235
 v55:=Tryz.zeroValue235
 t66:=Tryz.underlying273
 a66:=Tryz.isAgg273
 z66:=Tryz.sizeOf273
 v66:=Tryz.zeroValue273
 t70:=Tryz.underlying277
 a70:=Tryz.isAgg277
 z70:=Tryz.sizeOf277
 v70:=Tryz.zeroValue277
 t76:=Tryz.underlying302
 a76:=Tryz.isAgg302
 z76:=Tryz.sizeOf302
 v76:=Tryz.zeroValue302
 t77:=Tryz.underlying35
 a77:=Tryz.isAgg35
 z77:=Tryz.sizeOf35
 v77:=Tryz.zeroValue35}
def Tryz.sortMeets_ren:Go.Shelf.Ren:=⟨fun|6=>67|15=>91|14=>120|28=>141|29=>142|20=>165|21=>166|22=>167|23=>168|24=>169|25=>170|26=>171|27=>172|46=>227|47=>200|48=>201|49=>228|50=>229|57=>248|n=>n,fun|22=>57|24=>73|25=>144|3=>3|39=>176|0=>0|53=>233|55=>235|4=>4|46=>227|45=>226|50=>123|5=>5|9=>9|66=>273|70=>277|76=>302|77=>35|n=>n,fun|n=>n⟩
theorem Tryz.sortMeets:Go.Proofs.SlLaysF0.n6 Tryz.prog Tryz.sortMeets_ren:= {
 mixed:=K9
 f6:=⟨Tryz.f67.name,by decide,Tryz.func67.trans (congrArg some K9)⟩
 f14:=⟨Tryz.f120.name,by decide,Tryz.func120.trans (congrArg some K9)⟩
 f15:=Tryz.func91.trans (congrArg some K9)
 f20:=⟨Tryz.f165.name,by decide,Tryz.func165.trans (congrArg some K9)⟩
 f21:=⟨Tryz.f166.name,by decide,Tryz.func166.trans (congrArg some K9)⟩
 f22:=⟨Tryz.f167.name,by decide,Tryz.func167.trans (congrArg some K9)⟩
 f23:=⟨Tryz.f168.name,by decide,Tryz.func168.trans (congrArg some K9)⟩
 f24:=⟨Tryz.f169.name,by decide,Tryz.func169.trans (congrArg some K9)⟩
 f25:=⟨Tryz.f170.name,by decide,Tryz.func170.trans (congrArg some K9)⟩
 f26:=⟨Tryz.f171.name,by decide,Tryz.func171.trans (congrArg some K9)⟩
 f27:=⟨Tryz.f172.name,by decide,Tryz.func172.trans (congrArg some K9)⟩
 f28:=Tryz.func141.trans (congrArg some K9)
 f29:=Tryz.func142.trans (congrArg some K9)
 f46:=⟨Tryz.f227.name,by decide,Tryz.func227.trans (congrArg some K9)⟩
 f47:=Tryz.func200.trans (congrArg some K9)
 f48:=Tryz.func201.trans (congrArg some K9)
 f49:=⟨Tryz.f228.name,by decide,Tryz.func228.trans (congrArg some K9)⟩
 f50:=⟨Tryz.f229.name,by decide,Tryz.func229.trans (congrArg some K9)⟩
 f57:=⟨Tryz.f248.name,by decide,Tryz.func248.trans (congrArg some K9)⟩
 t0:=Tryz.underlying0
 a0:=Tryz.isAgg0
 z0:=Tryz.sizeOf0
 v0:=Tryz.zeroValue0
 t3:=Tryz.underlying3
 a3:=Tryz.isAgg3
 z3:=Tryz.sizeOf3
 v3:=Tryz.zeroValue3
 t4:=Tryz.underlying4
 a4:=Tryz.isAgg4
 z4:=Tryz.sizeOf4
 v4:=Tryz.zeroValue4
 t5:=Tryz.underlying5
 a5:=Tryz.isAgg5
 z5:=Tryz.sizeOf5
 v5:=Tryz.zeroValue5
 t9:=Tryz.underlying9
 a9:=Tryz.isAgg9
 z9:=Tryz.sizeOf9
 v9:=Tryz.zeroValue9
 t22:=Tryz.underlying57
 a22:=Tryz.isAgg57
 z22:=Tryz.sizeOf57
 v22:=Tryz.zeroValue57
 t25:=Tryz.underlying144
 a25:=Tryz.isAgg144
 z25:=Tryz.sizeOf144
 v25:=Tryz.zeroValue144
 t39:=Tryz.underlying176
 a39:=Tryz.isAgg176
 z39:=Tryz.sizeOf176
 v39:=Tryz.zeroValue176
 t45:=Tryz.underlying226
 a45:=Tryz.isAgg226
 z45:=Tryz.sizeOf226
 v45:=Tryz.zeroValue226
 t46:=Tryz.underlying227
 a46:=Tryz.isAgg227
 z46:=Tryz.sizeOf227
 v46:=Tryz.zeroValue227
 t50:=Tryz.underlying123
 a50:=Tryz.isAgg123
 z50:=Tryz.sizeOf123
 v50:=Tryz.zeroValue123
 t53:=Tryz.underlying233
 a53:=Tryz.isAgg233
 z53:=Tryz.sizeOf233
 v53:=Tryz.zeroValue233
 t55:=Tryz.underlying235
 a55:=Tryz.isAgg235
 z55:=Tryz.sizeOf235
 v55:=Tryz.zeroValue235
 t66:=Tryz.underlying273
 a66:=Tryz.isAgg273
 z66:=Tryz.sizeOf273
 v66:=Tryz.zeroValue273
 t70:=Tryz.underlying277
 a70:=Tryz.isAgg277
 z70:=Tryz.sizeOf277
 v70:=Tryz.zeroValue277
 t76:=Tryz.underlying302
 a76:=Tryz.isAgg302
 z76:=Tryz.sizeOf302
 v76:=Tryz.zeroValue302
 t77:=Tryz.underlying35
 a77:=Tryz.isAgg35
 z77:=Tryz.sizeOf35
 v77:=Tryz.zeroValue35}
def Tryz.sortLines_ren:Go.Shelf.Ren:=⟨fun|6=>86|15=>91|14=>132|28=>141|29=>142|20=>191|21=>192|22=>193|23=>194|24=>195|25=>196|26=>197|27=>198|46=>236|47=>200|48=>201|49=>237|50=>238|57=>259|n=>n,fun|22=>84|24=>91|25=>172|3=>3|39=>176|0=>0|53=>233|55=>235|4=>4|46=>227|45=>226|50=>123|5=>5|9=>9|66=>273|70=>277|76=>302|77=>35|n=>n,fun|n=>n⟩
theorem Tryz.sortLines:Go.Proofs.SlLaysF0.n6 Tryz.prog Tryz.sortLines_ren:= {
 mixed:=K9
 f6:=⟨Tryz.f86.name,by decide,Tryz.func86.trans (congrArg some K9)⟩
 f14:=⟨Tryz.f132.name,by decide,Tryz.func132.trans (congrArg some K9)⟩
 f15:=Tryz.func91.trans (congrArg some K9)
 f20:=⟨Tryz.f191.name,by decide,Tryz.func191.trans (congrArg some K9)⟩
 f21:=⟨Tryz.f192.name,by decide,Tryz.func192.trans (congrArg some K9)⟩
 f22:=⟨Tryz.f193.name,by decide,Tryz.func193.trans (congrArg some K9)⟩
 f23:=⟨Tryz.f194.name,by decide,Tryz.func194.trans (congrArg some K9)⟩
 f24:=⟨Tryz.f195.name,by decide,Tryz.func195.trans (congrArg some K9)⟩
 f25:=⟨Tryz.f196.name,by decide,Tryz.func196.trans (congrArg some K9)⟩
 f26:=⟨Tryz.f197.name,by decide,Tryz.func197.trans (congrArg some K9)⟩
 f27:=⟨Tryz.f198.name,by decide,Tryz.func198.trans (congrArg some K9)⟩
 f28:=Tryz.func141.trans (congrArg some K9)
 f29:=Tryz.func142.trans (congrArg some K9)
 f46:=⟨Tryz.f236.name,by decide,Tryz.func236.trans (congrArg some K9)⟩
 f47:=Tryz.func200.trans (congrArg some K9)
 f48:=Tryz.func201.trans (congrArg some K9)
 f49:=⟨Tryz.f237.name,by decide,Tryz.func237.trans (congrArg some K9)⟩
 f50:=⟨Tryz.f238.name,by decide,Tryz.func238.trans (congrArg some K9)⟩
 f57:=⟨Tryz.f259.name,by decide,Tryz.func259.trans (congrArg some K9)⟩
 t0:=Tryz.underlying0
 a0:=Tryz.isAgg0
 z0:=Tryz.sizeOf0
 v0:=Tryz.zeroValue0
 t3:=Tryz.underlying3
 a3:=Tryz.isAgg3
 z3:=Tryz.sizeOf3
 v3:=Tryz.zeroValue3
 t4:=Tryz.underlying4
 a4:=Tryz.isAgg4
 z4:=Tryz.sizeOf4
 v4:=Tryz.zeroValue4
 t5:=Tryz.underlying5
 a5:=Tryz.isAgg5
 z5:=Tryz.sizeOf5
 v5:=Tryz.zeroValue5
 t9:=Tryz.underlying9
 a9:=Tryz.isAgg9
 z9:=Tryz.sizeOf9
 v9:=Tryz.zeroValue9
 t22:=Tryz.underlying84
 a22:=Tryz.isAgg84
 z22:=Tryz.sizeOf84
 v22:=Tryz.zeroValue84
 t25:=Tryz.underlying172
 a25:=Tryz.isAgg172
 z25:=Tryz.sizeOf172
 v25:=Tryz.zeroValue172
 t39:=Tryz.underlying176
 a39:=Tryz.isAgg176
 z39:=Tryz.sizeOf176
 v39:=Tryz.zeroValue176
 t45:=Tryz.underlying226
 a45:=Tryz.isAgg226
 z45:=Tryz.sizeOf226
 v45:=Tryz.zeroValue226
 t46:=Tryz.underlying227
 a46:=Tryz.isAgg227
 z46:=Tryz.sizeOf227
 v46:=Tryz.zeroValue227
 t50:=Tryz.underlying123
 a50:=Tryz.isAgg123
 z50:=Tryz.sizeOf123
 v50:=Tryz.zeroValue123
 t53:=Tryz.underlying233
 a53:=Tryz.isAgg233
 z53:=Tryz.sizeOf233
 v53:=Tryz.zeroValue233
 t55:=Tryz.underlying235
 a55:=Tryz.isAgg235
 z55:=Tryz.sizeOf235
 v55:=Tryz.zeroValue235
 t66:=Tryz.underlying273
 a66:=Tryz.isAgg273
 z66:=Tryz.sizeOf273
 v66:=Tryz.zeroValue273
 t70:=Tryz.underlying277
 a70:=Tryz.isAgg277
 z70:=Tryz.sizeOf277
 v70:=Tryz.zeroValue277
 t76:=Tryz.underlying302
 a76:=Tryz.isAgg302
 z76:=Tryz.sizeOf302
 v76:=Tryz.zeroValue302
 t77:=Tryz.underlying35
 a77:=Tryz.isAgg35
 z77:=Tryz.sizeOf35
 v77:=Tryz.zeroValue35}
def Tryz.sortBad_ren:Go.Shelf.Ren:=⟨fun|6=>37|15=>91|14=>90|28=>141|29=>142|20=>133|21=>134|22=>135|23=>136|24=>137|25=>138|26=>139|27=>140|46=>199|47=>200|48=>201|49=>202|50=>203|57=>239|n=>n,fun|22=>27|24=>101|25=>104|3=>3|39=>176|0=>0|53=>233|55=>235|4=>4|46=>227|45=>226|50=>123|5=>5|9=>9|66=>273|70=>277|76=>302|77=>35|n=>n,fun|n=>n⟩
theorem Tryz.sortBad:Go.Proofs.SlLaysF0.n6 Tryz.prog Tryz.sortBad_ren:= {
 mixed:=K9
 f6:=⟨Tryz.f37.name,by decide,Tryz.func37.trans (congrArg some K9)⟩
 f14:=⟨Tryz.f90.name,by decide,Tryz.func90.trans (congrArg some K9)⟩
 f15:=Tryz.func91.trans (congrArg some K9)
 f20:=⟨Tryz.f133.name,by decide,Tryz.func133.trans (congrArg some K9)⟩
 f21:=⟨Tryz.f134.name,by decide,Tryz.func134.trans (congrArg some K9)⟩
 f22:=⟨Tryz.f135.name,by decide,Tryz.func135.trans (congrArg some K9)⟩
 f23:=⟨Tryz.f136.name,by decide,Tryz.func136.trans (congrArg some K9)⟩
 f24:=⟨Tryz.f137.name,by decide,Tryz.func137.trans (congrArg some K9)⟩
 f25:=⟨Tryz.f138.name,by decide,Tryz.func138.trans (congrArg some K9)⟩
 f26:=⟨Tryz.f139.name,by decide,Tryz.func139.trans (congrArg some K9)⟩
 f27:=⟨Tryz.f140.name,by decide,Tryz.func140.trans (congrArg some K9)⟩
 f28:=Tryz.func141.trans (congrArg some K9)
 f29:=Tryz.func142.trans (congrArg some K9)
 f46:=⟨Tryz.f199.name,by decide,Tryz.func199.trans (congrArg some K9)⟩
 f47:=Tryz.func200.trans (congrArg some K9)
 f48:=Tryz.func201.trans (congrArg some K9)
 f49:=⟨Tryz.f202.name,by decide,Tryz.func202.trans (congrArg some K9)⟩
 f50:=⟨Tryz.f203.name,by decide,Tryz.func203.trans (congrArg some K9)⟩
 f57:=⟨Tryz.f239.name,by decide,Tryz.func239.trans (congrArg some K9)⟩
 t0:=Tryz.underlying0
 a0:=Tryz.isAgg0
 z0:=Tryz.sizeOf0
 v0:=Tryz.zeroValue0
 t3:=Tryz.underlying3
 a3:=Tryz.isAgg3
 z3:=Tryz.sizeOf3
 v3:=Tryz.zeroValue3
 t4:=Tryz.underlying4
 a4:=Tryz.isAgg4
 z4:=Tryz.sizeOf4
 v4:=Tryz.zeroValue4
 t5:=Tryz.underlying5
 a5:=Tryz.isAgg5
 z5:=Tryz.sizeOf5
 v5:=Tryz.zeroValue5
 t9:=Tryz.underlying9
 a9:=Tryz.isAgg9
 z9:=Tryz.sizeOf9
 v9:=Tryz.zeroValue9
 t22:=Tryz.underlying27
 a22:=Tryz.isAgg27
 z22:=Tryz.sizeOf27
 v22:=Tryz.zeroValue27
 t25:=Tryz.underlying104
 a25:=Tryz.isAgg104
 z25:=Tryz.sizeOf104
 v25:=Tryz.zeroValue104
 t39:=Tryz.underlying176
 a39:=Tryz.isAgg176
 z39:=Tryz.sizeOf176
 v39:=Tryz.zeroValue176
 t45:=Tryz.underlying226
 a45:=Tryz.isAgg226
 z45:=Tryz.sizeOf226
 v45:=Tryz.zeroValue226
 t46:=Tryz.underlying227
 a46:=Tryz.isAgg227
 z46:=Tryz.sizeOf227
 v46:=Tryz.zeroValue227
 t50:=Tryz.underlying123
 a50:=Tryz.isAgg123
 z50:=Tryz.sizeOf123
 v50:=Tryz.zeroValue123
 t53:=Tryz.underlying233
 a53:=Tryz.isAgg233
 z53:=Tryz.sizeOf233
 v53:=Tryz.zeroValue233
 t55:=Tryz.underlying235
 a55:=Tryz.isAgg235
 z55:=Tryz.sizeOf235
 v55:=Tryz.zeroValue235
 t66:=Tryz.underlying273
 a66:=Tryz.isAgg273
 z66:=Tryz.sizeOf273
 v66:=Tryz.zeroValue273
 t70:=Tryz.underlying277
 a70:=Tryz.isAgg277
 z70:=Tryz.sizeOf277
 v70:=Tryz.zeroValue277
 t76:=Tryz.underlying302
 a76:=Tryz.isAgg302
 z76:=Tryz.sizeOf302
 v76:=Tryz.zeroValue302
 t77:=Tryz.underlying35
 a77:=Tryz.isAgg35
 z77:=Tryz.sizeOf35
 v77:=Tryz.zeroValue35}
end Go.Proofs
namespace Go.Proofs.YtfkgjbdeicggaaaGreat
open Go.RowKit Go.Proofs.Px
theorem pY{a b:ByteArray}(h:a=b):Ending.returned (.string a)= .returned (.string b):=by rw[h]
theorem drop_cons(s:ByteArray)(k:Nat)(h:k<s.size):s.data.toList.drop k=s[k]::s.data.toList.drop (k+1):=by
 rw[List.drop_eq_getElem_cons (by simpa using h)];rfl
theorem nG(s:ByteArray)(k:Nat)(h:¬k<s.size):s.data.toList.drop k=[]:=by
 rw[List.drop_eq_nil_iff];simp;exact Nat.le_of_not_lt h
theorem I'(a b:UInt8):((a.toNat:Int) ==(b.toNat:Int))=(a ==b):=by
 rw[Bool.eq_iff_iff,beq_iff_eq,beq_iff_eq,←UInt8.toNat_inj];omega
def hasB(l:L)(c:UInt8):Bool:=l.contains c
theorem Cd(x:UInt8)(l:L)(c:UInt8):hasB (x::l) c=(x ==c||hasB l c):=by
 simp only[hasB,List.contains_cons];rw[show(c ==x)=(x ==c)from by rw[Bool.eq_iff_iff,beq_iff_eq,beq_iff_eq];exact eq_comm]
theorem vX(c:UInt8):decide (48≤(c.toNat:Int)∧(c.toNat:Int)≤57)=isDigit c:=by
 rw[Bool.eq_iff_iff];simp[isDigit,UInt8.le_iff_toNat_le];omega
theorem tZ(c:UInt8):decide ((97≤(c.toNat:Int)∧(c.toNat:Int)≤122)∨(65≤(c.toNat:Int)∧(c.toNat:Int)≤90))=cQ c:=by
 rw[Bool.eq_iff_iff];simp[cQ,UInt8.le_iff_toNat_le];omega
theorem Ce(c:UInt8)(w:World):Calls Tryz.prog 246 #[.int .u8 c.toNat] w fun e w'=>e= .returned (.bool (isDigit c))∧w=w':=by
 go_enter Tryz.func246,Tryz.ntmps246;go_wp2
 all_goals go_ret
 all_goals exact⟨ag (by rw[←vX];rw[Bool.eq_iff_iff];simp;omega),rfl⟩
theorem qL(c:UInt8)(w:World):Calls Tryz.prog 222 #[.int .u8 c.toNat] w fun e w'=>e= .returned (.bool (cQ c))∧w=w':=by
 go_enter Tryz.func222,Tryz.ntmps222;go_wp2
 all_goals go_ret
 all_goals exact⟨ag (by rw[←tZ];rw[Bool.eq_iff_iff];simp;omega),rfl⟩
theorem E5(c:UInt8)(w:World):Calls Tryz.prog 221 #[.int .u8 c.toNat] w fun e w'=>e= .returned (.bool (isWord c))∧w=w':=by
 have h95:((c.toNat:Int) ==95)=(c ==95):=I' c 95;have e:isWord c=(cQ c||isDigit c||c ==95):=rfl;have E:=aa e;clear e;cases h1:cQ c<;>cases h2:isDigit c
 all_goals
  have H1:=aa h1;have H2:=aa h2;have c1:=qL c w;have c2:=Ce c w;rw[h1]at c1;rw[h2]at c2;have C1:=aa c1;have C2:=aa c2;have H9:=aa h95;clear h1 h2 c1 c2;go_enter Tryz.func221,Tryz.ntmps221;go_wp2_with (first|(go_at_call 222;refine C1.out.mono ?_;rintro e w' ⟨rfl,rfl⟩)|(go_at_call 246;refine C2.out.mono ?_;rintro e w' ⟨rfl,rfl⟩))
  all_goals go_ret
  all_goals exact⟨ag (by rw[E.out,H1.out,H2.out];simp),rfl⟩
theorem Cf(c:UInt8):hasB [32,9,10] c=nv c:=by
 simp only[hasB,nv,List.contains_cons,List.contains_nil,Bool.or_false,Bool.or_assoc]
def fD:L→Bool
 | []=>false
 |c::_=>cQ c
def dI(l:L):Bool:=l.all isWord
theorem lU(l:L):name l=(dI l&&fD l&&decide (l.length≤24)):=by cases l<;>rfl
theorem lV(s:ByteArray):s.data.toList.length=s.size:=rfl
theorem oP(s:ByteArray)(w:World)(hs:s.size≤maxLen):Calls Tryz.prog 150 #[.string s] w fun e w'=>e= .returned (.bool (name s.data.toList))∧w=w':=by
 unfold maxLen at hs;obtain⟨R,hR⟩:∃R,R=name s.data.toList:=⟨_,rfl⟩;rw[←hR];have HR:=aa hR;clear hR;go_enter Tryz.func150,Tryz.ntmps150;go_wp2
 go_loop [3] (fun i=>∃k:Nat,k≤s.size∧i= .int .i64 k∧Hid (dI (s.data.toList.drop k)=dI s.data.toList)) (fun i=>s.size-(intOf i).toNat)
 case atStart=>exact⟨0,Nat.zero_le _,rfl,rfl⟩
 case round=>
  obtain⟨k,hk,rfl,hrel⟩:=hrel;by_cases hlt:k<s.size
  ·have h1:=aa ((congrArg dI (drop_cons s k hlt)).symm.trans hrel.out);clear hrel;cases hw:isWord s[k]
   all_goals
    have c1:=E5 s[k] w;rw[hw]at c1;have C1:=aa c1;have HW:=aa hw;clear c1 hw;go_wp2_with (go_at_call 221;refine C1.out.mono ?_;rintro e w' ⟨rfl,rfl⟩)
   ·go_ret;refine⟨ag ?_,rfl⟩;rw[HR.out,lU,←h1.out];simp[dI,HW.out]
   ·go_round
    case rel=>
     refine⟨k+1,O9,by go_num,?_⟩;show _=_;rw[←h1.out];simp[dI,HW.out]
    case measure=>simp[intOf];omega
  ·have h1:Hid (dI s.data.toList=true):=by
    show _=_;rw[←hrel.out,nG s k hlt];rfl
   clear hrel;by_cases h0:0<s.size
   ·have hd:=aa (drop_cons s 0 h0);by_cases h24:s.size≤24
    ·have c1:=aa (qL s[0] w);have hh:Hid (R=cQ s[0]):=by
      show _=_;have e:=hd.out;rw[List.drop_zero]at e;rw[HR.out,lU,h1.out,lV];rw[e];simp[fD,h24]
     go_wp2_with (go_at_call 222;refine c1.out.mono ?_;rintro e w' ⟨rfl,rfl⟩)
     all_goals go_ret
     all_goals exact⟨ag (by rw[hh.out]),rfl⟩
    ·go_wp2_with fail
     all_goals go_ret
     refine⟨ag ?_,rfl⟩;rw[HR.out,lU,lV];simp[h24]
   ·go_wp2_with fail
    all_goals go_ret
    refine⟨ag ?_,rfl⟩;(have:s.data.toList=[]:=by have:=nG s 0 h0;simpa using this);rw[HR.out,this];rfl
theorem GQ(c:UInt8):hasB [59,44,46,58,40,41,123,125,91,93,61,60,62,47,45] c=AN c:=rfl
def AY(w:World)(g o:Nat)(ts:List Jn):Prop:=
 ∀i t,ts[i]? =some t→w.cell? ⟨g,o+i*3,none⟩=some (.int .i64 (t.kind:Int))∧w.cell? ⟨g,o+i*3+1,none⟩=some (.string ⟨t.text.toArray⟩)∧w.cell? ⟨g,o+i*3+2,none⟩=some (.int .i64 (t.off:Int))∧t.off≤1000000
def ID(w:World)(v:Value)(ts:List Jn):Prop:=
 ts.length≤1000000∧((ts=[]∧∃A c,v= .slice A 0 c)∨∃g o c,v= .slice (some ⟨g,o,none⟩) ts.length c∧g<w.heap.size∧AY w g o ts)
theorem AY.below{w w':World}{g o:Nat}{ts:List Jn}(h:AY w g o ts)(hg:g<w.heap.size)(hb:Below w.heap.size w w'):AY w' g o ts:=by
 intro i t ht;obtain⟨h1,h2,h3,h4⟩:=h i t ht;exact⟨(hb.cell (p:=⟨g,_,none⟩) hg).trans h1,(hb.cell (p:=⟨g,_,none⟩) hg).trans h2,(hb.cell (p:=⟨g,_,none⟩) hg).trans h3,h4⟩
theorem ID.below{w w':World}{v:Value}{ts:List Jn}(h:ID w v ts)(hb:Below w.heap.size w w'):ID w' v ts:=by
 obtain⟨hl,h⟩:=h;refine⟨hl,?_⟩;rcases h with h|⟨g,o,c,h1,h2,h3⟩
 ·exact .inl h
 ·exact .inr ⟨g,o,c,h1,Nat.lt_of_lt_of_le h2 hb.size,h3.below h2 hb⟩
def jH:Array Value:=Array.replicate 256 (.int .u8 0)
@[go_sem] theorem GR(w:World):(zeroValue 220).run Tryz.prog w= .ok (.agg jH) w:=K9
def ua(k:Nat):Nat:=
 let c:=UInt8.ofNat k
 if cQ c then 3 else if isDigit c then 4 else if nv c then 1 else if AN c then 6 else 0
def cls(k:Nat):Nat:=if k=35 then 2 else if k=95 then 5 else if k=34 then 7 else ua k
def gR(k:Nat):Value:=.int .u8 (ua k:Int)
def GS(k:Nat):Value:=.int .u8 (cls k:Int)
def dP:Array Value:=((List.range 256).map GS).toArray
def sG(k:Nat):List Value:=(List.range k).map gR++List.replicate (256-k) (.int .u8 0)
def gX(k:Nat):Array Value:=(sG k).toArray
theorem qM(k:Nat)(h:k≤256):(gX k).size=256:=by
 simp[gX,sG];omega
theorem vY(k:Nat)(h:k<256):(gX k)[k]? =some (.int .u8 0):=by
 simp only[gX,List.getElem?_toArray,sG];rw[List.getElem?_append_right (by simp),List.getElem?_replicate];rw[if_pos (by simp;omega)]
theorem yL:gX 0=jH:=by
 simp only[gX,sG,List.range_zero,List.map_nil,List.nil_append,Nat.sub_zero,jH];exact List.toArray_replicate ..
theorem sH(k:Nat)(h:k<256)(v:Value)(hv:v=gR k):(gX k).setIfInBounds k v=gX (k+1):=by
 subst hv;simp only[gX,sG,List.setIfInBounds_toArray];congr 1;rw[List.range_succ,List.map_append,List.set_append_right _ _ (by simp)];simp only[List.length_map,List.length_range,Nat.sub_self,List.map_cons,List.map_nil,List.append_assoc];congr 1;obtain⟨m,hm⟩:∃m,256-k=m+1:=⟨255-k,O9⟩;rw[hm,show 256-(k+1)=m by omega,List.replicate_succ];rfl
theorem yM(k:Nat)(h:k<256)(hv:ua k=0):gX (k+1)=gX k:=by
 rw[←sH k h (.int .u8 0) (by rw[gR,hv];rfl)];apply Array.ext_getElem?;intro i;rw[Array.getElem?_setIfInBounds];split
 ·rename_i e;subst e;rw[vY k h,if_pos (by rw[qM k O9];exact h)]
 ·rfl
theorem j5(k:Nat)(h:k<256):(gX 256)[k]? =some (gR k):=by
 simp only[gX,List.getElem?_toArray,sG];simp[h]
theorem Cg:(((gX 256).setIfInBounds 35 (.int .u8 2)).setIfInBounds 95 (.int .u8 5)).setIfInBounds 34 (.int .u8 7)=dP:=by
 apply Array.ext_getElem?;intro i;have hsz:=qM 256 (Nat.le_refl _);have harr:∀i,i<256→dP[i]? =some (GS i):=by
  intro i hi;simp[dP,hi]
 simp only[Array.getElem?_setIfInBounds,Array.size_setIfInBounds,hsz];by_cases h34:34=i
 ·subst h34;rw[harr 34 O9];rfl
 ·rw[if_neg h34];by_cases h95:95=i
  ·subst h95;rw[harr 95 O9];rfl
  ·rw[if_neg h95];by_cases h35:35=i
   ·subst h35;rw[harr 35 O9];rfl
   ·rw[if_neg h35];by_cases hi:i<256
    ·rw[j5 i hi,harr i hi];simp only[GS,cls,gR];rw[if_neg (fun e=>h35 e.symm),if_neg (fun e=>h95 e.symm),if_neg (fun e=>h34 e.symm)]
    ·rw[Array.getElem?_eq_none (by rw[hsz];omega),Array.getElem?_eq_none (by simp[dP];omega)]
theorem fM:dP.size=256:=by simp[dP]
theorem qN:dP.all (·.oneCell')=true:=by
 rw[Array.all_eq_true_iff_forall_mem];intro v hv;simp only[dP,List.mem_toArray,List.mem_map]at hv;obtain⟨k,_,rfl⟩:=hv;rfl
theorem ie:(Tryz.prog.info? 220).map (·.size)=some 256:=K9
theorem H5(k:Nat)(h:k<256):(UInt8.ofNat k).toNat=k:=by simp;omega
theorem vZ(k:Nat)(h:k<256):cQ (UInt8.ofNat k)=(decide (97≤k∧k≤122)||decide (65≤k∧k≤90)):=by
 rw[Bool.eq_iff_iff];simp[cQ,UInt8.le_iff_toNat_le,H5 k h]
theorem AZ(k:Nat)(h:k<256):isDigit (UInt8.ofNat k)=decide (48≤k∧k≤57):=by
 rw[Bool.eq_iff_iff];simp[isDigit,UInt8.le_iff_toNat_le,H5 k h]
theorem kY(l:L)(c:UInt8):decide (0≤Lib.indexByte l c)=hasB l c:=by
 induction l with
 |nil=>rfl
 |cons x l ih=>
  rw[Cd,←ih];have hge:=Lib.indexByte_ge l c;by_cases h:x=c
  ·subst h;simp[Lib.indexByte]
  ·(have h1:(x ==c)=false:=by simpa using h);rw[h1,Bool.false_or];simp only[Lib.indexByte,h1,Bool.false_eq_true,if_false];by_cases h2:Lib.indexByte l c= -1
   ·simp[h2]
   ·(have h3:(Lib.indexByte l c == -1)=false:=by simpa using h2);simp only[h3,Bool.false_eq_true,if_false];rw[Bool.eq_iff_iff];simp;omega
theorem pg(k:Nat)(w:World)(b:Bool)(hb:nv (UInt8.ofNat k)=b):Calls Tryz.prog 190 #[.string ⟨#[32,9,10]⟩,.int .u8 (k:Int)] w fun e w'=>(∃n:Int,e= .returned (.int .i64 n)∧decide (0≤n)=b)∧w=w':=by
 refine(Tryz.strings_IndexByte ⟨#[32,9,10]⟩ k w).mono ?_;rintro e w' ⟨rfl,rfl⟩;refine⟨⟨_,rfl,?_⟩,rfl⟩;rw[kY,show(ByteArray.mk #[32,9,10]).data.toList=[32,9,10]from rfl,Cf];exact hb
theorem sI(k:Nat)(w:World)(b:Bool)(hb:AN (UInt8.ofNat k)=b):Calls Tryz.prog 190 #[.string ⟨#[59,44,46,58,40,41,123,125,91,93,61,60,62,47,45]⟩,.int .u8 (k:Int)] w fun e w'=>(∃n:Int,e= .returned (.int .i64 n)∧decide (0≤n)=b)∧w=w':=by
 refine(Tryz.strings_IndexByte ⟨#[59,44,46,58,40,41,123,125,91,93,61,60,62,47,45]⟩ k w).mono ?_;rintro e w' ⟨rfl,rfl⟩;refine⟨⟨_,rfl,?_⟩,rfl⟩;rw[kY,show(ByteArray.mk #[59,44,46,58,40,41,123,125,91,93,61,60,62,47,45]).data.toList=[59,44,46,58,40,41,123,125,91,93,61,60,62,47,45]from rfl,GQ];exact hb
def gv(B k:Nat)(w wr:World):Prop:=
 wr.heap[B+1]? =some (.cells (gX k) 220 (0,0))∧wr.heap[B]? =some (.cells jH 220 (0,0))∧Below B w wr
theorem gv.start(w:World):gv w.heap.size 0 w ((w.alloc (.cells jH 220)).alloc (.cells jH 220)):=by
 refine⟨?_,?_,((Below.refl _ _).alloc (Nat.le_refl _) _).alloc (by simp) _⟩
 ·rw[yL];have:=heap_alloc_new (w.alloc (.cells jH 220)) (.cells jH 220);rwa [World.size_alloc]at this
 ·rw[Below.heap_alloc _ _ _ (by simp)];exact heap_alloc_new w _
theorem gv.cell{B k:Nat}{w wr:World}(h:gv B k w wr)(i:Nat):wr.cell? ⟨B+1,i,none⟩=(gX k)[i]? :=cell_of_row wr _ i _ _ _ h.1
theorem gv.frozen{B k:Nat}{w wr:World}(h:gv B k w wr)(i:Nat):wr.frozen? ⟨B+1,i,none⟩=false:=by
 have:=h.1;simp[World.frozen?,this]
theorem gv.set_{B k:Nat}{w wr:World}(h:gv B k w wr)(hk:k<256)(v:Value)(hv:v=gR k):gv B (k+1) w (wr.setCell ⟨B+1,k,none⟩ v):=by
 obtain⟨h1,h2,h3⟩:=h;refine⟨?_,?_,h3.setCell (p:=⟨B+1,k,none⟩) (Nat.le_succ _) _⟩
 ·rw[←sH k hk v hv];simp[World.setCell,Array.getElem?_modify,h1]
 ·rw[Below.heap_setCell _ _ _ _ (by simp)];exact h2
theorem gv.stay{B k:Nat}{w wr:World}(h:gv B k w wr)(hk:k<256)(hv:ua k=0):gv B (k+1) w wr:=by
 obtain⟨h1,h2,h3⟩:=h;exact⟨by rw[yM k hk hv];exact h1,h2,h3⟩
theorem wh(w:World):Calls Tryz.prog 129 #[] w fun e w'=>e= .returned (.agg dP)∧Below w.heap.size w w':=by
 have hst:=gv.start w;have HST:=aa hst;clear hst;go_enter Tryz.func129,Tryz.ntmps129;go_wp2;go_loopw [4] (fun i wr=>∃k:Nat,k≤256∧i= .int .i64 k∧Hid (gv w.heap.size k w wr)) (fun i _=>256-(intOf i).toNat)
 case atStart=>exact⟨0,Nat.zero_le _,rfl,HST⟩
 case round=>
  clear HST;obtain⟨k,hk,rfl,hrel⟩:=hrel;by_cases hlt:k<256
  ·have c1:wr.cell? ⟨w.heap.size+1,k,none⟩=some (.int .u8 0):=(hrel.out.cell k).trans (vY k hlt);have f1:=hrel.out.frozen k;cases hl:cQ (UInt8.ofNat k)
   ·have hl2:=hl;rw[vZ k hlt,Bool.or_eq_false_iff,decide_eq_false_iff_not,decide_eq_false_iff_not]at hl2;have e1:k<97∨122<k:=O9;have e2:k<65∨90<k:=O9;clear hl2;cases hd:isDigit (UInt8.ofNat k)
    ·have hd2:=hd;rw[AZ k hlt,decide_eq_false_iff_not]at hd2;have e3:k<48∨57<k:=O9;clear hd2;have e12:k<65∨(90<k∧k<97)∨122<k:=O9;clear e1 e2;cases hb:nv (UInt8.ofNat k)
     ·have C1:=aa (fun w=>pg k w _ hb);cases hs:AN (UInt8.ofNat k)
      ·have C2:=aa (fun w=>sI k w _ hs);have hnew:=hrel.out.stay hlt (by simp only[ua,hl,hd,hb,hs];rfl);have HN:=aa hnew;clear hnew hl hd hb hs c1 f1 hrel;rcases e12 with e1|⟨e1,e2⟩|e1<;>rcases e3 with e3|e3<;>try (exfalso;omega)
       all_goals
        go_wp2_with (go_at_call 190;first|(refine(C1.out _).mono ?_;rintro e w' ⟨⟨n,rfl,hn⟩,rfl⟩)|(refine(C2.out _).mono ?_;rintro e w' ⟨⟨n2,rfl,hn2⟩,rfl⟩));go_roundw
        case rel=>exact⟨k+1,O9,by go_num,HN⟩
        case measure=>simp[intOf];omega
      ·have C2:=aa (fun w=>sI k w _ hs);(have hv:Value.int .u8 6=gR k:=by simp only[gR,ua,hl,hd,hb,hs];rfl);have hnew:=hrel.out.set_ hlt _ hv;have HN:=aa hnew;clear hnew hl hd hb hs hv hrel;rcases e12 with e1|⟨e1,e2⟩|e1<;>rcases e3 with e3|e3<;>try (exfalso;omega)
       all_goals
        go_wp2_with (go_at_call 190;first|(refine(C1.out _).mono ?_;rintro e w' ⟨⟨n,rfl,hn⟩,rfl⟩)|(refine(C2.out _).mono ?_;rintro e w' ⟨⟨n2,rfl,hn2⟩,rfl⟩));go_roundw
        case rel=>exact⟨k+1,O9,by go_num,HN⟩
        case measure=>simp[intOf];omega
     ·have C1:=aa (fun w=>pg k w _ hb);(have hv:Value.int .u8 1=gR k:=by simp only[gR,ua,hl,hd,hb];rfl);have hnew:=hrel.out.set_ hlt _ hv;have HN:=aa hnew;clear hnew hl hd hb hv hrel;rcases e12 with e1|⟨e1,e2⟩|e1<;>rcases e3 with e3|e3<;>try (exfalso;omega)
      all_goals
       go_wp2_with (go_at_call 190;refine(C1.out _).mono ?_;rintro e w' ⟨⟨n,rfl,hn⟩,rfl⟩);go_roundw
       case rel=>exact⟨k+1,O9,by go_num,HN⟩
       case measure=>simp[intOf];omega
    ·have hd2:=hd;rw[AZ k hlt,decide_eq_true_eq]at hd2;obtain⟨d1,d2⟩:=hd2;(have hv:Value.int .u8 4=gR k:=by simp only[gR,ua,hl,hd];rfl);have hnew:=hrel.out.set_ hlt _ hv;have HN:=aa hnew;clear hnew hv hl hd e2;have e1:k<97:=O9;go_wp2;go_roundw
     case rel=>exact⟨k+1,O9,by go_num,HN⟩
     case measure=>simp[intOf];omega
   ·have hl2:=hl;rw[vZ k hlt,Bool.or_eq_true,decide_eq_true_eq,decide_eq_true_eq]at hl2;(have hv:Value.int .u8 3=gR k:=by simp only[gR,ua,hl];rfl);have hnew:=hrel.out.set_ hlt _ hv;have HN:=aa hnew;clear hnew hv hl;rcases hl2 with⟨d1,d2⟩|⟨d1,d2⟩
    ·go_wp2;go_roundw
     case rel=>exact⟨k+1,O9,by go_num,HN⟩
     case measure=>simp[intOf];omega
    ·go_wp2;go_roundw
     case rel=>exact⟨k+1,O9,by go_num,HN⟩
     case measure=>simp[intOf];omega
  ·(obtain rfl:k=256:=by omega);have c1:wr.cell? ⟨w.heap.size+1,35,none⟩=some (gR 35):=(hrel.out.cell 35).trans (j5 35 O9);have c2:wr.cell? ⟨w.heap.size+1,95,none⟩=some (gR 95):=(hrel.out.cell 95).trans (j5 95 O9);have c3:wr.cell? ⟨w.heap.size+1,34,none⟩=some (gR 34):=(hrel.out.cell 34).trans (j5 34 O9);have f1:=hrel.out.frozen 35;have f2:=hrel.out.frozen 95;have f3:=hrel.out.frozen 34;obtain⟨g1,g2,g3⟩:=hrel.out
   have G1:Hid ((((wr.setCell ⟨w.heap.size+1,35,none⟩ (.int .u8 2)).setCell ⟨w.heap.size+1,95,none⟩ (.int .u8 5)).setCell ⟨w.heap.size+1,34,none⟩ (.int .u8 7)).heap[w.heap.size+1]? =some (.cells dP 220 (0,0))):=by
    show _=_;rw[←Cg];simp[World.setCell,Array.getElem?_modify,g1]
   have G2:Hid ((((wr.setCell ⟨w.heap.size+1,35,none⟩ (.int .u8 2)).setCell ⟨w.heap.size+1,95,none⟩ (.int .u8 5)).setCell ⟨w.heap.size+1,34,none⟩ (.int .u8 7)).heap[w.heap.size]? =some (.cells jH 220 (0,0))):=by
    show _=_;rw[Below.heap_setCell _ _ _ _ (by simp),Below.heap_setCell _ _ _ _ (by simp),Below.heap_setCell _ _ _ _ (by simp)];exact g2
   have G3:=aa (((g3.setCell (p:=⟨w.heap.size+1,35,none⟩) (Nat.le_succ _) (.int .u8 2)).setCell (p:=⟨w.heap.size+1,95,none⟩) (Nat.le_succ _) (.int .u8 5)).setCell (p:=⟨w.heap.size+1,34,none⟩) (Nat.le_succ _) (.int .u8 7));clear g1 g2 g3 hrel;go_wp2_with (first
    |(refine wpList_load_row rfl 220 (.tmp 1) rfl (w.heap.size+1) rfl 220 dP (0,0) _ G1.out Tryz.underlying220 rfl (by rw[fM];exact ie) ?_)
    |(refine wpList_store_row rfl 220 (.tmp 0) (.tmp 49) rfl w.heap.size dP rfl rfl 220 jH G2.out (by rw[fM];exact ie) (by rw[fM];simp[jH]) qN ?_))
   refine bodyPost_ret (v:=.agg dP) (results_cell_row rfl _ _ w.heap.size 220 dP (0,0) _ rfl (setRow_heap _ _ _ _ _ _ G2.out) Tryz.underlying220 rfl (by rw[fM];exact ie)) rfl ⟨rfl,?_⟩;exact G3.out.trans ⟨rfl,rfl,rfl,by simp[World.setRow],fun i hi=>setRow_other _ _ _ _ O9⟩
