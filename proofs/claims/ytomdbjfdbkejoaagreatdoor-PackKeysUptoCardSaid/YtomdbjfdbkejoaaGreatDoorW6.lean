/- A part of the proof, joined of several texts: the verification layer, contracts of functions, plain law. -/
import Derived.Test.YtomdbjfdbkejoaaGreatDoorW5
import Derived.Test.YtomdbjfdbkejoaaGreatDoorProg
set_option maxHeartbeats 64000000
set_option linter.unusedSimpArgs false
set_option linter.unusedVariables false
set_option linter.unusedSectionVars false
set_option maxRecDepth 20000
namespace Go.Proofs.YtomdbjfdbkejoaaGreatDoor
open Go Go.V Go.Proofs
def T:Tys:=fun t=>match t with
 |1|31|33|34|35|36|38|40|41|42|43|44|46|47|49|50|51|52|53|55|56|59|60|61|62|63|64|65|66|67|72|73|75|76|79|80|81|83|85|87|88|90|91|92|93|94|95|96|97|98|102|103|105|111|112|113|114|115|116|118|120|121|122|123|124|125|126|127|128|130|136|137|138|139|140|141|142|143|144|149|150|151|153|154|155|156|157|160|161|162|164|165|166|167|169|170|173|174|175|176|178|179|180|182|187|189|191|192|193|195|196|197|200|201|209=>⟨.func,1,8,[.nilFunc],false⟩
 |2|3|29|171=>⟨.int .i64,1,8,[(.int .i64 0)],false⟩
 |4=>⟨.bool,1,1,[(.bool false)],false⟩
 |5=>⟨.int .u8,1,1,[(.int .u8 0)],false⟩
 |9=>⟨.string,1,16,[(.string ⟨#[]⟩)],false⟩
 |12|86|99|190=>⟨.int .u64,1,8,[(.int .u64 0)],false⟩
 |13=>⟨.struct [(0,9),(1,12)],2,24,[(.string ⟨#[]⟩),(.int .u64 0)],false⟩
 |20=>⟨.iface,1,16,[.nilIface],false⟩
 |21=>⟨.int .i32,1,4,[(.int .i32 0)],false⟩
 |22=>⟨.arr 256 5,256,256,List.replicate 256 (.int .u8 0),true⟩
 |23=>⟨.slice 24,1,24,[(.slice none 0 0)],false⟩
 |24=>⟨.slice 3,1,24,[(.slice none 0 0)],false⟩
 |25=>⟨.slice 9,1,24,[(.slice none 0 0)],false⟩
 |26|27=>⟨.struct [(0,22),(256,3),(257,23),(258,24),(259,25)],260,336,List.replicate 256 (.int .u8 0)++[(.int .i64 0),(.slice none 0 0),(.slice none 0 0),(.slice none 0 0)],false⟩
 |28=>⟨.slice 5,1,24,[(.slice none 0 0)],false⟩
 |32=>⟨.int .u32,1,4,[(.int .u32 0)],false⟩
 |48=>⟨.ptr 71,1,8,[(.pointer none)],false⟩
 |57|58=>⟨.struct [(0,28),(1,4)],2,32,[(.slice none 0 0),(.bool false)],false⟩
 |68=>⟨.ptr 108,1,8,[(.pointer none)],false⟩
 |69=>⟨.slice 77,1,24,[(.slice none 0 0)],false⟩
 |70|71=>⟨.struct [(0,27),(260,27),(520,28),(521,68),(522,69)],523,728,List.replicate 256 (.int .u8 0)++[(.int .i64 0),(.slice none 0 0),(.slice none 0 0),(.slice none 0 0)]++List.replicate 256 (.int .u8 0)++[(.int .i64 0),(.slice none 0 0),(.slice none 0 0),(.slice none 0 0),(.slice none 0 0),(.pointer none),(.slice none 0 0)],false⟩
 |77=>⟨.arr 2 3,2,16,[(.int .i64 0),(.int .i64 0)],true⟩
 |82=>⟨.slice 101,1,24,[(.slice none 0 0)],false⟩
 |84=>⟨.ptr 58,1,8,[(.pointer none)],false⟩
 |89=>⟨.slice 65,1,24,[(.slice none 0 0)],false⟩
 |100|101=>⟨.arr 4 99,4,32,[(.int .u64 0),(.int .u64 0),(.int .u64 0),(.int .u64 0)],true⟩
 |104=>⟨.arr 2 5,2,2,[(.int .u8 0),(.int .u8 0)],true⟩
 |106=>⟨.slice 110,1,24,[(.slice none 0 0)],false⟩
 |107|108=>⟨.struct [(0,106),(1,3)],2,32,[(.slice none 0 0),(.int .i64 0)],false⟩
 |109|110|158|159=>⟨.struct [(0,3),(1,3),(2,3)],3,24,[(.int .i64 0),(.int .i64 0),(.int .i64 0)],false⟩
 |117=>⟨.arr 256 4,256,256,List.replicate 256 (.bool false),true⟩
 |129=>⟨.ptr 135,1,8,[(.pointer none)],false⟩
 |131=>⟨.slice 159,1,24,[(.slice none 0 0)],false⟩
 |132=>⟨.slice 23,1,24,[(.slice none 0 0)],false⟩
 |133=>⟨.map 77 3,1,8,[(.map none)],false⟩
 |134|135=>⟨.struct [(0,24),(1,24),(2,24),(3,131),(4,132),(5,69),(6,133),(7,3)],8,160,[(.slice none 0 0),(.slice none 0 0),(.slice none 0 0),(.slice none 0 0),(.slice none 0 0),(.slice none 0 0),(.map none),(.int .i64 0)],false⟩
 |145=>⟨.map 104 5,1,8,[(.map none)],false⟩
 |147=>⟨.ptr 110,1,8,[(.pointer none)],false⟩
 |148=>⟨.map 5 5,1,8,[(.map none)],false⟩
 |152=>⟨.slice 4,1,24,[(.slice none 0 0)],false⟩
 |163=>⟨.slice 152,1,24,[(.slice none 0 0)],false⟩
 |181=>⟨.map 3 3,1,8,[(.map none)],false⟩
 |183=>⟨.ptr 159,1,8,[(.pointer none)],false⟩
 |184=>⟨.map 9 3,1,8,[(.map none)],false⟩
 |185=>⟨.arr 64 5,64,64,List.replicate 64 (.int .u8 0),true⟩
 |194=>⟨.ptr 3,1,8,[(.pointer none)],false⟩
 |198=>⟨.ptr 190,1,8,[(.pointer none)],false⟩
 |204=>⟨.arr 0 16,0,0,[],false⟩
 |205=>⟨.struct [(0,204)],0,0,[],false⟩
 |210=>⟨.ptr 5,1,8,[(.pointer none)],false⟩
 |_=>⟨.none,0,0,[],false⟩
@[go_sem] def F0:TI:=⟨.func,1,8,[.nilFunc],false⟩
@[go_sem] theorem G0:T 1=F0∧T 31=F0∧T 33=F0∧T 34=F0∧T 35=F0∧T 36=F0∧T 38=F0∧T 40=F0∧T 41=F0∧T 42=F0∧T 43=F0∧T 44=F0∧T 46=F0∧T 47=F0∧T 49=F0∧T 50=F0∧T 51=F0∧T 52=F0∧T 53=F0∧T 55=F0∧T 56=F0∧T 59=F0∧T 60=F0∧T 61=F0∧T 62=F0∧T 63=F0∧T 64=F0∧T 65=F0∧T 66=F0∧T 67=F0∧T 72=F0∧T 73=F0∧T 75=F0∧T 76=F0∧T 79=F0∧T 80=F0∧T 81=F0∧T 83=F0∧T 85=F0∧T 87=F0∧T 88=F0∧T 90=F0∧T 91=F0∧T 92=F0∧T 93=F0∧T 94=F0∧T 95=F0∧T 96=F0∧T 97=F0∧T 98=F0∧T 102=F0∧T 103=F0∧T 105=F0∧T 111=F0∧T 112=F0∧T 113=F0∧T 114=F0∧T 115=F0∧T 116=F0∧T 118=F0∧T 120=F0∧T 121=F0∧T 122=F0∧T 123=F0∧T 124=F0∧T 125=F0∧T 126=F0∧T 127=F0∧T 128=F0∧T 130=F0∧T 136=F0∧T 137=F0∧T 138=F0∧T 139=F0∧T 140=F0∧T 141=F0∧T 142=F0∧T 143=F0∧T 144=F0∧T 149=F0∧T 150=F0∧T 151=F0∧T 153=F0∧T 154=F0∧T 155=F0∧T 156=F0∧T 157=F0∧T 160=F0∧T 161=F0∧T 162=F0∧T 164=F0∧T 165=F0∧T 166=F0∧T 167=F0∧T 169=F0∧T 170=F0∧T 173=F0∧T 174=F0∧T 175=F0∧T 176=F0∧T 178=F0∧T 179=F0∧T 180=F0∧T 182=F0∧T 187=F0∧T 189=F0∧T 191=F0∧T 192=F0∧T 193=F0∧T 195=F0∧T 196=F0∧T 197=F0∧T 200=F0∧T 201=F0∧T 209=F0:=⟨rfl,rfl,rfl,rfl,rfl,rfl,rfl,rfl,rfl,rfl,rfl,rfl,rfl,rfl,rfl,rfl,rfl,rfl,rfl,rfl,rfl,rfl,rfl,rfl,rfl,rfl,rfl,rfl,rfl,rfl,rfl,rfl,rfl,rfl,rfl,rfl,rfl,rfl,rfl,rfl,rfl,rfl,rfl,rfl,rfl,rfl,rfl,rfl,rfl,rfl,rfl,rfl,rfl,rfl,rfl,rfl,rfl,rfl,rfl,rfl,rfl,rfl,rfl,rfl,rfl,rfl,rfl,rfl,rfl,rfl,rfl,rfl,rfl,rfl,rfl,rfl,rfl,rfl,rfl,rfl,rfl,rfl,rfl,rfl,rfl,rfl,rfl,rfl,rfl,rfl,rfl,rfl,rfl,rfl,rfl,rfl,rfl,rfl,rfl,rfl,rfl,rfl,rfl,rfl,rfl,rfl,rfl,rfl,rfl,rfl,rfl,rfl,rfl,rfl,rfl⟩
@[go_sem] def F1:TI:=⟨.int .i64,1,8,[(.int .i64 0)],false⟩
@[go_sem] theorem G1:T 2=F1∧T 3=F1∧T 29=F1∧T 171=F1:=⟨rfl,rfl,rfl,rfl⟩
@[go_sem] def F2:TI:=⟨.int .u64,1,8,[(.int .u64 0)],false⟩
@[go_sem] theorem G2:T 12=F2∧T 86=F2∧T 99=F2∧T 190=F2:=⟨rfl,rfl,rfl,rfl⟩
@[go_sem] def F3:TI:=⟨.struct [(0,3),(1,3),(2,3)],3,24,[(.int .i64 0),(.int .i64 0),(.int .i64 0)],false⟩
@[go_sem] theorem G3:T 109=F3∧T 110=F3∧T 158=F3∧T 159=F3:=⟨rfl,rfl,rfl,rfl⟩
@[go_sem] theorem Gx:T 4=⟨.bool,1,1,[(.bool false)],false⟩∧T 5=⟨.int .u8,1,1,[(.int .u8 0)],false⟩∧T 9=⟨.string,1,16,[(.string ⟨#[]⟩)],false⟩∧T 13=⟨.struct [(0,9),(1,12)],2,24,[(.string ⟨#[]⟩),(.int .u64 0)],false⟩∧T 20=⟨.iface,1,16,[.nilIface],false⟩∧T 21=⟨.int .i32,1,4,[(.int .i32 0)],false⟩∧T 22=⟨.arr 256 5,256,256,List.replicate 256 (.int .u8 0),true⟩∧T 23=⟨.slice 24,1,24,[(.slice none 0 0)],false⟩∧T 24=⟨.slice 3,1,24,[(.slice none 0 0)],false⟩∧T 25=⟨.slice 9,1,24,[(.slice none 0 0)],false⟩∧T 26=⟨.struct [(0,22),(256,3),(257,23),(258,24),(259,25)],260,336,List.replicate 256 (.int .u8 0)++[(.int .i64 0),(.slice none 0 0),(.slice none 0 0),(.slice none 0 0)],false⟩∧T 27=⟨.struct [(0,22),(256,3),(257,23),(258,24),(259,25)],260,336,List.replicate 256 (.int .u8 0)++[(.int .i64 0),(.slice none 0 0),(.slice none 0 0),(.slice none 0 0)],false⟩∧T 28=⟨.slice 5,1,24,[(.slice none 0 0)],false⟩∧T 32=⟨.int .u32,1,4,[(.int .u32 0)],false⟩∧T 48=⟨.ptr 71,1,8,[(.pointer none)],false⟩∧T 57=⟨.struct [(0,28),(1,4)],2,32,[(.slice none 0 0),(.bool false)],false⟩∧T 58=⟨.struct [(0,28),(1,4)],2,32,[(.slice none 0 0),(.bool false)],false⟩∧T 68=⟨.ptr 108,1,8,[(.pointer none)],false⟩∧T 69=⟨.slice 77,1,24,[(.slice none 0 0)],false⟩∧T 70=⟨.struct [(0,27),(260,27),(520,28),(521,68),(522,69)],523,728,List.replicate 256 (.int .u8 0)++[(.int .i64 0),(.slice none 0 0),(.slice none 0 0),(.slice none 0 0)]++List.replicate 256 (.int .u8 0)++[(.int .i64 0),(.slice none 0 0),(.slice none 0 0),(.slice none 0 0),(.slice none 0 0),(.pointer none),(.slice none 0 0)],false⟩∧T 71=⟨.struct [(0,27),(260,27),(520,28),(521,68),(522,69)],523,728,List.replicate 256 (.int .u8 0)++[(.int .i64 0),(.slice none 0 0),(.slice none 0 0),(.slice none 0 0)]++List.replicate 256 (.int .u8 0)++[(.int .i64 0),(.slice none 0 0),(.slice none 0 0),(.slice none 0 0),(.slice none 0 0),(.pointer none),(.slice none 0 0)],false⟩∧T 77=⟨.arr 2 3,2,16,[(.int .i64 0),(.int .i64 0)],true⟩∧T 82=⟨.slice 101,1,24,[(.slice none 0 0)],false⟩∧T 84=⟨.ptr 58,1,8,[(.pointer none)],false⟩∧T 89=⟨.slice 65,1,24,[(.slice none 0 0)],false⟩∧T 100=⟨.arr 4 99,4,32,[(.int .u64 0),(.int .u64 0),(.int .u64 0),(.int .u64 0)],true⟩∧T 101=⟨.arr 4 99,4,32,[(.int .u64 0),(.int .u64 0),(.int .u64 0),(.int .u64 0)],true⟩∧T 104=⟨.arr 2 5,2,2,[(.int .u8 0),(.int .u8 0)],true⟩∧T 106=⟨.slice 110,1,24,[(.slice none 0 0)],false⟩∧T 107=⟨.struct [(0,106),(1,3)],2,32,[(.slice none 0 0),(.int .i64 0)],false⟩∧T 108=⟨.struct [(0,106),(1,3)],2,32,[(.slice none 0 0),(.int .i64 0)],false⟩∧T 117=⟨.arr 256 4,256,256,List.replicate 256 (.bool false),true⟩∧T 129=⟨.ptr 135,1,8,[(.pointer none)],false⟩∧T 131=⟨.slice 159,1,24,[(.slice none 0 0)],false⟩∧T 132=⟨.slice 23,1,24,[(.slice none 0 0)],false⟩∧T 133=⟨.map 77 3,1,8,[(.map none)],false⟩∧T 134=⟨.struct [(0,24),(1,24),(2,24),(3,131),(4,132),(5,69),(6,133),(7,3)],8,160,[(.slice none 0 0),(.slice none 0 0),(.slice none 0 0),(.slice none 0 0),(.slice none 0 0),(.slice none 0 0),(.map none),(.int .i64 0)],false⟩∧T 135=⟨.struct [(0,24),(1,24),(2,24),(3,131),(4,132),(5,69),(6,133),(7,3)],8,160,[(.slice none 0 0),(.slice none 0 0),(.slice none 0 0),(.slice none 0 0),(.slice none 0 0),(.slice none 0 0),(.map none),(.int .i64 0)],false⟩∧T 145=⟨.map 104 5,1,8,[(.map none)],false⟩∧T 147=⟨.ptr 110,1,8,[(.pointer none)],false⟩∧T 148=⟨.map 5 5,1,8,[(.map none)],false⟩∧T 152=⟨.slice 4,1,24,[(.slice none 0 0)],false⟩∧T 163=⟨.slice 152,1,24,[(.slice none 0 0)],false⟩∧T 181=⟨.map 3 3,1,8,[(.map none)],false⟩∧T 183=⟨.ptr 159,1,8,[(.pointer none)],false⟩∧T 184=⟨.map 9 3,1,8,[(.map none)],false⟩∧T 185=⟨.arr 64 5,64,64,List.replicate 64 (.int .u8 0),true⟩∧T 194=⟨.ptr 3,1,8,[(.pointer none)],false⟩∧T 198=⟨.ptr 190,1,8,[(.pointer none)],false⟩∧T 204=⟨.arr 0 16,0,0,[],false⟩∧T 205=⟨.struct [(0,204)],0,0,[],false⟩∧T 210=⟨.ptr 5,1,8,[(.pointer none)],false⟩:=⟨rfl,rfl,rfl,rfl,rfl,rfl,rfl,rfl,rfl,rfl,rfl,rfl,rfl,rfl,rfl,rfl,rfl,rfl,rfl,rfl,rfl,rfl,rfl,rfl,rfl,rfl,rfl,rfl,rfl,rfl,rfl,rfl,rfl,rfl,rfl,rfl,rfl,rfl,rfl,rfl,rfl,rfl,rfl,rfl,rfl,rfl,rfl,rfl,rfl,rfl,rfl,rfl⟩
theorem okH {t:TypeId} {d i z} (h1:Tryz.prog.underlying t=some d) (h3:Tryz.prog.info? t=some i) (h2:(T t).k.fits d:=by first|rfl|exact⟨_,rfl,rfl⟩|exact⟨_,_,_,rfl⟩|exact⟨_,rfl⟩) (h4:i.size=(T t).size∧i.bytes=(T t).bytes∧i.zero=some z∧z.cells.toList=(T t).zero∧z=zdH (T t):=by exact⟨rfl,rfl,rfl,rfl,rfl⟩) (h5:(T t).eq=true→eqB Tryz.prog t d=true:=by first| (intro h;cases h;done)|exact fun _=>by kernel_rfl): ∃d i z,Tryz.prog.underlying t=some d∧(T t).k.fits d∧Tryz.prog.info? t=some i∧i.size=(T t).size∧i.bytes=(T t).bytes∧i.zero=some z∧z.cells.toList=(T t).zero∧z=zdH (T t)∧((T t).eq=true→eqB Tryz.prog t d=true):=⟨d,i,z,h1,h2,h3,h4.1,h4.2.1,h4.2.2.1,h4.2.2.2.1,h4.2.2.2.2,h5⟩
open Tryz in
theorem tok:zR Tryz.prog T:=by
 intro t
 by_cases h:(T t).k= .none
 ·exact .inl h
 ·refine .inr ?_
  unfold T at h
  split at h
  ·exact okH underlying1 type1
  ·exact okH underlying31 type31
  ·exact okH underlying33 type33
  ·exact okH underlying34 type34
  ·exact okH underlying35 type35
  ·exact okH underlying36 type36
  ·exact okH underlying38 type38
  ·exact okH underlying40 type40
  ·exact okH underlying41 type41
  ·exact okH underlying42 type42
  ·exact okH underlying43 type43
  ·exact okH underlying44 type44
  ·exact okH underlying46 type46
  ·exact okH underlying47 type47
  ·exact okH underlying49 type49
  ·exact okH underlying50 type50
  ·exact okH underlying51 type51
  ·exact okH underlying52 type52
  ·exact okH underlying53 type53
  ·exact okH underlying55 type55
  ·exact okH underlying56 type56
  ·exact okH underlying59 type59
  ·exact okH underlying60 type60
  ·exact okH underlying61 type61
  ·exact okH underlying62 type62
  ·exact okH underlying63 type63
  ·exact okH underlying64 type64
  ·exact okH underlying65 type65
  ·exact okH underlying66 type66
  ·exact okH underlying67 type67
  ·exact okH underlying72 type72
  ·exact okH underlying73 type73
  ·exact okH underlying75 type75
  ·exact okH underlying76 type76
  ·exact okH underlying79 type79
  ·exact okH underlying80 type80
  ·exact okH underlying81 type81
  ·exact okH underlying83 type83
  ·exact okH underlying85 type85
  ·exact okH underlying87 type87
  ·exact okH underlying88 type88
  ·exact okH underlying90 type90
  ·exact okH underlying91 type91
  ·exact okH underlying92 type92
  ·exact okH underlying93 type93
  ·exact okH underlying94 type94
  ·exact okH underlying95 type95
  ·exact okH underlying96 type96
  ·exact okH underlying97 type97
  ·exact okH underlying98 type98
  ·exact okH underlying102 type102
  ·exact okH underlying103 type103
  ·exact okH underlying105 type105
  ·exact okH underlying111 type111
  ·exact okH underlying112 type112
  ·exact okH underlying113 type113
  ·exact okH underlying114 type114
  ·exact okH underlying115 type115
  ·exact okH underlying116 type116
  ·exact okH underlying118 type118
  ·exact okH underlying120 type120
  ·exact okH underlying121 type121
  ·exact okH underlying122 type122
  ·exact okH underlying123 type123
  ·exact okH underlying124 type124
  ·exact okH underlying125 type125
  ·exact okH underlying126 type126
  ·exact okH underlying127 type127
  ·exact okH underlying128 type128
  ·exact okH underlying130 type130
  ·exact okH underlying136 type136
  ·exact okH underlying137 type137
  ·exact okH underlying138 type138
  ·exact okH underlying139 type139
  ·exact okH underlying140 type140
  ·exact okH underlying141 type141
  ·exact okH underlying142 type142
  ·exact okH underlying143 type143
  ·exact okH underlying144 type144
  ·exact okH underlying149 type149
  ·exact okH underlying150 type150
  ·exact okH underlying151 type151
  ·exact okH underlying153 type153
  ·exact okH underlying154 type154
  ·exact okH underlying155 type155
  ·exact okH underlying156 type156
  ·exact okH underlying157 type157
  ·exact okH underlying160 type160
  ·exact okH underlying161 type161
  ·exact okH underlying162 type162
  ·exact okH underlying164 type164
  ·exact okH underlying165 type165
  ·exact okH underlying166 type166
  ·exact okH underlying167 type167
  ·exact okH underlying169 type169
  ·exact okH underlying170 type170
  ·exact okH underlying173 type173
  ·exact okH underlying174 type174
  ·exact okH underlying175 type175
  ·exact okH underlying176 type176
  ·exact okH underlying178 type178
  ·exact okH underlying179 type179
  ·exact okH underlying180 type180
  ·exact okH underlying182 type182
  ·exact okH underlying187 type187
  ·exact okH underlying189 type189
  ·exact okH underlying191 type191
  ·exact okH underlying192 type192
  ·exact okH underlying193 type193
  ·exact okH underlying195 type195
  ·exact okH underlying196 type196
  ·exact okH underlying197 type197
  ·exact okH underlying200 type200
  ·exact okH underlying201 type201
  ·exact okH underlying209 type209
  ·exact okH underlying2 type2
  ·exact okH underlying3 type3
  ·exact okH underlying29 type29
  ·exact okH underlying171 type171
  ·exact okH underlying4 type4
  ·exact okH underlying5 type5
  ·exact okH underlying9 type9
  ·exact okH underlying12 type12
  ·exact okH underlying86 type86
  ·exact okH underlying99 type99
  ·exact okH underlying190 type190
  ·exact okH underlying13 type13
  ·exact okH underlying20 type20
  ·exact okH underlying21 type21
  ·exact okH underlying22 type22
  ·exact okH underlying23 type23
  ·exact okH underlying24 type24
  ·exact okH underlying25 type25
  ·exact okH underlying26 type26
  ·exact okH underlying27 type27
  ·exact okH underlying28 type28
  ·exact okH underlying32 type32
  ·exact okH underlying48 type48
  ·exact okH underlying57 type57
  ·exact okH underlying58 type58
  ·exact okH underlying68 type68
  ·exact okH underlying69 type69
  ·exact okH underlying70 type70
  ·exact okH underlying71 type71
  ·exact okH underlying77 type77
  ·exact okH underlying82 type82
  ·exact okH underlying84 type84
  ·exact okH underlying89 type89
  ·exact okH underlying100 type100
  ·exact okH underlying101 type101
  ·exact okH underlying104 type104
  ·exact okH underlying106 type106
  ·exact okH underlying107 type107
  ·exact okH underlying108 type108
  ·exact okH underlying109 type109
  ·exact okH underlying110 type110
  ·exact okH underlying158 type158
  ·exact okH underlying159 type159
  ·exact okH underlying117 type117
  ·exact okH underlying129 type129
  ·exact okH underlying131 type131
  ·exact okH underlying132 type132
  ·exact okH underlying133 type133
  ·exact okH underlying134 type134
  ·exact okH underlying135 type135
  ·exact okH underlying145 type145
  ·exact okH underlying147 type147
  ·exact okH underlying148 type148
  ·exact okH underlying152 type152
  ·exact okH underlying163 type163
  ·exact okH underlying181 type181
  ·exact okH underlying183 type183
  ·exact okH underlying184 type184
  ·exact okH underlying185 type185
  ·exact okH underlying194 type194
  ·exact okH underlying198 type198
  ·exact okH underlying204 type204
  ·exact okH underlying205 type205
  ·exact okH underlying210 type210
  ·exact absurd rfl h
theorem mixed:Tryz.prog.follows .mixedOrders=true:=by kernel_rfl
theorem seatok:SeatOk Tryz.prog:=⟨by kernel_rfl,by kernel_rfl,by kernel_rfl⟩
end Go.Proofs.YtomdbjfdbkejoaaGreatDoor
namespace Go.Proofs.YtomdbjfdbkejoaaGreatDoor
open Go Go.V Go.Proofs
section bare
variable {α:Type}
def zbN:Nat→List α→List (α×Int)
 |_,[]=>[]
 |i,k::ks=>(k,(i:Int))::zbN (i+1) ks
theorem zbT (i:Nat) (ks:List α):(zbN i ks).length=ks.length:=by
 induction ks generalizing i with
 |nil=>rfl
 |cons k ks ih=>simp [zbN,ih]
end bare
section plain
variable {α:Type} [DecidableEq α]
def place (ks:List α) (k:α):Option Nat:=ks.findIdx? (fun x=>decide (k=x))
theorem zmx (k:α): ∀ (ks:List α) (i:Nat),zb9 k (zbN i ks)=Option.map (fun n:Nat=>((i+n:Nat):Int)) (place ks k)
 | [],i=>rfl
 |x::ks,i=>by
  simp only[zbN,zb9,place,List.findIdx?_cons]
  by_cases h:k=x
  ·simp [h]
  ·have ih:=zmx k ks (i+1)
   unfold place at ih
   rw[if_neg h,ih]
   simp only[h,decide_false,Bool.false_eq_true,if_false,Option.map_map]
   congr 1;funext n;simp;omega
theorem zbJ (k:α) (ks:List α):zb9 k (zbN 0 ks)=Option.map (fun n:Nat=>(n:Int)) (place ks k):=by
 rw[zmx];cases place ks k <;> simp
theorem zdK {k:α} {ks:List α} (h:place ks k=none):k∉ks:=fun hk=>by
 unfold place at h
 rw[List.findIdx?_eq_none_iff] at h
 have:=h k hk
 simp at this
theorem z6 {k:α} {ks:List α} {n:Nat} (h:place ks k=some n):n<ks.length∧ks[n]? =some k:=by
 unfold place at h
 rw[List.findIdx?_eq_some_iff_getElem] at h
 obtain⟨h1,h2,_⟩:=h
 exact⟨h1,by rw[List.getElem?_eq_getElem h1];simpa using (of_decide_eq_true h2).symm⟩
theorem zab {k:α} {ks:List α} (h:k∈ks): ∃n,place ks k=some n:=by
 cases hp:place ks k with
 |none=>exact absurd h (zdK hp)
 |some n=>exact⟨n,rfl⟩
theorem zcC {k:α} {ks:List α} (h:k∉ks):place ks k=none:=by
 cases hp:place ks k with
 |none=>rfl
 |some n=>
  obtain⟨h1,h2⟩:=z6 hp
  rw[List.getElem?_eq_getElem h1,Option.some.injEq] at h2
  exact absurd (h2▸List.getElem_mem h1) h
theorem zdx {ks:List α} (hnd:ks.Nodup) {n:Nat} (h:n<ks.length):place ks ks[n]=some n:=by
 obtain⟨m,hm⟩:=zab (List.getElem_mem h)
 obtain⟨h1,h2⟩:=z6 hm
 rw[List.getElem?_eq_getElem h1,Option.some.injEq] at h2
 rw[hm,(List.getElem_inj hnd).1 h2]
theorem zmy {k:α} {ks:List α} (h:k∈ks) (ls:List α):place (ks++ls) k=place ks k:=by
 obtain⟨n,hn⟩:=zab h
 rw[hn]
 unfold place at hn⊢
 rw[List.findIdx?_append,hn];rfl
theorem zeo {k:α} {ks:List α} (h:k∉ks):place (ks++[k]) k=some ks.length:=by
 have hn:=zcC h
 unfold place at hn⊢
 rw[List.findIdx?_append,hn]
 simp
theorem zmz (k:α): ∀ (ks:List α) (i:Nat),k∉ks→zcA k ((i+ks.length:Nat):Int) (zbN i ks)=zbN i (ks++[k])
 | [],i,_=>by simp [zbN,zcA]
 |x::ks,i,h=>by
  simp only[List.mem_cons,not_or] at h
  have ih:=zmz k ks (i+1) h.2
  simp only[zbN,zcA,List.cons_append,if_neg h.1,List.length_cons]
  rw[show i+(ks.length+1)=i+1+ks.length by omega,ih]
theorem zrZ (k:α) (ks:List α) (h:k∉ks):zcA k (ks.length:Int) (zbN 0 ks)=zbN 0 (ks++[k]):=by
 have:=zmz k ks 0 h
 rwa [Nat.zero_add] at this
theorem zcD {k:α} {ks:List α} (h:place ks k=none):zcA k (ks.length:Int) (zbN 0 ks)=zbN 0 (ks++[k]):=zrZ k ks (zdK h)
theorem zmA (k:α):place [] k=none:=rfl
def zz (ks:List α) (k:α):Int:=match place ks k with|some n=>(n:Int)|none=> -1
theorem zH {ks:List α} {k:α} {n:Nat} (h:place ks k=some n):zz ks k=n:=by unfold zz;rw[h]
theorem zdL {ks:List α} {k:α} (h:place ks k=none):zz ks k= -1:=by unfold zz;rw[h]
theorem zmB {k:α} {ks:List α} (h:k∈ks) (ls:List α):zz (ks++ls) k=zz ks k:=by unfold zz;rw[zmy h]
theorem ziN {ks:List α} {x y:α} (hx:x∈ks) (hy:y∈ks) (h:zz ks x=zz ks y):x=y:=by
 obtain⟨a,ha⟩:=zab hx
 obtain⟨b,hb⟩:=zab hy
 rw[zH ha,zH hb] at h
 obtain rfl:a=b:=by omega
 have:=(z6 ha).2.symm.trans (z6 hb).2
 exact Option.some.inj this
def zk (l:List α):List α:=l.foldl (fun t k=>if k∈t then t else t++[k]) []
theorem zgh:zk ([]:List α)=[]:=rfl
theorem zaO (l:List α) (k:α):zk (l++[k])=if k∈zk l then zk l else zk l++[k]:=by unfold zk;rw[List.foldl_append];rfl
theorem zgI {P:List α→Prop} (h0:P []) (h1: ∀l k,P l→P (l++[k])) (l:List α):P l:=by
 have: ∀n,∀l:List α,l.length=n→P l:=fun n=>by
  induction n with
  |zero=>intro l hl;rw[List.eq_nil_of_length_eq_zero hl];exact h0
  |succ n ih=>
   intro l hl
   have hne:l≠[]:=fun e=>by rw[e] at hl;cases hl
   rw[←List.dropLast_concat_getLast hne]
   exact h1 _ _ (ih _ (by simp [hl]))
 exact this _ l rfl
theorem zN {x:α} (l:List α):x∈zk l↔x∈l:=by
 induction l using zgI with
 |h0=>simp [zgh]
 |h1 l k ih=>
  rw[zaO,List.mem_append,List.mem_singleton]
  split
  ·rename_i hk
   rw[ih]
   constructor
   ·exact .inl
   ·rintro(h|h)
    ·exact h
    ·subst h;exact ih.1 hk
  ·rw[List.mem_append,ih,List.mem_singleton]
theorem zc2 (l:List α):(zk l).Nodup:=by
 induction l using zgI with
 |h0=>exact List.nodup_nil
 |h1 l k ih=>
  rw[zaO]
  split
  ·exact ih
  ·rename_i hk
   exact List.nodup_append.2 ⟨ih,by simp,fun a ha b hb=>by
    obtain rfl:b=k:=by simpa using hb
    intro e;subst e;exact hk ha⟩
theorem zai (l:List α):(zk l).length≤l.length:=by
 induction l using zgI with
 |h0=>exact Nat.le_refl _
 |h1 l k ih=>
  rw[zaO]
  split <;> simp <;> omega
def zg (l:List α):List Int:=l.map fun k=>zz (zk l) k
theorem zr (l:List α):(zg l).length=l.length:=by simp [zg]
theorem zkh:zg ([]:List α)=[]:=rfl
theorem zmC (l:List α) (k:α):zg (l++[k])=zg l++[zz (zk (l++[k])) k]:=by
 unfold zg
 rw[List.map_append,List.map_singleton]
 congr 1
 refine List.map_congr_left fun x hx=>?_
 rw[zaO]
 split
 ·rfl
 ·exact zmB ((zN l).2 hx) _
theorem zc3 {l:List α} {k:α} {n:Nat} (h:place (zk l) k=some n):zk (l++[k])=zk l∧zg (l++[k])=zg l++[(n:Int)]:=by
 obtain⟨h1,h2⟩:=z6 h
 rw[List.getElem?_eq_getElem h1,Option.some.injEq] at h2
 have hm:k∈zk l:=h2▸List.getElem_mem h1
 have:zk (l++[k])=zk l:=by rw[zaO,if_pos hm]
 exact⟨this,by rw[zmC,this,zH h]⟩
theorem zcE {l:List α} {k:α} (h:place (zk l) k=none):zk (l++[k])=zk l++[k]∧zg (l++[k])=zg l++[((zk l).length:Int)]:=by
 have hm:=zdK h
 have:zk (l++[k])=zk l++[k]:=by rw[zaO,if_neg hm]
 exact⟨this,by rw[zmC,this,zH (zeo hm)]⟩
theorem zca {l:List α} {i:Nat} (h:i<l.length):(zg l)[i]'(by rw[zr];exact h)=zz (zk l) l[i]:=by simp [zg]
theorem zcF {l:List α} {i j:Nat} (hi:i<l.length) (hj:j<l.length):(zg l)[i]'(by rw[zr];exact hi)=(zg l)[j]'(by rw[zr];exact hj)↔l[i]=l[j]:=by
 rw[zca hi,zca hj]
 constructor
 ·exact ziN ((zN l).2 (List.getElem_mem hi)) ((zN l).2 (List.getElem_mem hj))
 ·intro h;rw[h]
theorem zbd {l:List α} {n:Int} (h:n∈zg l):0≤n∧n< (zk l).length:=by
 unfold zg at h
 rw[List.mem_map] at h
 obtain⟨x,hx,rfl⟩:=h
 obtain⟨m,hm⟩:=zab ((zN l).2 hx)
 rw[zH hm]
 have:=(z6 hm).1
 omega
end plain
section two
variable {α β:Type} [DecidableEq α] [DecidableEq β]
theorem zaQ {l:List α} {k:Nat} (hk:k<l.length):l[k]∈l.take k↔ ∃j:Nat,∃h:j<k,l[j]'(Nat.lt_trans h hk)=l[k]:=by
 rw[List.mem_iff_getElem]
 constructor
 ·rintro⟨j,hj,e⟩
  rw[List.length_take] at hj
  rw[List.getElem_take] at e
  exact⟨j,by omega,e⟩
 ·rintro⟨j,hj,e⟩
  exact⟨j,by rw[List.length_take];omega,by rw[List.getElem_take];exact e⟩
theorem zfl {l:List α} {m:List β} (hlen:l.length=m.length) (h: ∀i j (hi:i<l.length) (hj:j<l.length),l[i]=l[j]↔m[i]'(hlen▸hi)=m[j]'(hlen▸hj)):zg l=zg m:=by
 have key: ∀k,k≤l.length→zg (l.take k)=zg (m.take k)∧(zk (l.take k)).length=(zk (m.take k)).length:=fun k=>by
  induction k with
  |zero=>intro _;simp [zkh,zgh]
  |succ k ih=>
   intro hk
   have hk':k<l.length:=by omega
   have hkm:k<m.length:=by omega
   obtain⟨h1,h2⟩:=ih Ko
   rw[List.take_succ_eq_append_getElem hk',List.take_succ_eq_append_getElem hkm]
   by_cases hmem:l[k]∈l.take k
   ·obtain⟨j,hj,e⟩:=(zaQ hk').1 hmem
    have e2:=(h j k Ko hk').1 e
    have hmem2:m[k]∈m.take k:=(zaQ hkm).2 ⟨j,hj,e2⟩
    obtain⟨n,hn⟩:=zab ((zN _).2 hmem)
    obtain⟨n',hn'⟩:=zab ((zN _).2 hmem2)
    rw[(zc3 hn).1,(zc3 hn).2,(zc3 hn').1,(zc3 hn').2,h1,h2]
    refine⟨?_,rfl⟩
    have g1:=zca (l:=l.take k) (i:=j) (by rw[List.length_take];omega)
    have g2:=zca (l:=m.take k) (i:=j) (by rw[List.length_take];omega)
    rw[List.getElem_take,e,zH hn] at g1
    rw[List.getElem_take,e2,zH hn'] at g2
    have g3:(zg (l.take k))[j]'(by rw[zr,List.length_take];omega)=(zg (m.take k))[j]'(by rw[zr,List.length_take];omega):=by simp only[h1]
    rw[g1,g2] at g3
    rw[g3]
   ·have hmem2:m[k]∉m.take k:=fun hm=>by
     obtain⟨j,hj,e⟩:=(zaQ hkm).1 hm
     exact hmem ((zaQ hk').2 ⟨j,hj,(h j k Ko hk').2 e⟩)
    have p1:=zcC fun hm=>hmem ((zN _).1 hm)
    have p2:=zcC fun hm=>hmem2 ((zN _).1 hm)
    rw[(zcE p1).1,(zcE p1).2,(zcE p2).1,(zcE p2).2,h1,h2]
    exact⟨rfl,by simp [h2]⟩
 have:=(key l.length (Nat.le_refl _)).1
 rwa [List.take_length,hlen,List.take_length] at this
end two
end Go.Proofs.YtomdbjfdbkejoaaGreatDoor
namespace Go.Proofs.YtomdbjfdbkejoaaGreatDoor
open Go Go.V Go.Proofs
theorem hei:zeB T 3 (Value.int .i64):=zla (T:=T) (t:=3) rfl
theorem zl5 {l:List Int} {a:Option Addr} {cap b1 i:Nat} (hi:i<l.length) {G:za} {H:zb} {R:Value→za→zb→Prop} (hrow:Row G a (l.map (Value.int .i64)))
  (hg1:G b1=none) (hf:zq H b1=some (.cells [.slice a l.length cap] [] 24)) (hR:R (.int .i64 l[i]) G H):FnT Tryz.prog 130 [.int .i64 (i:Nat), .pointer (some ⟨b1,0,none⟩)] G H R:=by
 have had:Adr a:=hrow.adr (by rw[List.length_map];omega)
 refine FnT.body tok [0,1,3] Tryz.func130 rfl Kk Kk (by show _≤8;simp) fun hsep=>?_
 rw[Tryz.results130]
 have hE:=hsep
 try simp only[zzs] at hE
 repeat(obtain⟨hx',hE⟩:=hE)
 repeat' first
  |with_reducible first|refine Nx.go ?_ |refine Bk.go (fun _=>?_) fun _=>?_
  |simp -dsimp -implicitDefEqProofs (disch:=first|exact Kd|fail) only[go_sem,↓reduceIte,seval,hf,Row.obj hrow,List.getElem_map]
 all_goals refine Upd.finL ?_ hR ?_
 any_goals first|exact Ks|skip
 rfl
theorem ztv {l:List Int} (hlen:l.length≤2000000) {a:Option Addr} {cap b1:Nat} {G:za} {H:zb} {R:Value→za→zb→Prop} (hrow:Row G a (l.map (Value.int .i64)))
  (hR: ∀v kb,Sep G (zm (kb++H))→zS [] 3 1 v l.length ((zg l).map (Value.int .i64)) kb→R v G (kb++H)):FnT Tryz.prog 129 [.int .i64 l.length, .func (.func 130) #[] #[.pointer (some ⟨b1,0,none⟩)]] G ((b1, .cells [.slice a l.length cap] [] 24)::H) R:=by
 refine FnT.sep ?_
 refine FnT.body tok [0,1,4,5,6,7,8,10,12,13,14,26] Tryz.func129 rfl Kk Kk (by show _≤39;simp) fun hsep=>?_
 rw[Tryz.results129]
 have hE:=hsep
 try simp only[zzs] at hE
 repeat(obtain⟨hx',hE⟩:=hE)
 repeat' first
  |with_reducible first|refine Nx.go ?_ |refine Bk.go (fun _=>?_) fun _=>?_ |refine zas.mk (fun _ _=>?_) fun _=>?_ |refine Nb fun nb hnb hnb1 hnb2=>?_ |refine Nr fun nb nsp ncap hnb hncap hnb1 hnb2=>?_
  |simp -dsimp -implicitDefEqProofs (disch:=first|exact Kd|fail) only[go_sem,↓reduceIte,seval]
 revert nb
 intro bm hbm hbm1 hbm2
 refine Tri.loopU tok [0,1,4,5,6,7,8,10,12,13,14,26] Kk [0,1,4,5,6,12,13] (fun q G' fr H'=> ∃ (i:Nat) (v:Value) (kb:zb),i+q=l.length∧G'=G∧zS [] 3 1 v i ((zg (l.take i)).map (Value.int .i64)) kb∧H'=(bm, .map ((zbN 0 (zk (l.take i))).map fun p=>((Value.int .i64) p.1,Value.int .i64 p.2))):: (b1, .cells [.slice a l.length cap] [] 24):: (kb++H)∧fr=[(0, .int .i64 l.length),(1, .func (.func 130) #[] #[.pointer (some ⟨b1,0,none⟩)]),(4, .slice none 0 0),(5, .map (some bm)),(6,v),(12, .int .i64 l.length),(13, .int .i64 i)]) (l.length) ?_ ?_
 ·exact Upd.now ⟨0,_,[],by omega,rfl, .inl ⟨none,rfl,rfl,rfl,rfl⟩,rfl,rfl⟩
 ·rintro q G1 fr H' hle hs ⟨i,v,kb,hi,rfl,hv,rfl,rfl⟩
  have hnl:(zg (l.take i)).length=i:=by rw[zr,List.length_take];omega
  have htl:=zai (l.take i)
  rw[List.length_take] at htl
  by_cases hil:i<l.length
  ·have htk:=List.take_succ_eq_append_getElem hil
   rcases hp:place (zk (l.take i)) l[i] with _|n
   ·have hnn:=zcE hp
    have hpe:=zeo (zdK hp)
    rw[←htk] at hnn
    rcases hv with ⟨a0,rfl,hn,hx,rfl⟩| ⟨b2,c2,sp,rfl,rfl,hx,hc⟩
    ·have hE:=hs
     try simp only[zzs] at hE
     repeat(obtain⟨hx',hE⟩:=hE)
     repeat' first
      |with_reducible first|refine Nx.go ?_ |refine Bk.go (fun _=>?_) fun _=>?_ |refine zas.mk (fun _ _=>?_) fun _=>?_ |refine Nb fun nb hnb hnb1 hnb2=>?_ |refine Nr fun nb nsp ncap hnb hncap hnb1 hnb2=>?_
      |simp -dsimp -implicitDefEqProofs (disch:=first|exact Kd|fail) only[go_sem,↓reduceIte,seval,zb2 hei (Value.int .i64),zb3 hei,zbJ,Option.map_map,zcB hei (Value.int .i64),zcD,hp,hpe,List.length_map,zbT]
      |with_reducible refine zl5 (cap:=cap) hil hrow Ka ?_ ?_
     have hce:(zg (l.take (i+1))).map (Value.int .i64)=[Value.int .i64 (zk (l.take i)).length]:=by rw[hnn.2,List.map_append,hx];rfl
     rw[←hnn.1,←hce]
     refine Upd.go (H':=(bm, .map ((zbN 0 (zk (l.take (i+1)))).map fun p=>((Value.int .i64) p.1,Value.int .i64 p.2))):: (b1, .cells [.slice a l.length cap] [] 24):: ([(nb, .cells ((zg (l.take (i+1))).map (Value.int .i64)) nsp 3)]++H)) Ks (Upd.now ⟨q - 1,by omega,i+1, .slice (some ⟨nb,0,none⟩) (i+1) ncap,[_],by omega,rfl, .inr ⟨nb,ncap,nsp,rfl,rfl,by rw[hce];simp [hn],by rw[hce];simp at hncap⊢;omega⟩,rfl,by obtain rfl:i=0:=hn;rfl⟩)
    ·have hE:=hs
     try simp only[zzs] at hE
     repeat(obtain⟨hx',hE⟩:=hE)
     repeat' first
      |with_reducible first|refine Nx.go ?_ |refine Bk.go (fun _=>?_) fun _=>?_ |refine zas.mk (fun _ _=>?_) fun _=>?_ |refine Nb fun nb hnb hnb1 hnb2=>?_ |refine Nr fun nb nsp ncap hnb hncap hnb1 hnb2=>?_
      |simp -dsimp -implicitDefEqProofs (disch:=first|exact Kd|fail) only[go_sem,↓reduceIte,seval,zb2 hei (Value.int .i64),zb3 hei,zbJ,Option.map_map,zcB hei (Value.int .i64),zcD,hp,hpe,List.length_map,zbT]
      |with_reducible refine zl5 (cap:=cap) hil hrow Ka ?_ ?_
     have hce:(zg (l.take (i+1))).map (Value.int .i64)=(zg (l.take i)).map (Value.int .i64)++[Value.int .i64 (zk (l.take i)).length]:=by rw[hnn.2,List.map_append];rfl
     rw[←hnn.1,←hce]
     refine Upd.go (H':=(bm, .map ((zbN 0 (zk (l.take (i+1)))).map fun p=>((Value.int .i64) p.1,Value.int .i64 p.2))):: (b1, .cells [.slice a l.length cap] [] 24):: ([(nb, .cells ((zg (l.take (i+1))).map (Value.int .i64)) nsp 3)]++H)) Ks (Upd.now ⟨q - 1,by omega,i+1, .slice (some ⟨nb,0,none⟩) (i+1) ncap,[_],by omega,rfl, .inr ⟨nb,ncap,nsp,rfl,rfl,by rw[hce];simp [hnl],by rw[hce];simp [hnl] at hncap⊢;omega⟩,rfl,rfl⟩)
   ·have hnn:=zc3 hp
    rw[←htk] at hnn
    have hn0:i≠0:=fun e=>by subst e;rw[List.take_zero,zgh,zmA] at hp;cases hp
    rcases hv with ⟨a0,rfl,hn,hx,rfl⟩| ⟨b2,c2,sp,rfl,rfl,hx,hc⟩
    ·exact absurd hn hn0
    ·have hE:=hs
     try simp only[zzs] at hE
     repeat(obtain⟨hx',hE⟩:=hE)
     repeat' first
      |with_reducible first|refine Nx.go ?_ |refine Bk.go (fun _=>?_) fun _=>?_ |refine zas.mk (fun _ _=>?_) fun _=>?_ |refine Nb fun nb hnb hnb1 hnb2=>?_ |refine Nr fun nb nsp ncap hnb hncap hnb1 hnb2=>?_
      |simp -dsimp -implicitDefEqProofs (disch:=first|exact Kd|fail) only[go_sem,↓reduceIte,seval,zb2 hei (Value.int .i64),zb3 hei,zbJ,Option.map_map,zcB hei (Value.int .i64),zcD,hp,List.length_map,zbT]
      |with_reducible refine zl5 (cap:=cap) hil hrow Ka ?_ ?_
     have hce:(zg (l.take (i+1))).map (Value.int .i64)=(zg (l.take i)).map (Value.int .i64)++[Value.int .i64 n]:=by rw[hnn.2,List.map_append];rfl
     rw[←hnn.1,←hce]
     refine Upd.go (H':=(bm, .map ((zbN 0 (zk (l.take (i+1)))).map fun p=>((Value.int .i64) p.1,Value.int .i64 p.2))):: (b1, .cells [.slice a l.length cap] [] 24):: ([(nb, .cells ((zg (l.take (i+1))).map (Value.int .i64)) nsp 3)]++H)) Ks (Upd.now ⟨q - 1,by omega,i+1, .slice (some ⟨nb,0,none⟩) (i+1) ncap,[_],by omega,rfl, .inr ⟨nb,ncap,nsp,rfl,rfl,by rw[hce];simp [hnl],by rw[hce];simp [hnl] at hncap⊢;omega⟩,rfl,rfl⟩)
  ·obtain rfl:i=l.length:=by omega
   rw[List.take_length] at hv⊢
   repeat' first
    |with_reducible first|refine Nx.go ?_ |refine Bk.go (fun _=>?_) fun _=>?_ |refine zas.mk (fun _ _=>?_) fun _=>?_ |refine Nb fun nb hnb hnb1 hnb2=>?_ |refine Nr fun nb nsp ncap hnb hncap hnb1 hnb2=>?_
    |simp -dsimp -implicitDefEqProofs (disch:=first|exact Kd|fail) only[go_sem,↓reduceIte,seval]
   unfold zv
   refine Upd.leave (H':=kb++H) Ks ?_
   exact fun _ hs=>hR _ kb hs hv
theorem zyP {l:List Int} (hlen:l.length≤2000000) {a:Option Addr} {cap b1:Nat} {G:za} {H:zb} {R:Value→za→zb→Prop} (hrow:Row G a (l.map (Value.int .i64)))
  (hR: ∀G' v,PLe G G'→Sep G' (zm H)→Sl G' (Value.int .i64) v (zg l)→R v G' H):FnT Tryz.prog 129 [.int .i64 l.length, .func (.func 130) #[] #[.pointer (some ⟨b1,0,none⟩)]] G ((b1, .cells [.slice a l.length cap] [] 24)::H) R:=by
 refine FnT.upd (ztv hlen hrow fun v kb hs hv=>?_)
 rcases hv with ⟨a0,rfl,hn,hx,rfl⟩| ⟨b2,c2,sp,rfl,rfl,hx,hc⟩
 ·have hl0:l=[]:=List.eq_nil_of_length_eq_zero hn
  subst hl0
  exact Upd.now (hR _ _ (PLe.refl _) hs ⟨a0,0,rfl,Row.nil _ _,Nat.le_refl _⟩)
 ·refine Upd.shareRow hs.1.1 fun G2 hle2 hs2 hr2=>?_
  exact hR _ _ hle2 hs2 ⟨some ⟨b2,0,none⟩,c2,by rw[zr],hr2,by rw[zr];rw[List.length_map,zr] at hx hc;omega⟩
end Go.Proofs.YtomdbjfdbkejoaaGreatDoor
namespace Go.Proofs.YtomdbjfdbkejoaaGreatDoor
open Go Go.V Go.Proofs
theorem zxK {l:List Int} (hlen:l.length≤2000000) {G:za} {H:zb} {R:Value→za→zb→Prop} {v:Value} (hv:Sl G (Value.int .i64) v l)
  (hR: ∀v kb,Sep G (zm (kb++H))→zS [] 3 1 v l.length ((zg l).map (Value.int .i64)) kb→R v G (kb++H)):FnT Tryz.prog 101 [v] G H R:=by
 obtain⟨a,cap,rfl,hrow,hcap⟩:=hv
 refine FnT.body tok [0,1,2] Tryz.func101 rfl Kk Kk (by show _≤7;simp) fun hsep=>?_
 rw[Tryz.results101]
 have hE:=hsep
 try simp only[zzs] at hE
 repeat(obtain⟨hx',hE⟩:=hE)
 repeat' first
  |with_reducible first|refine Nx.go ?_ |refine Bk.go (fun _=>?_) fun _=>?_ |refine Nb fun nb hnb hnb1 hnb2=>?_
  |simp -dsimp -implicitDefEqProofs (disch:=first|exact Kd|fail) only[go_sem,↓reduceIte,seval]
  |with_reducible refine ztv hlen hrow fun v2 kb2 hs2 hsl2=>?_
 unfold zv
 refine Upd.leave (H':=kb2++H) Ks ?_
 exact hR v2 kb2 hs2 hsl2
theorem zoc {l:List Int} (hlen:l.length≤2000000) {G:za} {H:zb} {R:Value→za→zb→Prop} {v:Value} (hv:Sl G (Value.int .i64) v l)
  (hR: ∀G' v',PLe G G'→Sep G' (zm H)→Sl G' (Value.int .i64) v' (zg l)→R v' G' H):FnT Tryz.prog 101 [v] G H R:=by
 obtain⟨a,cap,rfl,hrow,hcap⟩:=hv
 refine FnT.body tok [0,1,2] Tryz.func101 rfl Kk Kk (by show _≤7;simp) fun hsep=>?_
 rw[Tryz.results101]
 have hE:=hsep
 try simp only[zzs] at hE
 repeat(obtain⟨hx',hE⟩:=hE)
 repeat' first
  |with_reducible first|refine Nx.go ?_ |refine Bk.go (fun _=>?_) fun _=>?_ |refine Nb fun nb hnb hnb1 hnb2=>?_
  |simp -dsimp -implicitDefEqProofs (disch:=first|exact Kd|fail) only[go_sem,↓reduceIte,seval]
  |with_reducible refine zyP hlen hrow fun G2 v2 hle2 hs2 hsl2=>?_
 all_goals refine Upd.finL ?_ (hR G2 v2 hle2 hs2 hsl2) ?_
 any_goals first|exact Ks|skip
 rfl
end Go.Proofs.YtomdbjfdbkejoaaGreatDoor
namespace Go.Proofs.YtomdbjfdbkejoaaGreatDoor
open Go Go.V Go.Proofs
theorem zhk (xs ys:List Int) (hlen:xs.length≤2000000) {G:za} {H:zb} {R:Value→za→zb→Prop} {v w:Value} (hv:Sl G (Value.int .i64) v xs) (hw:Sl G (Value.int .i64) w ys) (hR:R (.bool (decide (xs=ys))) G H):FnT Tryz.prog 36 [v,w] G H R:=by
 obtain⟨a,cap,rfl,hrow,hcap⟩:=hv
 obtain⟨a',cap',rfl,hrow',hcap'⟩:=hw
 refine FnT.body tok [0,1,4,5,10,12,13,14,24] Tryz.func36 rfl Kk Kk (by show _≤26;simp) fun hsep=>?_
 rw[Tryz.results36]
 have hE:=hsep
 try simp only[zzs] at hE
 repeat(obtain⟨hx',hE⟩:=hE)
 repeat' first
  |with_reducible first|refine Nx.go ?_ |refine Bk.go (fun _=>?_) fun _=>?_ |refine Nb fun nb hnb hnb1 hnb2=>?_
  |simp -dsimp -implicitDefEqProofs (disch:=first|exact Kd|fail) only[go_sem,↓reduceIte,seval]
 ·rename_i hne
  have hxy:xs.length=ys.length:=by omega
  refine Tri.loopU tok [0,1,4,5,10,12,13,14,24] Kk [0,1,4,12,13] (fun n G' l H'=> ∃i:Nat,i+n=xs.length∧(∀j (h:j<xs.length),j<i→xs[j]=ys[j])∧G'=G∧H'=H∧l=[(0, .slice a xs.length cap),(1, .slice a' ys.length cap'),(4, .bool false),(12, .int .i64 xs.length),(13, .int .i64 i)]) (xs.length) (Upd.now ?_) ?_
  ·exact⟨0,by omega,fun j _ h=>by omega,rfl,rfl,rfl⟩
  ·rintro n G' l H' hle hs ⟨i,hi,hno,rfl,rfl,rfl⟩
   by_cases hil:i<xs.length
   ·have hil':i<ys.length:=by omega
    repeat' first
     |with_reducible first|refine Nx.go ?_ |refine Bk.go (fun _=>?_) fun _=>?_ |refine Nb fun nb hnb hnb1 hnb2=>?_
     |with_reducible refine Tri.drawH tok mixed [0,1,4,5,10,12,13,14,24] 6 [3,7] (.op 0 .plain (.op 1 .plain (.op 2 .plain (.op 3 .held (.op 4 .plain (.op 5 .plain (.op 6 .plain (.op 7 .held (.op 8 .plain .nil))))))))) Kk [0,1] ?_
     |simp -dsimp -implicitDefEqProofs (disch:=first|exact Kd|fail) only[go_sem,↓reduceIte,seval,Row.obj hrow,Row.obj hrow',List.getElem_map]
    ·rename_i he
     exact Upd.now ⟨n - 1,by omega,i+1,by omega,fun j h hj=>by
      by_cases e:j=i
      ·subst e;exact he
      ·exact hno j h Ko,rfl,rfl,rfl⟩
    ·rename_i he
     rw[decide_eq_false (fun e=>he (by subst e;rfl))] at hR
     all_goals refine Upd.finL ?_ hR ?_
     any_goals first|exact Ks|skip
     rfl
   ·obtain rfl:i=xs.length:=by omega
    rw[decide_eq_true (List.ext_getElem hxy fun j h1 h2=>hno j h1 h1)] at hR
    repeat' first
     |with_reducible first|refine Nx.go ?_ |refine Bk.go (fun _=>?_) fun _=>?_ |refine Nb fun nb hnb hnb1 hnb2=>?_
     |simp -dsimp -implicitDefEqProofs (disch:=first|exact Kd|fail) only[go_sem,↓reduceIte,seval]
    all_goals refine Upd.finL ?_ hR ?_
    any_goals first|exact Ks|skip
    rfl
 ·rename_i hne
  rw[decide_eq_false (fun e=>hne (by subst e;rfl))] at hR
  all_goals refine Upd.finL ?_ hR ?_
  any_goals first|exact Ks|skip
  rfl
theorem zb4 {α:Type} [DecidableEq α] {l:List α} {i:Nat} (hi:i<l.length): ∃p,place l l[i]=some p∧p≤i∧(∃h:p<l.length,l[p]=l[i])∧(p=i↔l[i]∉l.take i):=by
 obtain⟨p,hp⟩:=zab (List.getElem_mem hi)
 have hp':=hp
 unfold place at hp'
 rw[List.findIdx?_eq_some_iff_getElem] at hp'
 obtain⟨h1,h2,h3⟩:=hp'
 have h2:=of_decide_eq_true h2
 have hle:p≤i:=by
  rcases Nat.lt_or_ge i p with h|h
  ·have:=h3 i h;simp at this
  ·exact h
 refine⟨p,hp,hle,⟨h1,h2.symm⟩,?_⟩
 constructor
 ·rintro rfl hm
  obtain⟨j,hj,e⟩:=(zaQ hi).1 hm
  have:=h3 j hj
  simp [e] at this
 ·intro hm
  rcases Nat.lt_or_ge p i with h|h
  ·exact absurd ((zaQ hi).2 ⟨p,h,h2.symm⟩) hm
  ·omega
end Go.Proofs.YtomdbjfdbkejoaaGreatDoor
namespace Go.Proofs.YtomdbjfdbkejoaaGreatDoor
open Go Go.V Go.Proofs
section plain
variable {α:Type} [DecidableEq α]
end plain
end Go.Proofs.YtomdbjfdbkejoaaGreatDoor
namespace Go.Proofs.YtomdbjfdbkejoaaGreatDoor
open Go Go.V Go.Proofs
theorem zhS {d:Nat} {t e n:Nat} {k:IntKind} (ht:(T t).k= .arr n e) (he:(T e).k= .int k) (hs:(T e).size=1) {xs ys:List Int} (hx:xs.length=n) (hy:ys.length=n):
  eqT T (d+2) t (.agg (xs.map (Value.int k)).toArray) (.agg (ys.map (Value.int k)).toArray)=some (decide (xs=ys)):=by
 have:=zhD (T:=T) (d:=d) he hs xs ys [] [] Ko rfl
 simp only[List.length_nil,List.nil_append] at this
 unfold eqT
 simp only[ht,he,TK.known,if_true,←hx,List.toList_toArray]
 exact this
abbrev u8L (l:List Int):List Value:=l.map (Value.int .u8)
abbrev zbO (l:List Int):Value:= .agg (u8L l).toArray
theorem ztw {l:List Int} {i:Nat} (h:i<l.length) (sp:List Value):(u8L l++sp)[i]? =some (.int .u8 l[i]):=by
 rw[List.getElem?_append_left (by simpa using h),List.getElem?_map,List.getElem?_eq_getElem h];rfl
theorem he8:zeB T 5 (Value.int .u8):=zla (T:=T) (t:=5) rfl
theorem zod {l:List Int} {b1 i:Nat} (hl:l.length=256) (hi:i<l.length) {G:za} {H:zb} {R:Value→za→zb→Prop}
  (hg1:G b1=none) (hf:zq H b1=some (.cells (u8L l) [] 22)) (hR:R (.int .u8 l[i]) G H):FnT Tryz.prog 86 [.int .i64 (i:Nat), .pointer (some ⟨b1,0,none⟩)] G H R:=by
 have hget:=ztw hi []
 rw[List.append_nil] at hget
 refine FnT.body tok [0,1,3] Tryz.func86 rfl Kk Kk (by show _≤7;simp) fun hsep=>?_
 rw[Tryz.results86]
 have hE:=hsep
 try simp only[zzs] at hE
 repeat(obtain⟨hx',hE⟩:=hE)
 repeat' first
  |with_reducible first|refine Nx.go ?_ |refine Bk.go (fun _=>?_) fun _=>?_
  |simp -dsimp -implicitDefEqProofs (disch:=first|exact Kd|fail) only[go_sem,↓reduceIte,seval, -List.reduceReplicate,hf,hget,List.append_nil]
 all_goals refine Upd.finL ?_ hR ?_
 any_goals first|exact Ks|skip
 rfl
theorem zeO {n:Nat} (h:n<256):IntKind.u8.wrap (n:Int)=n:=by
 simp only[IntKind.wrap,IntKind.bits,IntKind.signed];simp;omega
def zbY (l:List Int) (i:Nat):List Int:=zg (l.take i)++List.replicate (256 - i) 0
theorem zgJ {l:List Int} (hl:l.length=256) {i:Nat} (hi:i≤256):(zbY l i).length=256:=by
 unfold zbY;rw[List.length_append,zr,List.length_take,List.length_replicate];omega
theorem zmD {l:List Int} (hl:l.length=256) {i:Nat} (hi:i<256) {n:Int} (h:zg (l.take (i+1))=zg (l.take i)++[n]):zf (u8L (zbY l i)) i [.int .u8 n]=u8L (zbY l (i+1)):=by
 have hn:(zg (l.take i)).length=i:=by rw[zr,List.length_take];omega
 unfold zf zbY u8L
 rw[h,List.map_append,List.map_append,List.map_append,List.map_replicate,List.map_replicate,show 256 - i=(256 - (i+1))+1 by omega,List.replicate_succ]
 rw[List.take_append_of_le_length (by rw[List.length_map];omega),List.take_of_length_le (by rw[List.length_map];omega)]
 rw[List.drop_append,List.drop_of_length_le (by rw[List.length_map];simp;omega)]
 simp [hn]
theorem zfJ (l:List Int):List.replicate 256 (Value.int .u8 0)=u8L (zbY l 0):=by
 unfold zbY u8L;rw[List.take_zero,zkh,List.nil_append,List.map_replicate]
theorem ztx {l:List Int} (hl:l.length=256):zbY l 256=zg l:=by
 unfold zbY;rw[←hl,List.take_length];simp
theorem zyQ {l:List Int} (hl:l.length=256) {b1:Nat} {G:za} {H:zb} {R:Value→za→zb→Prop} (hg1:G b1=none) (hf:zq H b1=some (.cells (u8L l) [] 22))
  (hR:R (.tuple #[zbO (zg l), .int .i64 (zk l).length]) G H):FnT Tryz.prog 85 [.func (.func 86) #[] #[.pointer (some ⟨b1,0,none⟩)]] G H R:=by
 refine FnT.body tok [0,2,3,4,5,6,7,8,9,11,12,24] Tryz.func85 rfl Kk Kk (by show _≤38;simp) fun hsep=>?_
 rw[Tryz.results85]
 have hE:=hsep
 try simp only[zzs] at hE
 repeat(obtain⟨hx',hE⟩:=hE)
 repeat' first
  |with_reducible first|refine Nx.go ?_ |refine Bk.go (fun _=>?_) fun _=>?_ |refine zas.mk (fun _ _=>?_) fun _=>?_ |refine Nb fun nb hnb hnb1 hnb2=>?_ |refine Nr fun nb nsp ncap hnb hncap hnb1 hnb2=>?_
  |simp -dsimp -implicitDefEqProofs (disch:=first|exact Kd|fail) only[go_sem,↓reduceIte,seval, -List.reduceReplicate]
 rename_i b2 hb20 hb21 hb22 b4 hb40 hb41 hb42
 revert nb
 intro bm hbm hbm1 hbm2
 have n2:=zQ.neFind hb22 hf
 have n4:=zQ.neFind hb42.2 hf
 have nm:=zQ.neFind hbm2.2.2 hf
 rw[zfJ l]
 refine Tri.loopU tok [0,2,3,4,5,6,7,8,9,11,12,24] Kk [0,2,3,4,5,11] (fun q G' fr H'=> ∃ (i:Nat),i+q=256∧G'=G∧H'=(bm, .map ((zbN 0 (zk (l.take i))).map fun p=>((Value.int .u8) p.1,Value.int .u8 p.2))):: (b4, .cells (u8L (zbY l i)) [] 22):: (b2, .cells (u8L (zbY l 0)) [] 22)::H∧fr=[(0, .func (.func 86) #[] #[.pointer (some ⟨b1,0,none⟩)]),(2, .pointer (some ⟨b2,0,none⟩)),(3, .int .i64 0),(4, .pointer (some ⟨b4,0,none⟩)),(5, .map (some bm)),(11, .int .i64 i)]) (256) ?_ ?_
 ·exact Upd.now ⟨0,by omega,rfl,rfl,rfl⟩
 ·rintro q G1 fr H' hle hs ⟨i,hi,rfl,rfl,rfl⟩
  have hE:=hs
  try simp only[zzs] at hE
  repeat(obtain⟨hx',hE⟩:=hE)
  have htl:=zai (l.take i)
  rw[List.length_take] at htl
  have h8:(zbY l i).length=256:=zgJ hl Ko
  by_cases hil:i<256
  ·have hil2:i<l.length:=by omega
   have htk:=List.take_succ_eq_append_getElem hil2
   have hw:=zeO (n:=(zk (l.take i)).length) Ko
   rcases hp:place (zk (l.take i)) l[i] with _|n
   ·have hnn:=zcE hp
    rw[←htk] at hnn
    have hput:=zmD hl hil hnn.2
    repeat' first
     |with_reducible first|refine Nx.go ?_ |refine Bk.go (fun _=>?_) fun _=>?_ |refine zas.mk (fun _ _=>?_) fun _=>?_ |refine Nb fun nb hnb hnb1 hnb2=>?_ |refine Nr fun nb nsp ncap hnb hncap hnb1 hnb2=>?_
     |simp -dsimp -implicitDefEqProofs (disch:=first|exact Kd|fail) only[go_sem,↓reduceIte,seval, -List.reduceReplicate,zb2 he8 (Value.int .u8),zb3 he8,zbJ,Option.map_map,zcB he8 (Value.int .u8),zcD,hp,List.length_map,zbT,hw,hput]
     |with_reducible refine zod hl hil2 Ka ?_ ?_
     |exact hf
    rw[←hnn.1]
    exact Upd.now ⟨q - 1,by omega,i+1,by omega,rfl,rfl,rfl⟩
   ·have hnn:=zc3 hp
    rw[←htk] at hnn
    have hput:=zmD hl hil hnn.2
    repeat' first
     |with_reducible first|refine Nx.go ?_ |refine Bk.go (fun _=>?_) fun _=>?_ |refine zas.mk (fun _ _=>?_) fun _=>?_ |refine Nb fun nb hnb hnb1 hnb2=>?_ |refine Nr fun nb nsp ncap hnb hncap hnb1 hnb2=>?_
     |simp -dsimp -implicitDefEqProofs (disch:=first|exact Kd|fail) only[go_sem,↓reduceIte,seval, -List.reduceReplicate,zb2 he8 (Value.int .u8),zb3 he8,zbJ,Option.map_map,zcB he8 (Value.int .u8),zcD,hp,List.length_map,zbT,hput]
     |with_reducible refine zod hl hil2 Ka ?_ ?_
     |exact hf
    exact Upd.now ⟨q - 1,by omega,i+1,by omega,rfl,by rw[hnn.1],rfl⟩
  ·obtain rfl:i=256:=by omega
   have hnl:(zg l).length=256:=by rw[zr,hl]
   have htake:List.take 256 (u8L (zg l))=u8L (zg l):=List.take_of_length_le (by rw[List.length_map,hnl];omega)
   have h80:(zbY l 0).length=256:=zgJ hl Ko
   have hspl:zf (u8L (zbY l 0)) 0 (u8L (zg l))=u8L (zg l):=by
    unfold zf
    rw[List.take_zero,List.nil_append,List.drop_of_length_le (by simp [hnl,h80]),List.append_nil]
   have h256:List.take 256 l=l:=List.take_of_length_le Ko
   rw[ztx hl,h256]
   repeat' first
    |with_reducible first|refine Nx.go ?_ |refine Bk.go (fun _=>?_) fun _=>?_ |refine zas.mk (fun _ _=>?_) fun _=>?_ |refine Nb fun nb hnb hnb1 hnb2=>?_ |refine Nr fun nb nsp ncap hnb hncap hnb1 hnb2=>?_
    |simp -dsimp -implicitDefEqProofs (disch:=first|exact Kd|fail) only[go_sem,↓reduceIte,seval, -List.reduceReplicate,htake,List.length_map,hnl,h80,hspl,zbT]
   all_goals refine Upd.finL ?_ hR ?_
   any_goals first|exact Ks|skip
   rfl
theorem zl6 {l:List Int} (hl:l.length=256) {G:za} {H:zb} {R:Value→za→zb→Prop}
  (hR:R (.tuple #[zbO (zg l), .int .i64 (zk l).length]) G H):FnT Tryz.prog 53 [zbO l] G H R:=by
 have hnl:(zg l).length=256:=by rw[zr,hl]
 have h80:(zbY l 0).length=256:=zgJ hl Ko
 have hspl:zf (u8L (zbY l 0)) 0 (u8L (zg l))=u8L (zg l):=by
  unfold zf
  rw[List.take_zero,List.nil_append,List.drop_of_length_le (by simp [hnl,h80]),List.append_nil]
 have htake:List.take 256 (u8L (zg l))=u8L (zg l):=List.take_of_length_le (by rw[List.length_map,hnl];omega)
 refine FnT.body tok [0,1,2,3] Tryz.func53 rfl Kk Kk (by show _≤8;simp) fun hsep=>?_
 rw[Tryz.results53]
 have hE:=hsep
 try simp only[zzs] at hE
 repeat(obtain⟨hx',hE⟩:=hE)
 repeat' first
  |with_reducible first|refine Nx.go ?_ |refine Bk.go (fun _=>?_) fun _=>?_ |refine Nb fun nb hnb hnb1 hnb2=>?_
  |simp -dsimp -implicitDefEqProofs (disch:=first|exact Kd|fail) only[go_sem,↓reduceIte,seval, -List.reduceReplicate,List.toList_toArray,List.length_map,hl,zfJ l,hspl,h80,hnl,htake]
  |with_reducible refine zyQ hl Ka ?_ ?_
 all_goals refine Upd.finL ?_ hR ?_
 any_goals first|exact Ks|skip
 rfl
theorem zvK {l:List Int} (hl:l.length=256) (w:Int) {G:za} {H:zb} {R:Value→za→zb→Prop}
  (hR:R (.bool (decide (zg l=l)&&decide (((zk l).length:Int)=w))) G H):FnT Tryz.prog 26 [zbO l, .int .i64 w] G H R:=by
 have hnl:(zg l).length=256:=by rw[zr,hl]
 have hspl:zf (List.replicate 256 (Value.int .u8 0)) 0 (u8L (zg l))=u8L (zg l):=by
  unfold zf
  rw[List.take_zero,List.nil_append,List.drop_of_length_le (by rw[List.length_replicate,List.length_map,hnl];exact Nat.le_refl _),List.append_nil]
 have htake:List.take 256 (u8L (zg l))=u8L (zg l):=List.take_of_length_le (by rw[List.length_map,hnl];omega)
 have htake2:List.take 256 (u8L l)=u8L l:=List.take_of_length_le (by rw[List.length_map,hl];omega)
 have heq:eqT T 9 22 (zbO (zg l)) (zbO l)=some (decide (zg l=l)):=zhS (d:=7) (t:=22) (e:=5) (n:=256) (k:= .u8) rfl rfl rfl hnl hl
 refine FnT.body tok [0,1,2,4,5,6] Tryz.func26 rfl Kk Kk (by show _≤20;simp) fun hsep=>?_
 rw[Tryz.results26]
 have hE:=hsep
 try simp only[zzs] at hE
 repeat(obtain⟨hx',hE⟩:=hE)
 repeat' first
  |with_reducible first|refine Nx.go ?_ |refine Bk.go (fun _=>?_) fun _=>?_ |refine Nb fun nb hnb hnb1 hnb2=>?_
  |simp -dsimp -implicitDefEqProofs (disch:=first|exact Kd|fail) only[go_sem,↓reduceIte,seval, -List.reduceReplicate,List.toList_toArray,List.length_map,hl,hnl,htake,htake2,hspl,heq,List.length_replicate]
  |with_reducible refine zl6 hl ?_
 ·rename_i he
  rw[decide_eq_true he,Bool.true_and] at hR
  all_goals refine Upd.finL ?_ hR ?_
  any_goals first|exact Ks|skip
  rfl
 ·rename_i he
  rw[decide_eq_false he,Bool.false_and] at hR
  all_goals refine Upd.finL ?_ hR ?_
  any_goals first|exact Ks|skip
  rfl
end Go.Proofs.YtomdbjfdbkejoaaGreatDoor
namespace Go.Proofs.YtomdbjfdbkejoaaGreatDoor
open Go Go.V Go.Proofs
def zfV (n:Nat):Bool:=decide (97≤n∧n≤122)||decide (65≤n∧n≤90)||decide (n=95)
def zgi (n:Nat) (first:Bool):Bool:=if 48≤n∧n≤57 then !first else zfV n
theorem zty: ∀c:Fin 256,zfV c.val=(decide (c.val=95)||(decide (97≤c.val|||32)&&decide (c.val|||32≤122))):=by decide+kernel
theorem zyR: ∀c:Fin 256,∀b:Bool,zgi c.val b=(zfV c.val||(!b&&decide (48≤c.val)&&decide (c.val≤57))):=by decide+kernel
theorem zxL {x y:Nat} (hx:x<256) (hy:y<256):zaB .or .u8 (x:Int) (y:Int)=((x|||y:Nat):Int):=by
 simp only[zaB,BitVec.ofInt_natCast]
 have:(BitVec.ofNat IntKind.u8.bits x|||BitVec.ofNat IntKind.u8.bits y).toNat=x|||y:=by
  show(BitVec.ofNat 8 x|||BitVec.ofNat 8 y).toNat=x|||y
  rw[BitVec.toNat_or,BitVec.toNat_ofNat,BitVec.toNat_ofNat,Nat.mod_eq_of_lt Ko,Nat.mod_eq_of_lt Ko]
 rw[this]
 have h2:x|||y<256:=show x|||y<2 ^ 8 from Nat.or_lt_two_pow Ko Ko
 exact zeO h2
theorem zoe (n:Nat) (hn:n<256) {G:za} {H:zb} {R:Value→za→zb→Prop} (hR:R (.bool (zfV n)) G H):FnT Tryz.prog 122 [.int .u8 (n:Nat)] G H R:=by
 have ho:=zxL hn (y:=32) Ko
 have hl:=zty ⟨n,hn⟩
 simp only[] at hl
 generalize n|||32=m at ho hl
 have ho':zaB .or .u8 (n:Int) 32=(m:Int):=ho
 rw[hl] at hR
 refine FnT.body tok [0,2] Tryz.func122 rfl Kk Kk (by show _≤15;simp) fun hsep=>?_
 rw[Tryz.results122]
 have hE:=hsep
 try simp only[zzs] at hE
 repeat(obtain⟨hx',hE⟩:=hE)
 repeat' first
  |with_reducible first|refine Nx.go ?_ |refine Bk.go (fun _=>?_) fun _=>?_
  |simp -dsimp -implicitDefEqProofs (disch:=first|exact Kd|fail) only[go_sem,↓reduceIte,seval,ho']
 all_goals refine Upd.finL ?_ hR ?_
 any_goals first|exact Ks|skip
 all_goals (simp only[Value.bool.injEq];rw[Bool.eq_iff_iff];simp;omega)
def okS (s:List UInt8):Prop:= ∀i (h:i<s.length),zgi s[i].toNat (decide (i=0))=true
noncomputable def zdp (s:List UInt8):Bool:= @decide (1≤s.length∧s.length≤32∧okS s) (Classical.propDecidable _)
theorem zep {s:List UInt8}:zdp s=true↔1≤s.length∧s.length≤32∧okS s:=by unfold zdp;exact @decide_eq_true_iff _ (Classical.propDecidable _)
theorem zki {s:List UInt8} (h: ¬(1≤s.length∧s.length≤32∧okS s)):zdp s=false:=by
 cases hb:zdp s with
 |false=>rfl
 |true=>exact absurd (zep.1 hb) h
theorem zzY (s:List UInt8) (hlen:s.length≤2000000) {G:za} {H:zb} {R:Value→za→zb→Prop} (hR: ∀n:Nat,n≤s.length→(n=s.length↔okS s)→R (.int .i64 n) G H):FnT Tryz.prog 87 [str s] G H R:=by
  refine FnT.body tok [0,2,3,29] Tryz.func87 rfl Kk Kk (by show _≤33;simp) fun hsep=>?_
  rw[Tryz.results87]
  have hE:=hsep
  try simp only[zzs] at hE
  repeat(obtain⟨hx',hE⟩:=hE)
  repeat' first
    |with_reducible first|refine Nx.go ?_ |refine Bk.go (fun _=>?_) fun _=>?_ |refine Nb fun nb hnb hnb1 hnb2=>?_
    |simp -dsimp -implicitDefEqProofs (disch:=first|exact Kd|fail) only[go_sem,↓reduceIte,seval]
  refine Tri.loopU tok [0,2,3,29] Kk [0,2,3] (fun q G' fr H'=> ∃i:Nat,i+q=s.length∧(∀j (h:j<s.length),j<i→zgi s[j].toNat (decide (j=0))=true)∧G'=G∧H'=H∧fr=[(0,str s),(2, .int .i64 0),(3, .int .i64 i)]) (s.length) (Upd.now ?_) ?_
  · exact⟨0,by omega,fun j _ h=>by omega,rfl,rfl,rfl⟩
  · rintro q G' fr H' hle hs ⟨i,hi,hno,rfl,rfl,rfl⟩
    by_cases hil:i<s.length
    · have hb:s[i].toNat<256:=s[i].toNat_lt
      have hmay:=zyR ⟨s[i].toNat,hb⟩ (decide (i=0))
      simp only[] at hmay
      cases hL:zfV s[i].toNat with
      |true=>
        have hm:zgi s[i].toNat (decide (i=0))=true:=by rw[hmay,hL];rfl
        repeat' first
          |with_reducible first|refine Nx.go ?_ |refine Bk.go (fun _=>?_) fun _=>?_ |refine Nb fun nb hnb hnb1 hnb2=>?_
          |simp -dsimp -implicitDefEqProofs (disch:=first|exact Kd|fail) only[go_sem,↓reduceIte,seval,hL]
          |with_reducible refine zoe _ hb ?_
        exact Upd.now ⟨q - 1, by omega, i + 1, by omega, fun j h hj => by
            by_cases e:j=i
            · subst e;exact hm
            · exact hno j h Ko,rfl,rfl,rfl⟩
      |false=>
        rw[hL,Bool.false_or] at hmay
        have hmp:zgi s[i].toNat (decide (i=0))=true↔(i≠0∧48≤s[i].toNat)∧s[i].toNat≤57:=by rw[hmay];simp
        repeat' first
          |with_reducible first|refine Nx.go ?_ |refine Bk.go (fun _=>?_) fun _=>?_ |refine Nb fun nb hnb hnb1 hnb2=>?_
          |simp -dsimp -implicitDefEqProofs (disch:=first|exact Kd|fail) only[go_sem,↓reduceIte,seval,hL]
          |with_reducible refine zoe _ hb ?_
        all_goals first
          | (have hm:zgi s[i].toNat (decide (i=0))=true:=hmp.2 Ko
             exact Upd.now ⟨q - 1,by omega,i+1,by omega,fun j h hj=>by
            by_cases e:j=i
            · subst e;exact hm
            · exact hno j h Ko,rfl,rfl,rfl⟩)
          | (have hm : ¬ zgi s[i].toNat (decide (i = 0)) = true := fun h => by
               have:=hmp.1 h
               omega
             exact Upd.finL Ks (hR i Ko ⟨fun e=>by omega,fun hok=>absurd (hok i hil) hm⟩) rfl)
    · obtain rfl:i=s.length:=by omega
      repeat' first
        |with_reducible first|refine Nx.go ?_ |refine Bk.go (fun _=>?_) fun _=>?_ |refine Nb fun nb hnb hnb1 hnb2=>?_
        |simp -dsimp -implicitDefEqProofs (disch:=first|exact Kd|fail) only[go_sem,↓reduceIte,seval]
      all_goals refine Upd.finL ?_ (hR s.length (Nat.le_refl _) ⟨fun _ j h=>hno j h h,fun _=>rfl⟩) ?_
      any_goals first|exact Ks|skip
      rfl
theorem zyS (s:List UInt8) (hlen:s.length≤2000000) {G:za} {H:zb} {R:Value→za→zb→Prop} (hR:R (.bool (zdp s)) G H):FnT Tryz.prog 54 [str s] G H R:=by
  by_cases h1:1≤s.length
  · have hs0:s≠[]:=fun e=>by subst e;simp at h1
    by_cases h2:s.length≤32
    · refine FnT.body tok [0,2] Tryz.func54 rfl Kk Kk (by show _≤17;simp) fun hsep=>?_
      rw[Tryz.results54]
      have hE:=hsep
      try simp only[zzs] at hE
      repeat(obtain⟨hx',hE⟩:=hE)
      repeat' first
        |with_reducible first|refine Nx.go ?_ |refine Bk.go (fun _=>?_) fun _=>?_
        |simp -dsimp -implicitDefEqProofs (disch:=first|exact Kd|fail) only[go_sem,↓reduceIte,seval]
        |with_reducible refine zzY s hlen fun n hn hok=>?_
      all_goals first
        |exact absurd Ka hs0
        | (refine Upd.finL Ks hR ?_
           simp only[Value.bool.injEq]
           rw[Bool.eq_iff_iff,zep,decide_eq_true_eq,←hok]
           omega)
        | (exfalso;omega)
    · rw[zki fun h=>h2 h.2.1] at hR
      refine FnT.body tok [0,2] Tryz.func54 rfl Kk Kk (by show _≤17;simp) fun hsep=>?_
      rw[Tryz.results54]
      have hE:=hsep
      try simp only[zzs] at hE
      repeat(obtain⟨hx',hE⟩:=hE)
      repeat' first
        |with_reducible first|refine Nx.go ?_ |refine Bk.go (fun _=>?_) fun _=>?_
        |simp -dsimp -implicitDefEqProofs (disch:=first|exact Kd|fail) only[go_sem,↓reduceIte,seval]
      all_goals try(exfalso;omega)
      all_goals refine Upd.finL ?_ hR ?_
      any_goals first|exact Ks|skip
      all_goals rfl
  · rw[zki fun h=>h1 h.1] at hR
    obtain rfl:s=[]:=List.eq_nil_of_length_eq_zero Ko
    refine FnT.body tok [0,2] Tryz.func54 rfl Kk Kk (by show _≤17;simp) fun hsep=>?_
    rw[Tryz.results54]
    have hE:=hsep
    try simp only[zzs] at hE
    repeat(obtain⟨hx',hE⟩:=hE)
    repeat' first
      |with_reducible first|refine Nx.go ?_ |refine Bk.go (fun _=>?_) fun _=>?_
      |simp -dsimp -implicitDefEqProofs (disch:=first|exact Kd|fail) only[go_sem,↓reduceIte,seval]
    all_goals try(rename_i hno;exact absurd rfl hno)
    all_goals refine Upd.finL ?_ hR ?_
    any_goals first|exact Ks|skip
    all_goals rfl
theorem zqt (l:List (List UInt8)) (x:List UInt8) (hlen:l.length≤2000000) {G:za} {H:zb} {R:Value→za→zb→Prop} {v:Value} (hv:Sl G str v l) (hR:R (.int .i64 (zz l x)) G H):FnT Tryz.prog 88 [v,str x] G H R:=by
 obtain⟨a,cap,rfl,hrow,hcap⟩:=hv
 refine FnT.body tok [0,1,4,5,7,8,9,16] Tryz.func88 rfl Kk Kk (by show _≤19;simp) fun hsep=>?_
 rw[Tryz.results88]
 have hE:=hsep
 try simp only[zzs] at hE
 repeat(obtain⟨hx',hE⟩:=hE)
 repeat' first
  |with_reducible first|refine Nx.go ?_ |refine Bk.go (fun _=>?_) fun _=>?_ |refine Nb fun nb hnb hnb1 hnb2=>?_
  |simp -dsimp -implicitDefEqProofs (disch:=first|exact Kd|fail) only[go_sem,↓reduceIte,seval]
 refine Tri.loopU tok [0,1,4,5,7,8,9,16] Kk [0,1,4,7,8] (fun n G' fr H'=> ∃i:Nat,i+n=l.length∧(∀j (h:j<l.length),j<i→l[j]≠x)∧G'=G∧H'=H∧fr=[(0, .slice a l.length cap),(1,str x),(4, .int .i64 0),(7, .int .i64 l.length),(8, .int .i64 i)]) (l.length) (Upd.now ?_) ?_
 ·exact⟨0,by omega,fun j _ h=>by omega,rfl,rfl,rfl⟩
 ·rintro n G' fr H' hle hs ⟨i,hi,hno,rfl,rfl,rfl⟩
  by_cases hil:i<l.length
  ·have had:Adr a:=hrow.adr (by rw[List.length_map];omega)
   repeat' first
    |with_reducible first|refine Nx.go ?_ |refine Bk.go (fun _=>?_) fun _=>?_ |refine Nb fun nb hnb hnb1 hnb2=>?_
    |simp -dsimp -implicitDefEqProofs (disch:=first|exact Kd|fail) only[go_sem,↓reduceIte,seval,Row.obj hrow,List.getElem_map]
   ·rename_i he
    have hp:place l x=some i:=by
     unfold place
     rw[List.findIdx?_eq_some_iff_getElem]
     exact⟨hil,by simp [he],fun j hj=>by have:=hno j Ko hj;simp;exact fun e=>this e.symm⟩
    rw[zH hp] at hR
    all_goals refine Upd.finL ?_ hR ?_
    any_goals first|exact Ks|skip
    rfl
   ·rename_i he
    exact Upd.now ⟨n - 1,by omega,i+1,by omega,fun j h hj=>by
     by_cases e:j=i
     ·subst e;exact fun e=>he e.symm
     ·exact hno j h Ko,rfl,rfl,rfl⟩
  ·obtain rfl:i=l.length:=by omega
   have hp:place l x=none:=zcC fun hm=>by
    obtain⟨j,hj,e⟩:=List.getElem_of_mem hm
    exact hno j hj hj e
   rw[zdL hp] at hR
   repeat' first
    |with_reducible first|refine Nx.go ?_ |refine Bk.go (fun _=>?_) fun _=>?_ |refine Nb fun nb hnb hnb1 hnb2=>?_
    |simp -dsimp -implicitDefEqProofs (disch:=first|exact Kd|fail) only[go_sem,↓reduceIte,seval]
   all_goals refine Upd.finL ?_ hR ?_
   any_goals first|exact Ks|skip
   rfl
theorem zhT (l:List (List UInt8)) (x:List UInt8) (hlen:l.length≤2000000) {G:za} {H:zb} {R:Value→za→zb→Prop} {v:Value} (hv:Sl G str v l) (hR:R (.bool (decide (x∈l))) G H):FnT Tryz.prog 55 [v,str x] G H R:=by
 have hv0:=hv
 obtain⟨a,cap,rfl,hrow,hcap⟩:=hv
 refine FnT.body tok [0,1,4] Tryz.func55 rfl Kk Kk (by show _≤9;simp) fun hsep=>?_
 rw[Tryz.results55]
 have hE:=hsep
 try simp only[zzs] at hE
 repeat(obtain⟨hx',hE⟩:=hE)
 repeat' first
  |with_reducible first|refine Nx.go ?_ |refine Bk.go (fun _=>?_) fun _=>?_
  |simp -dsimp -implicitDefEqProofs (disch:=first|exact Kd|fail) only[go_sem,↓reduceIte,seval]
  |with_reducible refine zqt l x hlen hv0 ?_
 all_goals refine Upd.finL ?_ hR ?_
 any_goals first|exact Ks|skip
 simp only[Value.bool.injEq]
 rw[Bool.eq_iff_iff,decide_eq_true_eq,decide_eq_true_eq]
 constructor
 ·intro h
  cases hp:place l x with
  |none=>rw[zdL hp] at h;omega
  |some n=>
   obtain⟨h1,h2⟩:=z6 hp
   rw[List.getElem?_eq_getElem h1,Option.some.injEq] at h2
   exact h2▸List.getElem_mem h1
 ·intro h
  obtain⟨n,hn⟩:=zab h
  rw[zH hn];omega
end Go.Proofs.YtomdbjfdbkejoaaGreatDoor
namespace Go.Proofs.YtomdbjfdbkejoaaGreatDoor
open Go Go.V Go.Proofs
def zbm (l:List (List UInt8)):Prop:=l.length≤64∧ ∀i (h:i<l.length),zdp l[i]=true∧l[i]∉l.take i
noncomputable def zaF (p:Prop):Bool:= @decide p (Classical.propDecidable p)
theorem zcp {p:Prop}:zaF p=true↔p:=by unfold zaF;exact @decide_eq_true_iff p (Classical.propDecidable p)
theorem zK {p:Prop} (h:p):zaF p=true:=zcp.2 h
theorem zA {p:Prop} (h: ¬p):zaF p=false:=by
 cases hb:zaF p with
 |false=>rfl
 |true=>exact absurd (zcp.1 hb) h
theorem zxM (l:List (List UInt8)) (hlen:l.length≤2000000) (hstr: ∀s∈l,s.length≤2000000) {G:za} {H:zb} {R:Value→za→zb→Prop} {v:Value} (hv:Sl G str v l) (hR:R (.bool (zaF (zbm l))) G H):FnT Tryz.prog 27 [v] G H R:=by
 obtain⟨a,cap,rfl,hrow,hcap⟩:=hv
 by_cases h64:l.length≤64
 ·refine FnT.body tok [0,2,3,4,7,8,9,10,11,24] Tryz.func27 rfl Kk Kk (by show _≤26;simp) fun hsep=>?_
  rw[Tryz.results27]
  have hE:=hsep
  try simp only[zzs] at hE
  repeat(obtain⟨hx',hE⟩:=hE)
  repeat' first
   |with_reducible first|refine Nx.go ?_ |refine Bk.go (fun _=>?_) fun _=>?_ |refine Nb fun nb hnb hnb1 hnb2=>?_
   |simp -dsimp -implicitDefEqProofs (disch:=first|exact Kd|fail) only[go_sem,↓reduceIte,seval]
  refine Tri.loopU tok [0,2,3,4,7,8,9,10,11,24] Kk [0,2,8,9,10] (fun n G' fr H'=> ∃i:Nat,i+n=l.length∧(∀j (h:j<l.length),j<i→zdp l[j]=true∧l[j]∉l.take j)∧G'=G∧H'=H∧fr=[(0, .slice a l.length cap),(2, .bool false),(8, .slice a l.length cap),(9, .int .i64 l.length),(10, .int .i64 i)]) (l.length) (Upd.now ?_) ?_
  ·exact⟨0,by omega,fun j _ h=>by omega,rfl,rfl,rfl⟩
  ·rintro n G' fr H' hle hs ⟨i,hi,hno,rfl,rfl,rfl⟩
   by_cases hil:i<l.length
   ·have had:Adr a:=hrow.adr (by rw[List.length_map];omega)
    have hsub:Sl G' str (.slice (zbH a 0 cap 0) (i - 0) (cap - 0)) (l.take i):=⟨_,_,by rw[List.length_take,Nat.min_eq_left Ko];rfl,by
     have h1:=(Row.drop hrow (l:=0) (m:=cap) (s:=1) (fun e=>by rw[List.length_map];omega)).take i
     rw[List.map_take]
     exact h1,by rw[List.length_take];omega⟩
    have hsi:=hstr l[i] (List.getElem_mem hil)
    repeat' first
     |with_reducible first|refine Nx.go ?_ |refine Bk.go (fun _=>?_) fun _=>?_ |refine Nb fun nb hnb hnb1 hnb2=>?_
     |simp -dsimp -implicitDefEqProofs (disch:=first|exact Kd|fail) only[go_sem,↓reduceIte,seval,Row.obj hrow,List.getElem_map]
     |with_reducible refine zyS l[i] hsi ?_
     |with_reducible refine zhT (l.take i) l[i] (by rw[List.length_take];omega) hsub ?_
    ·rename_i hct
     rw[zA fun h=>(h.2 i hil).2 hct] at hR
     all_goals refine Upd.finL ?_ hR ?_
     any_goals first|exact Ks|skip
     rfl
    ·rename_i hnm hct
     exact Upd.now ⟨n - 1,by omega,i+1,by omega,fun j h hj=>by
      by_cases e:j=i
      ·subst e;exact⟨hnm,hct⟩
      ·exact hno j h Ko,rfl,rfl,rfl⟩
    ·rename_i hnm
     rw[zA fun h=>by have:=(h.2 i hil).1;rw[hnm] at this;cases this] at hR
     all_goals refine Upd.finL ?_ hR ?_
     any_goals first|exact Ks|skip
     rfl
   ·obtain rfl:i=l.length:=by omega
    rw[zK ⟨h64,fun i h=>hno i h h⟩] at hR
    repeat' first
     |with_reducible first|refine Nx.go ?_ |refine Bk.go (fun _=>?_) fun _=>?_ |refine Nb fun nb hnb hnb1 hnb2=>?_
     |simp -dsimp -implicitDefEqProofs (disch:=first|exact Kd|fail) only[go_sem,↓reduceIte,seval]
    all_goals refine Upd.finL ?_ hR ?_
    any_goals first|exact Ks|skip
    rfl
 ·rw[zA fun h=>h64 h.1] at hR
  refine FnT.body tok [0,2,3,4,7,8,9,10,11,24] Tryz.func27 rfl Kk Kk (by show _≤26;simp) fun hsep=>?_
  rw[Tryz.results27]
  have hE:=hsep
  try simp only[zzs] at hE
  repeat(obtain⟨hx',hE⟩:=hE)
  repeat' first
   |with_reducible first|refine Nx.go ?_ |refine Bk.go (fun _=>?_) fun _=>?_ |refine Nb fun nb hnb hnb1 hnb2=>?_
   |simp -dsimp -implicitDefEqProofs (disch:=first|exact Kd|fail) only[go_sem,↓reduceIte,seval]
  all_goals try(exfalso;omega)
  all_goals refine Upd.finL ?_ hR ?_
  any_goals first|exact Ks|skip
  rfl
structure DfaT where
 of:List Int
 width:Int
 next:List (List Int)
 label:List Int
 names:List (List UInt8)
def SlS (G:za) (v:Value) (xss:List (List Int)):Prop:= ∃a cap vs,v= .slice a xss.length cap∧Row G a vs∧vs.length=xss.length∧xss.length≤cap∧ ∀i (h:i<xss.length) (h2:i<vs.length),∃b c,vs[i]= .slice b xss[i].length c∧Row G b (xss[i].map (Value.int .i64))∧xss[i].length≤c
theorem SlS.mono {G G':za} (hle:PLe G G') {v:Value} {xss:List (List Int)} (h:SlS G v xss):SlS G' v xss:=by
 obtain⟨a,cap,vs,h1,h2,h3,h4,h5⟩:=h
 refine⟨a,cap,vs,h1,h2.mono hle,h3,h4,fun i h h'=>?_⟩
 obtain⟨b,c,e1,e2,e3⟩:=h5 i h h'
 exact⟨b,c,e1,e2.mono hle,e3⟩
def zd (d:DfaT) (vn vl vs:Value):List Value:=u8L d.of++[.int .i64 d.width,vn,vl,vs]
def IsD (G:za) (d:DfaT) (v:Value):Prop:=d.of.length=256∧(∀x∈d.of,0≤x∧x≤255)∧ ∃vn vl vs,v= .agg (zd d vn vl vs).toArray∧SlS G vn d.next∧Sl G (Value.int .i64) vl d.label∧Sl G str vs d.names
theorem IsD.mono {G G':za} (hle:PLe G G') {d:DfaT} {v:Value} (h:IsD G d v):IsD G' d v:=by
 obtain⟨h1,h2,vn,vl,vs,h3,h4,h5,h6⟩:=h
 exact⟨h1,h2,vn,vl,vs,h3,h4.mono hle,h5.mono hle,h6.mono hle⟩
def zx (d:DfaT):Prop:=d.next.length≤2000000∧(∀r∈d.next,r.length≤2000000)∧d.label.length≤2000000∧d.names.length≤2000000∧ ∀s∈d.names,s.length≤2000000
theorem zat {d:DfaT} (h:d.of.length=256) (vn vl vs:Value):(zd d vn vl vs).length=260:=by unfold zd;rw[List.length_append,List.length_map,h];rfl
theorem zkj {d:DfaT} (h:d.of.length=256) (vn vl vs:Value):(zd d vn vl vs)[256]? =some (.int .i64 d.width):=by unfold zd;rw[List.getElem?_append_right (by rw[List.length_map,h];omega),List.length_map,h];rfl
theorem zeb {d:DfaT} (h:d.of.length=256) (vn vl vs:Value):(zd d vn vl vs)[257]? =some vn:=by unfold zd;rw[List.getElem?_append_right (by rw[List.length_map,h];omega),List.length_map,h];rfl
theorem zdy {d:DfaT} (h:d.of.length=256) (vn vl vs:Value):(zd d vn vl vs)[258]? =some vl:=by unfold zd;rw[List.getElem?_append_right (by rw[List.length_map,h];omega),List.length_map,h];rfl
theorem zof {d:DfaT} (h:d.of.length=256) (vn vl vs:Value):(zd d vn vl vs)[259]? =some vs:=by unfold zd;rw[List.getElem?_append_right (by rw[List.length_map,h];omega),List.length_map,h];rfl
theorem ztz {d:DfaT} (h:d.of.length=256) (vn vl vs:Value):(zd d vn vl vs).take 256=u8L d.of:=by unfold zd;rw[List.take_append_of_le_length (by rw[List.length_map,h];omega),List.take_of_length_le (by rw[List.length_map,h];omega)]
theorem zdM {d:DfaT} (h:d.of.length=256) (vn vl vs:Value):(zd d vn vl vs).take 260=zd d vn vl vs:=List.take_of_length_le (by rw[zat h];omega)
end Go.Proofs.YtomdbjfdbkejoaaGreatDoor
namespace Go.Proofs.YtomdbjfdbkejoaaGreatDoor
open Go Go.V Go.Proofs Go.ChangeShapes Go.WideShapes Go.RowKit
section
variable {H:Type} {enc:TypeId×Value→H} {W:World} {held:Bool} {sp:Nat→Bool}
theorem zqu {l:List (DataW H)} {i:Nat} (h:i<l.length):zaA l[i]≤bulkVs l:=by
 induction l generalizing i with
 |nil=>cases h
 |cons d l ih=>
  cases i with
  |zero=>simp only[List.getElem_cons_zero,bulkVs];omega
  |succ i=>
   have:=ih (i:=i) (by simpa using h)
   simp only[List.getElem_cons_succ,bulkVs];omega
theorem zog {n:Nat} {cs:List Value} {x:DataW H×List MemPlace} (h:DataW.trod enc Tryz.prog W 0 sp held n 24 cs=some x):
  ∃ (a:Option Addr) (cap:Nat) (xs:List Int),cs=[.slice a xs.length cap]∧Row (fun b=>W.heap[b]?) a (xs.map (Value.int .i64))∧xs.length≤cap∧xs.length+1≤zaA x.1:=by
 obtain⟨d1,hd1,hf1⟩:=tok.und (t:=24) (k:= .slice 3) rfl (by simp)
 simp only[TK.fits] at hf1;subst hf1
 obtain⟨a,cap,ds,xs,h1,h2,h3,h4,h5,h6⟩:=ziJ hd1 (m:=1) Kk Ko (fun n:Int=>[Value.int .i64 n]) (fun d _=>1≤zaA d) (fun n cs y hl hy=>by
  obtain⟨z,e,_,_,hb⟩:=zl3 tok (t:=3) (k:= .i64) rfl hy
  exact⟨z,e,by omega⟩) h
 refine⟨a,cap,xs,h1,by rw[List.map_eq_flatMap];exact h3,h2,?_⟩
 have:=zhP ds fun d hd=>by
  obtain⟨i,hi,rfl⟩:=List.getElem_of_mem hd
  exact h5 i hi Ko
 omega
theorem zvL {n:Nat} {cs:List Value} {x:DataW H×List MemPlace} (h:DataW.trod enc Tryz.prog W 0 sp held n 25 cs=some x):
  ∃ (a:Option Addr) (cap:Nat) (xs:List (List UInt8)),cs=[.slice a xs.length cap]∧Row (fun b=>W.heap[b]?) a (xs.map str)∧xs.length≤cap∧xs.length+1≤zaA x.1∧ ∀s∈xs,s.length≤zaA x.1:=by
 obtain⟨d1,hd1,hf1⟩:=tok.und (t:=25) (k:= .slice 9) rfl (by simp)
 simp only[TK.fits] at hf1;subst hf1
 obtain⟨a,cap,ds,xs,h1,h2,h3,h4,h5,h6⟩:=ziJ hd1 (m:=1) Kk Ko (fun s:List UInt8=>[str s]) (fun d s=>s.length+1≤zaA d) (fun n cs y hl hy=>by
  obtain⟨s,e,hb⟩:=zxF tok (t:=9) rfl hy
  exact⟨s,e,by omega⟩) h
 refine⟨a,cap,xs,h1,by rw[List.map_eq_flatMap];exact h3,h2,?_,fun s hs=>?_⟩
 ·have:=zhP ds fun d hd=>by
   obtain⟨i,hi,rfl⟩:=List.getElem_of_mem hd
   have:=h5 i hi Ko
   omega
  omega
 ·obtain⟨i,hi,rfl⟩:=List.getElem_of_mem hs
  have h7:=h5 i Ko hi
  have h8:=zqu (l:=ds) (i:=i) Ko
  omega
theorem zvM {n:Nat} {cs:List Value} {x:DataW H×List MemPlace} (h:DataW.trod enc Tryz.prog W 0 sp held n 23 cs=some x):
  ∃ (v:Value) (xss:List (List Int)),cs=[v]∧SlS (fun b=>W.heap[b]?) v xss∧xss.length+1≤zaA x.1∧ ∀r∈xss,r.length≤zaA x.1:=by
 obtain⟨d1,hd1,hf1⟩:=tok.und (t:=23) (k:= .slice 24) rfl (by simp)
 simp only[TK.fits] at hf1;subst hf1
 obtain⟨a,cap,rows,ds,spare,xs,h1,h2,h3,h4,h5,h6,h7⟩:=zob hd1 (m:=1) Kk Ko (fun cs d (r:List Int)=> ∃b c,cs=[.slice b r.length c]∧Row (fun b=>W.heap[b]?) b (r.map (Value.int .i64))∧r.length≤c∧r.length+1≤zaA d) (fun n cs y hl hy=>by
  obtain⟨b,c,r,e,g1,g2,g3⟩:=zog hy
  exact⟨r,b,c,e,g1,g2,g3⟩) h
 have hfl:rows.flatten.length=rows.length:=by
  have: ∀l:List (List Value),(∀i (h:i<l.length),l[i].length=1)→l.flatten.length=l.length:=fun l=>by
   induction l with
   |nil=>intro _;rfl
   |cons r l ih=>
    intro hh
    have h0:=hh 0 (by simp)
    have:=ih fun i hi=>by have:=hh (i+1) (by simp;omega);simpa using this
    simp only[List.flatten_cons,List.length_append,List.length_cons,List.getElem_cons_zero] at h0⊢
    omega
  exact this rows fun i hi=>(h6 i hi Ko Ko).1
 have hfg: ∀i (h:i<rows.length),rows[i]=[rows.flatten[i]'Ko]:=by
  have: ∀l:List (List Value),(∀i (h:i<l.length),l[i].length=1)→ ∀i (h:i<l.length) (h2:i<l.flatten.length),l[i]=[l.flatten[i]]:=fun l=>by
   induction l with
   |nil=>intro _ i h;cases h
   |cons r l ih=>
    intro hh i hi h2
    have h0:=hh 0 (by simp)
    simp only[List.getElem_cons_zero] at h0
    match r,h0 with
    | [v],_=>
     cases i with
     |zero=>simp
     |succ i=>
      have:=ih (fun i hi=>by have:=hh (i+1) (by simp;omega);simpa using this) i (by simpa using hi) (by simpa using h2)
      simpa using this
  exact fun i h=>this rows (fun i hi=>(h6 i hi Ko Ko).1) i h _
 refine⟨_,xs,h1,⟨a,cap,rows.flatten,rfl,h3,by omega,h2,fun i hi hi2=>?_⟩,?_,fun r hr=>?_⟩
 ·obtain⟨_,b,c,e,g1,g2,_⟩:=h6 i Ko Ko hi
  rw[hfg i Ko] at e
  exact⟨b,c,by simpa using e,g1,g2⟩
 ·have:=zhP ds fun d hd=>by
   obtain⟨i,hi,rfl⟩:=List.getElem_of_mem hd
   obtain⟨_,b,c,e,g1,g2,g3⟩:=h6 i Ko hi Ko
   omega
  omega
 ·obtain⟨i,hi,rfl⟩:=List.getElem_of_mem hr
  obtain⟨_,b,c,e,g1,g2,g3⟩:=h6 i Ko Ko hi
  have:=zqu (l:=ds) (i:=i) Ko
  omega
theorem zxN {n:Nat} {cs:List Value} (hl:cs.length=256) {x:DataW H×List MemPlace} (h:DataW.trod enc Tryz.prog W 0 sp held n 22 cs=some x):
  ∃xs:List Int,cs=xs.map (Value.int .u8)∧ ∀x∈xs,0≤x∧x≤255:=by
 have key: ∀k,k≤256→ ∃xs:List Int,cs.take k=xs.map (Value.int .u8)∧ ∀x∈xs,0≤x∧x≤255:=fun k=>by
  induction k with
  |zero=>intro _;exact⟨[],by simp,fun x hx=>by cases hx⟩
  |succ k ih=>
   intro hk
   obtain⟨xs,h1,h2⟩:=ih Ko
   obtain⟨q,y,hy,_⟩:=zxG tok (t:=22) (e:=5) (m:=256) rfl h (i:=k) Ko
   rw[show Tryz.prog.cellsOf 5=1 by kernel_rfl] at hy
   obtain⟨z,e,w0,w1,_⟩:=zl3 tok (t:=5) (k:= .u8) rfl hy
   have hk2:k<cs.length:=by omega
   rw[Nat.mul_one,List.drop_eq_getElem_cons hk2] at e
   simp only[List.take_succ_cons,List.take_zero,List.cons.injEq,and_true] at e
   refine⟨xs++[z],by rw[List.take_succ_eq_append_getElem hk2,h1,List.map_append,e];rfl,fun x hx=>?_⟩
   rcases List.mem_append.1 hx with hx|hx
   ·exact h2 x hx
   ·rw[List.mem_singleton.1 hx]
    exact⟨w0,w1⟩
 obtain⟨xs,h1,h2⟩:=key 256 (Nat.le_refl _)
 rw[List.take_of_length_le Ko] at h1
 exact⟨xs,h1,h2⟩
set_option maxRecDepth 8000 in
theorem ztA {r:Reach} {b0:Nat} {v:Value} {dt:DataW H} {ps:List MemPlace}
  (hval:Value.okWide Tryz.prog W r b0 27 v) (h:DataW.Trod enc Tryz.prog W 0 sp held 27 v dt ps): ∃d:DfaT,IsD (fun b=>W.heap[b]?) d v∧(zaA dt≤1048576→zx d):=by
 obtain⟨d1,hd1,f,rfl,hf1⟩:=tok.und (t:=27) (k:= .struct [(0,22),(256,3),(257,23),(258,24),(259,25)]) rfl (by simp)
 obtain⟨C,rfl,hC⟩:=okWide_struct hd1 hval
 rw[show Tryz.prog.cellsOf 27=260 by kernel_rfl] at hC
 obtain⟨fuel,hf⟩:=h
 have hC2:C.toList.length=260:=by simpa using hC
 have hf':DataW.trod enc Tryz.prog W 0 sp held fuel 27 C.toList=some (dt,ps):=hf
 obtain⟨m0,y0,g0,w0⟩:=zge tok (t:=27) (fs:=[(0,22),(256,3),(257,23),(258,24),(259,25)]) rfl (i:=0) rfl hf'
 obtain⟨m1,y1,g1,w1⟩:=zge tok (t:=27) (fs:=[(0,22),(256,3),(257,23),(258,24),(259,25)]) rfl (i:=1) rfl hf'
 obtain⟨m2,y2,g2,w2⟩:=zge tok (t:=27) (fs:=[(0,22),(256,3),(257,23),(258,24),(259,25)]) rfl (i:=2) rfl hf'
 obtain⟨m3,y3,g3,w3⟩:=zge tok (t:=27) (fs:=[(0,22),(256,3),(257,23),(258,24),(259,25)]) rfl (i:=3) rfl hf'
 obtain⟨m4,y4,g4,w4⟩:=zge tok (t:=27) (fs:=[(0,22),(256,3),(257,23),(258,24),(259,25)]) rfl (i:=4) rfl hf'
 rw[show Tryz.prog.cellsOf 22=256 by kernel_rfl] at g0
 rw[show Tryz.prog.cellsOf 3=1 by kernel_rfl] at g1
 rw[show Tryz.prog.cellsOf 23=1 by kernel_rfl] at g2
 rw[show Tryz.prog.cellsOf 24=1 by kernel_rfl] at g3
 rw[show Tryz.prog.cellsOf 25=1 by kernel_rfl] at g4
 obtain⟨of,e0,hb0⟩:=zxN (by rw[List.length_take,List.length_drop,hC2];omega) g0
 obtain⟨w,e1,_⟩:=zl3 tok (t:=3) (k:= .i64) rfl g1
 obtain⟨vn,next,e2,hn,hn1,hn2⟩:=zvM g2
 obtain⟨al,cl,label,e3,hl,hl1,hl2⟩:=zog g3
 obtain⟨ay,cy,names,e4,hy,hy1,hy2,hy3⟩:=zvL g4
 rw[List.drop_zero] at e0
 have hofl:of.length=256:=by
  have:=congrArg List.length e0
  rw[List.length_take,hC2,List.length_map] at this
  omega
 have split1: ∀ {k:Nat} {z:Value},k<260→(C.toList.drop k).take 1=[z]→C.toList.drop k=z::C.toList.drop (k+1):=fun{k z} hk e=>by
  rw[List.drop_eq_getElem_cons Ko] at e⊢
  simp only[List.take_succ_cons,List.take_zero,List.cons.injEq,and_true] at e
  rw[e]
 have hCe:C.toList=zd ⟨of,w,next,label,names⟩ vn (.slice al label.length cl) (.slice ay names.length cy):=by
  rw[←List.take_append_drop 256 C.toList,e0,split1 Ko e1,split1 Ko e2,split1 Ko e3,split1 Ko e4,List.drop_of_length_le Ko]
  rfl
 refine⟨⟨of,w,next,label,names⟩,⟨hofl,hb0,vn,_,_,?_,hn,⟨al,cl,rfl,hl,hl1⟩,⟨ay,cy,rfl,hy,hy1⟩⟩,fun hbk=>?_⟩
 ·rw[←hCe]
 ·simp only[] at w0 w1 w2 w3 w4
  refine⟨by show next.length≤_;omega,fun r hr=>by have:=hn2 r hr;omega,by show label.length≤_;omega,by show names.length≤_;omega,fun s hs=>by have:=hy3 s hs;omega⟩
end
end Go.Proofs.YtomdbjfdbkejoaaGreatDoor
namespace Go.Proofs.YtomdbjfdbkejoaaGreatDoor
open Go Go.V Go.Proofs
def zr0 (d:DfaT) (s:Nat):Prop:= ∀ (h:s<d.next.length) (h2:s<d.label.length),(d.next[s].length:Int)=d.width∧0≤d.label[s]∧d.label[s]≤d.names.length∧ ∀t∈d.next[s],0≤t∧t<d.label.length
def ziO (d:DfaT):Prop:= ∀s,zr0 d s
theorem zyT {d:DfaT} (hsm:zx d) (hnl:d.next.length=d.label.length) {G:za} {H:zb} {R:Value→za→zb→Prop} {v:Value} (hv:IsD G d v) (hR:R (.bool (zaF (ziO d))) G H):FnT Tryz.prog 28 [v] G H R:=by
  obtain⟨hof,hofb,vn,vl,vs,rfl,⟨an,cn,rs,rfl,hrn,hrl,hcn,hrs⟩,⟨al,cl,rfl,hrl',hcl⟩,⟨ay,cs,rfl,hrs',hcs⟩⟩:=hv
  obtain⟨hm1,hm2,hm3,hm4,hm5⟩:=hsm
  obtain⟨C,hC⟩: ∃C,C=zd d (.slice an d.next.length cn) (.slice al d.label.length cl) (.slice ay d.names.length cs):=⟨_,rfl⟩
  have hCl:C.length=260:=by rw[hC];exact zat hof _ _ _
  have hCw:C[256]? =some (.int .i64 d.width):=by rw[hC];exact zkj hof _ _ _
  have hCn:C[257]? =some (.slice an d.next.length cn):=by rw[hC];exact zeb hof _ _ _
  have hCx:C[258]? =some (.slice al d.label.length cl):=by rw[hC];exact zdy hof _ _ _
  have hCs:C[259]? =some (.slice ay d.names.length cs):=by rw[hC];exact zof hof _ _ _
  rw[←hC]
  refine FnT.body tok [0,1,2,3,4,5,7,12,13,14,15,42,43,44,45,46,55] Tryz.func28 rfl Kk Kk (by show _≤58;simp) fun hsep=>?_
  rw[Tryz.results28]
  have hE:=hsep
  try simp only[zzs] at hE
  repeat(obtain⟨hx',hE⟩:=hE)
  repeat' first
    |with_reducible first|refine Nx.go ?_ |refine Bk.go (fun _=>?_) fun _=>?_ |refine Nb fun nb hnb hnb1 hnb2=>?_
    |simp -dsimp -implicitDefEqProofs (disch:=first|exact Kd|fail) only[go_sem,↓reduceIte,seval, -List.reduceReplicate,List.toList_toArray,hCl,hCw,hCn,hCx,hCs]
  refine Tri.loopU tok [0,1,2,3,4,5,7,12,13,14,15,42,43,44,45,46,55] Kk [1,2,3,12,13,14] (fun q G' fr H'=> ∃s:Nat,s+q=d.next.length∧(∀j,j<s→zr0 d j)∧G'=G∧H'=(nb, .cells C [] 27)::H∧fr=[(1, .pointer (some ⟨nb,0,none⟩)),(2, .bool false),(3, .int .i64 d.label.length),(12, .slice an d.next.length cn),(13, .int .i64 d.next.length),(14, .int .i64 s)]) (d.next.length) ?_ ?_
  · exact Upd.now ⟨0,by omega,fun j h=>by omega,rfl,rfl,rfl⟩
  · rintro q G1 fr H' hle hs ⟨s,hi,hno,rfl,rfl,rfl⟩
    have hE:=hs
    try simp only[zzs] at hE
    repeat(obtain⟨hx',hE⟩:=hE)
    by_cases hsl:s<d.next.length
    · have hsv:s<rs.length:=by omega
      have hsL:s<d.label.length:=by omega
      obtain⟨b,c,e1,e2,e3⟩:=hrs s hsl hsv
      have hrm:=hm2 _ (List.getElem_mem hsl)
      have had:Adr an:=hrn.adr Ko
      have had2:Adr al:=hrl'.adr (by rw[List.length_map];omega)
      repeat' first
        |with_reducible first|refine Nx.go ?_ |refine Bk.go (fun _=>?_) fun _=>?_ |refine Nb fun nb hnb hnb1 hnb2=>?_
        |with_reducible refine Tri.drawM tok mixed [0,1,2,3,4,5,7,12,13,14,15,42,43,44,45,46,55] 5 [3,7,10,15,18,20] (.op 0 .plain (.op 1 .plain (.op 2 .plain (.op 3 .held (.op 4 .plain (.op 5 .plain (.op 6 .plain (.op 7 .held (.op 8 .plain (.op 9 .plain (.op 10 .held (.op 11 .plain (.op 12 .plain (.op 13 .plain (.op 14 .plain (.op 15 .held (.op 16 .plain (.op 17 .plain (.op 18 .held (.op 19 .plain (.op 20 .held (.op 21 .plain (.op 22 .plain (.op 23 .plain .nil)))))))))))))))))))))))) Kk _ (List.Sublist.refl _) ?_
        |simp -dsimp -implicitDefEqProofs (disch:=first|exact Kd|fail) only[go_sem,↓reduceIte,seval, -List.reduceReplicate,List.toList_toArray,hCl,hCw,hCn,hCx,hCs,Row.obj hrn,e1,Row.obj hrl',List.getElem_map]
      all_goals try(
        rw[zA (p:=ziO d) fun h=>by
          obtain⟨r1,r2,r3,r4⟩:=h s hsl hsL
          omega] at hR
        exact Upd.finL Ks hR rfl)
      obtain⟨row,hrow⟩: ∃row,row=d.next[s]:=⟨_,rfl⟩
      have hrw:(row.length:Int)=d.width∧0≤d.label[s]∧d.label[s]≤d.names.length:=by rw[hrow];omega
      rw[←hrow] at e2 e3 hrm⊢
      refine Tri.loopU tok [0,1,2,3,4,5,7,12,13,14,15,42,43,44,45,46,55] Kk [1,2,3,12,13,14,43,44,45] (fun q2 G' fr H'=> ∃k:Nat,k+q2=row.length∧(∀j (h:j<row.length),j<k→0≤row[j]∧row[j] <d.label.length)∧G'=G1∧H'=(nb, .cells C [] 27)::H∧fr=[(1, .pointer (some ⟨nb,0,none⟩)),(2, .bool false),(3, .int .i64 d.label.length),(12, .slice an d.next.length cn),(13, .int .i64 d.next.length),(14, .int .i64 s),(43, .slice b row.length c),(44, .int .i64 row.length),(45, .int .i64 k)]) (row.length) ?_ ?_
      · exact Upd.now ⟨0,by omega,fun j _ h=>by omega,rfl,rfl,rfl⟩
      · rintro q2 G2 fr H' hle2 hs2 ⟨k,hk,hno2,rfl,rfl,rfl⟩
        by_cases hkl:k<row.length
        · have had3:Adr b:=e2.adr (by rw[List.length_map];omega)
          repeat' first
            |with_reducible first|refine Nx.go ?_ |refine Bk.go (fun _=>?_) fun _=>?_ |refine Nb fun nb hnb hnb1 hnb2=>?_
            |simp -dsimp -implicitDefEqProofs (disch:=first|exact Kd|fail) only[go_sem,↓reduceIte,seval, -List.reduceReplicate,Row.obj e2,List.getElem_map]
          all_goals first
            | (rw [zA (p := ziO d) fun h => by
                obtain⟨r1,r2,r3,r4⟩:=h s hsl hsL
                have:=r4 row[k] (by rw[←hrow];exact List.getElem_mem hkl)
                omega] at hR
               exact Upd.finL Ks hR rfl)
            | exact Upd.now ⟨q2 - 1, by omega, k + 1, by omega, fun j h hj => by
                by_cases e:j=k
                · subst e;omega
                · exact hno2 j h Ko,rfl,rfl,rfl⟩
        · obtain rfl:k=row.length:=by omega
          repeat' first
            |with_reducible first|refine Nx.go ?_ |refine Bk.go (fun _=>?_) fun _=>?_ |refine Nb fun nb hnb hnb1 hnb2=>?_
            |simp -dsimp -implicitDefEqProofs (disch:=first|exact Kd|fail) only[go_sem,↓reduceIte,seval, -List.reduceReplicate]
          exact Upd.now ⟨q - 1,by omega,s+1,by omega,fun j hj=>by
            by_cases e:j=s
            · subst e
              exact fun h1 h2=>⟨by rw[←hrow];omega,by omega,by omega,fun t ht=>by
                rw[←hrow] at ht
                obtain⟨j,hj,rfl⟩:=List.getElem_of_mem ht
                exact hno2 j hj hj⟩
            · exact hno j Ko,rfl,rfl,rfl⟩
    · obtain rfl:s=d.next.length:=by omega
      rw[zK (p:=ziO d) fun s=>by
        rcases Nat.lt_or_ge s d.next.length with h|h
        · exact hno s h
        · exact fun h2=>by omega] at hR
      repeat' first
        |with_reducible first|refine Nx.go ?_ |refine Bk.go (fun _=>?_) fun _=>?_ |refine Nb fun nb hnb hnb1 hnb2=>?_
        |simp -dsimp -implicitDefEqProofs (disch:=first|exact Kd|fail) only[go_sem,↓reduceIte,seval, -List.reduceReplicate]
      all_goals refine Upd.finL ?_ hR ?_
      any_goals first|exact Ks|skip
      rfl
end Go.Proofs.YtomdbjfdbkejoaaGreatDoor
namespace Go.Proofs.YtomdbjfdbkejoaaGreatDoor
open Go Go.V Go.Proofs
def zc (d:DfaT):Prop:=1≤d.label.length∧d.label.length≤65536∧d.next.length=d.label.length∧zg d.of=d.of∧((zk d.of).length:Int)=d.width∧zbm d.names∧ziO d
structure OpenD (G:za) (d:DfaT) (C:List Value) (an al ay:Option Addr) (cn cl cs:Nat) (rs:List Value):Prop where
 len:C.length=260
 w:C[256]? =some (.int .i64 d.width)
 n:C[257]? =some (.slice an d.next.length cn)
 l:C[258]? =some (.slice al d.label.length cl)
 s:C[259]? =some (.slice ay d.names.length cs)
 of:C.take 256=u8L d.of
 all:C.take 260=C
 is:IsD G d (.agg C.toArray)
 ofl:d.of.length=256
 ofb: ∀x∈d.of,0≤x∧x≤255
 rn:Row G an rs
 rnl:rs.length=d.next.length
 rnc:d.next.length≤cn
 rs: ∀i (h:i<d.next.length) (h2:i<rs.length),∃b c,rs[i]= .slice b d.next[i].length c∧Row G b (d.next[i].map (Value.int .i64))∧d.next[i].length≤c
 rl:Row G al (d.label.map (Value.int .i64))
 rlc:d.label.length≤cl
 ry:Row G ay (d.names.map str)
 ryc:d.names.length≤cs
theorem IsD.opened {G:za} {d:DfaT} {v:Value} (h:IsD G d v): ∃C an al ay cn cl cs rs,v= .agg (List.toArray C)∧OpenD G d C an al ay cn cl cs rs:=by
 have h0:=h
 obtain⟨hof,hofb,vn,vl,vs,rfl,⟨an,cn,rs,rfl,hrn,hrl,hcn,hrs⟩,⟨al,cl,rfl,hrl',hcl⟩,⟨ay,cs,rfl,hrs',hcs⟩⟩:=h
 exact⟨_,an,al,ay,cn,cl,cs,rs,rfl,zat hof _ _ _,zkj hof _ _ _,zeb hof _ _ _,zdy hof _ _ _,zof hof _ _ _,ztz hof _ _ _,zdM hof _ _ _,h0,hof,hofb,hrn,hrl,hcn,hrs,hrl',hcl,hrs',hcs⟩
theorem OpenD.mono {G G':za} (hle:PLe G G') {d:DfaT} {C:List Value} {an al ay:Option Addr} {cn cl cs:Nat} {rs:List Value} (h:OpenD G d C an al ay cn cl cs rs):OpenD G' d C an al ay cn cl cs rs:=
 ⟨h.len,h.w,h.n,h.l,h.s,h.of,h.all,h.is.mono hle,h.ofl,h.ofb,h.rn.mono hle,h.rnl,h.rnc,fun i h1 h2=>by
  obtain⟨b,c,e1,e2,e3⟩:=h.rs i h1 h2
  exact⟨b,c,e1,e2.mono hle,e3⟩,h.rl.mono hle,h.rlc,h.ry.mono hle,h.ryc⟩
theorem OpenD.label {G:za} {d:DfaT} {C:List Value} {an al ay:Option Addr} {cn cl cs:Nat} {rs:List Value} (h:OpenD G d C an al ay cn cl cs rs):Sl G (Value.int .i64) (.slice al d.label.length cl) d.label:=⟨al,cl,rfl,h.rl,h.rlc⟩
theorem OpenD.names {G:za} {d:DfaT} {C:List Value} {an al ay:Option Addr} {cn cl cs:Nat} {rs:List Value} (h:OpenD G d C an al ay cn cl cs rs):Sl G str (.slice ay d.names.length cs) d.names:=⟨ay,cs,rfl,h.ry,h.ryc⟩
theorem OpenD.get {G:za} {d:DfaT} {C:List Value} {an al ay:Option Addr} {cn cl cs:Nat} {rs:List Value} (h:OpenD G d C an al ay cn cl cs rs) (i:Nat):C[i]? =C[i]? :=rfl
theorem zaE {d:DfaT} (hsm:zx d) {G:za} {H:zb} {R:Value→za→zb→Prop} {v:Value} (hv:IsD G d v) (hR:R (.bool (zaF (zc d))) G H):FnT Tryz.prog 15 [v] G H R:=by
 obtain⟨C,an,al,ay,cn,cl,cs,rs,rfl,O⟩:=hv.opened
 obtain⟨hm1,hm2,hm3,hm4,hm5⟩:=id hsm
 have hCl:=O.len
 have hCw:=O.w
 have hCn:=O.n
 have hCx:=O.l
 have hCs:=O.s
 have hCo:=O.of
 have hCa:=O.all
 by_cases h1:1≤d.label.length∧d.label.length≤65536∧d.next.length=d.label.length
 ·obtain⟨h1a,h1b,h1c⟩:=h1
  refine FnT.body tok [0,1,2,3] Tryz.func15 rfl Kk Kk (by show _≤36;simp) fun hsep=>?_
  rw[Tryz.results15]
  have hE:=hsep
  try simp only[zzs] at hE
  repeat(obtain⟨hx',hE⟩:=hE)
  repeat' first
   |with_reducible first|refine Nx.go ?_ |refine Bk.go (fun _=>?_) fun _=>?_ |refine Nb fun nb hnb hnb1 hnb2=>?_
   |simp -dsimp -implicitDefEqProofs (disch:=first|exact Kd|fail) only[go_sem,↓reduceIte,seval, -List.reduceReplicate,List.toList_toArray,hCl,hCw,hCn,hCx,hCs,hCo,hCa]
   |with_reducible refine zvK O.ofl d.width ?_
   |with_reducible refine zxM d.names hm4 hm5 O.names ?_
   |with_reducible refine zyT hsm h1c O.is ?_
  ·rename_i hp hq
   refine Upd.finL Ks hR ?_
   rw[Bool.and_eq_true,decide_eq_true_eq,decide_eq_true_eq] at hp
   simp only[Value.bool.injEq]
   rw[Bool.eq_iff_iff,zcp,zcp]
   exact⟨fun h=>⟨h1a,h1b,h1c,hp.1,hp.2,zcp.1 hq,h⟩,fun h=>h.2.2.2.2.2.2⟩
  ·rename_i hp hq
   rw[zA fun h=>by rw[zK h.2.2.2.2.2.1] at hq;cases hq] at hR
   all_goals refine Upd.finL ?_ hR ?_
   any_goals first|exact Ks|skip
   rfl
  ·rename_i hp
   rw[zA fun h=>by rw[decide_eq_true h.2.2.2.1,decide_eq_true h.2.2.2.2.1] at hp;cases hp] at hR
   all_goals refine Upd.finL ?_ hR ?_
   any_goals first|exact Ks|skip
   rfl
 ·rw[zA fun h=>h1 ⟨h.1,h.2.1,h.2.2.1⟩] at hR
  refine FnT.body tok [0,1,2,3] Tryz.func15 rfl Kk Kk (by show _≤36;simp) fun hsep=>?_
  rw[Tryz.results15]
  have hE:=hsep
  try simp only[zzs] at hE
  repeat(obtain⟨hx',hE⟩:=hE)
  repeat' first
   |with_reducible first|refine Nx.go ?_ |refine Bk.go (fun _=>?_) fun _=>?_ |refine Nb fun nb hnb hnb1 hnb2=>?_
   |simp -dsimp -implicitDefEqProofs (disch:=first|exact Kd|fail) only[go_sem,↓reduceIte,seval, -List.reduceReplicate,List.toList_toArray,hCl,hCw,hCn,hCx,hCs,hCo,hCa]
  all_goals try(exfalso;omega)
  all_goals refine Upd.finL ?_ hR ?_
  any_goals first|exact Ks|skip
  all_goals rfl
end Go.Proofs.YtomdbjfdbkejoaaGreatDoor
namespace Go.Proofs.YtomdbjfdbkejoaaGreatDoor
open Go Go.V Go.Proofs
def zlg (h:Nat) (c:UInt8):Nat:=(h ^^^ c.toNat) * 16777619 % 4294967296
def zcR (b:List UInt8):Nat:=b.foldl zlg 2166136261
theorem zmE (b:List UInt8) {i:Nat} (h:i<b.length):zcR (b.take (i+1))=zlg (zcR (b.take i)) b[i]:=by
 unfold zcR;rw[List.take_succ_eq_append_getElem h,List.foldl_append,List.foldl_cons,List.foldl_nil]
theorem zvN (h:Nat) (c:UInt8):zlg h c<4294967296:=Nat.mod_lt _ (by decide)
theorem zhl (b:List UInt8):zcR b<4294967296:=by
 refine zgI (P:=fun b=>zcR b<4294967296) ?_ (fun l k _=>?_) b
 ·simp only[zcR,List.foldl_nil];omega
 ·unfold zcR;rw[List.foldl_append,List.foldl_cons,List.foldl_nil];exact zvN _ _
theorem zlh {h:Nat} (hh:h<4294967296) (c:UInt8):IntKind.u32.wrap (zaB .xor .u32 (h:Nat) (IntKind.u32.wrap (c.toNat:Nat)) * 16777619)=(zlg h c:Nat):=by
 have hc:=c.toNat_lt
 have e1:IntKind.u32.wrap ((c.toNat:Nat):Int)=(c.toNat:Nat):=zgb (k:= .u32) rfl (by show _<4294967296;omega)
 rw[e1,zn1 (k:= .u32) rfl Ko (by show _< (4294967296 :Int);omega) Ko (by show _< (4294967296 :Int);omega),Int.toNat_natCast,Int.toNat_natCast]
 unfold zlg
 generalize h ^^^ c.toNat=x
 simp only[IntKind.wrap,IntKind.signed,Bool.false_and,Bool.false_eq_true,if_false,IntKind.bits]
 omega
theorem zxO (n:Nat):Value.int .u8 (IntKind.u8.wrap (n:Int))=zB (UInt8.ofNat n):=by
 unfold zB
 rw[UInt8.toNat_ofNat']
 simp only[IntKind.wrap,IntKind.bits,IntKind.signed]
 simp
def beB (many n:Nat):List UInt8:=(List.range many).map fun i=>UInt8.ofNat (n / 2 ^ (8 * (many - 1 - i)))
theorem zaZ (many n:Nat):(beB many n).length=many:=by simp [beB]
def Buf (v:Value) (kb:zb) (l:List UInt8):Prop:=zS [] 5 1 v l.length (l.map zB) kb
theorem ztB {b:List UInt8} (hbl:b.length≤200000000) {G:za} {H:zb} {R:Value→za→zb→Prop} {v:Value} (hv:Sl G zB v b) (hR:R (.int .u32 (zcR b:Nat)) G H):FnT Tryz.prog 7 [v] G H R:=by
 obtain⟨a,cap,rfl,hrow,hcap⟩:=hv
 refine FnT.body tok [0,2,3,5,6,7,8,9] Tryz.func7 rfl Kk Kk (by show _≤20;simp) fun hsep=>?_
 rw[Tryz.results7]
 have hE:=hsep
 try simp only[zzs] at hE
 repeat(obtain⟨hx',hE⟩:=hE)
 repeat' first
  |with_reducible first|refine Nx.go ?_ |refine Bk.go (fun _=>?_) fun _=>?_ |refine Nb fun nb hnb hnb1 hnb2=>?_ |refine Nr fun nb nsp ncap hnb hncap hnb1 hnb2=>?_
  |simp -dsimp -implicitDefEqProofs (disch:=first|exact Kd|fail) only[go_sem,↓reduceIte,seval]
 refine Tri.loopU tok [0,2,3,5,6,7,8,9] Kk [0,2,3,6,7,8] (fun q G' fr H'=> ∃i:Nat,i+q=b.length∧G'=G∧H'=H∧fr=[(0, .slice a b.length cap),(2, .int .u32 0),(3, .int .u32 (zcR (b.take i):Nat)),(6, .slice a b.length cap),(7, .int .i64 b.length),(8, .int .i64 (i:Nat))]) (b.length) (Upd.now ?_) ?_
 ·exact⟨0,by omega,rfl,rfl,rfl⟩
 ·rintro q G1 fr H' hle hs1 ⟨i,hiq,rfl,rfl,rfl⟩
  by_cases hil:i<b.length
  ·have had:Adr a:=hrow.adr (by rw[List.length_map];omega)
   have hst:=zmE b hil
   have hlt:=zhl (b.take i)
   repeat' first
    |with_reducible first|refine Nx.go ?_ |refine Bk.go (fun _=>?_) fun _=>?_ |refine Nb fun nb hnb hnb1 hnb2=>?_ |refine Nr fun nb nsp ncap hnb hncap hnb1 hnb2=>?_
    |simp -dsimp -implicitDefEqProofs (disch:=first|exact Kd|fail) only[go_sem,↓reduceIte,seval,Row.obj hrow,List.getElem_map,zB,zlh hlt]
   exact Upd.now ⟨q - 1,by omega,i+1,by omega,rfl,rfl,by rw[hst];rfl⟩
  ·obtain rfl:i=b.length:=by omega
   rw[List.take_length]
   repeat' first
    |with_reducible first|refine Nx.go ?_ |refine Bk.go (fun _=>?_) fun _=>?_ |refine Nb fun nb hnb hnb1 hnb2=>?_ |refine Nr fun nb nsp ncap hnb hncap hnb1 hnb2=>?_
    |simp -dsimp -implicitDefEqProofs (disch:=first|exact Kd|fail) only[go_sem,↓reduceIte,seval]
   all_goals refine Upd.finL ?_ hR ?_
   any_goals first|exact Ks|skip
   all_goals rfl
end Go.Proofs.YtomdbjfdbkejoaaGreatDoor
namespace Go.Proofs.YtomdbjfdbkejoaaGreatDoor
open Go Go.V Go.Proofs
theorem zxP {many n i:Nat} (h:i<many):(beB many n)[i]'(by rw[zaZ];exact h)=UInt8.ofNat (n / 2 ^ (8 * (many - 1 - i))):=by simp [beB]
theorem zxQ (n:Nat):beB 1 n=[UInt8.ofNat n]:=by simp [beB,List.range_succ]
theorem zxR (n:Nat):beB 2 n=[UInt8.ofNat (n / 256),UInt8.ofNat n]:=by simp [beB,List.range_succ]
theorem zvO (n:Nat):beB 4 n=[UInt8.ofNat (n / 16777216),UInt8.ofNat (n / 65536),UInt8.ofNat (n / 256),UInt8.ofNat n]:=by simp [beB,List.range_succ]
theorem zfa {l:List UInt8} (hl:l.length≤200000000) {n many:Nat} (hn:n<4294967296) (hm:many≤4) {v:Value} {kb:zb} (hb:Buf v kb l) {G:za} {H:zb} {R:Value→za→zb→Prop} (hR: ∀v' kb',Buf v' kb' (l++beB many n)→Sep G (zm (kb'++H))→R v' G (kb'++H)):FnT Tryz.prog 29 [v, .int .i64 (n:Nat), .int .i64 (many:Nat)] G (kb++H) R:=by
 have hbl:=zaZ many n
 have hr1: ∀x:Value,List.replicate 1 x=[x]:=fun _=>rfl
 refine FnT.sep ?_
 refine FnT.body tok [0,1,2,6,7,8,9,10] Tryz.func29 rfl Kk Kk (by show _≤25;simp) fun hsep=>?_
 rw[Tryz.results29]
 have hE:=hsep
 try simp only[zzs] at hE
 repeat(obtain⟨hx',hE⟩:=hE)
 repeat' first
  |with_reducible first|refine Nx.go ?_ |refine Bk.go (fun _=>?_) fun _=>?_ |refine Nb fun nb hnb hnb1 hnb2=>?_ |refine Nr fun nb nsp ncap hnb hncap hnb1 hnb2=>?_
  |simp -dsimp -implicitDefEqProofs (disch:=first|exact Kd|fail) only[go_sem,↓reduceIte,seval]
 refine Tri.loopU tok [0,1,2,6,7,8,9,10] Kk [0,1,2,6,8,9] (fun q G' fr H'=> ∃ (i:Nat) (v:Value) (kb:zb),i+q=many∧G'=G∧Buf v kb (l++(beB many n).take i)∧H'=kb++H∧fr=[(0,v),(1, .int .i64 (n:Nat)),(2, .int .i64 (many:Nat)),(6, .slice none 0 0),(8, .int .i64 (many:Nat)),(9, .int .i64 (i:Nat))]) (many) ?_ ?_
 ·exact Upd.now ⟨0,v,kb,by omega,rfl,by rw[List.take_zero,List.append_nil];exact hb,rfl,rfl⟩
 ·rintro q G1 fr H' hle hs1 ⟨i,v1,kb1,hiq,rfl,hb1,rfl,rfl⟩
  by_cases him:i<many
  ·obtain⟨j,hj⟩: ∃j,many=i+1+j:=⟨many - (i+1),by omega⟩
   have hsub:((many:Nat):Int) - 1 - (i:Nat)=(j:Nat):=by omega
   have hget:=zxP (n:=n) him
   have htk:(beB many n).take (i+1)=(beB many n).take i++[(beB many n)[i]'Ko]:=List.take_succ_eq_append_getElem Ko
   rw[hget,show many - 1 - i=j by omega] at htk
   obtain⟨p,hp⟩: ∃p,p=l++(beB many n).take i:=⟨_,rfl⟩
   have hpl:p.length=l.length+i:=by rw[hp,List.length_append,List.length_take];omega
   have hnx:l++(beB many n).take (i+1)=p++[UInt8.ofNat (n / 2 ^ (8 * j))]:=by rw[htk,hp,List.append_assoc]
   rw[←hp] at hb1
   obtain⟨z,hz⟩: ∃z,IntKind.u8.wrap ((n:Int) / 2 ^ (8 * (j:Int)).toNat)=z:=⟨_,rfl⟩
   have hzb:Value.int .u8 z=zB (UInt8.ofNat (n / 2 ^ (8 * j))):=by
    rw[←zxO,←hz,show(8 * (j:Int)).toNat=8 * j by omega]
    congr 2
    try simp
   rcases hb1 with ⟨a,rfl,hn0,hx,rfl⟩| ⟨b,cap,sp,rfl,rfl,hx,hc⟩
   ·have h0:p=[]:=List.eq_nil_of_length_eq_zero hn0
    rw[h0,List.nil_append] at hnx
    repeat' first
     |with_reducible first|refine Nx.go ?_ |refine Bk.go (fun _=>?_) fun _=>?_ |refine Nb fun nb hnb hnb1 hnb2=>?_ |refine Nr fun nb nsp ncap hnb hncap hnb1 hnb2=>?_
     |simp -dsimp -implicitDefEqProofs (disch:=first|exact Kd|fail) only[go_sem,↓reduceIte,seval, -List.reduceReplicate,hsub,hr1,hz]
    refine Upd.go (H':=[(nb, .cells [Value.int .u8 z] nsp 5)]++H) Ks (Upd.now ⟨q - 1,by omega,i+1,_,_,by omega,rfl,?_,rfl,rfl⟩)
    rw[hnx]
    exact .inr ⟨nb,ncap,nsp,rfl,by rw[hzb];rfl,rfl,by simp at hncap⊢;omega⟩
   ·rw[List.length_map] at hx hc
    repeat' first
     |with_reducible first|refine Nx.go ?_ |refine Bk.go (fun _=>?_) fun _=>?_ |refine Nb fun nb hnb hnb1 hnb2=>?_ |refine Nr fun nb nsp ncap hnb hncap hnb1 hnb2=>?_
     |simp -dsimp -implicitDefEqProofs (disch:=first|exact Kd|fail) only[go_sem,↓reduceIte,seval, -List.reduceReplicate,hsub,hr1,hz]
    refine Upd.go (H':=[(nb, .cells (p.map zB++[Value.int .u8 z]) nsp 5)]++H) Ks (Upd.now ⟨q - 1,by omega,i+1,_,_,by omega,rfl,?_,rfl,rfl⟩)
    rw[hnx]
    exact .inr ⟨nb,ncap,nsp,by rw[List.length_append];rfl,by rw[List.map_append,hzb];rfl,by simp,by simp at hncap⊢;omega⟩
  ·obtain rfl:i=many:=by omega
   have hall:(beB i n).take i=beB i n:=List.take_of_length_le Ko
   rw[hall] at hb1
   repeat' first
    |with_reducible first|refine Nx.go ?_ |refine Bk.go (fun _=>?_) fun _=>?_ |refine Nb fun nb hnb hnb1 hnb2=>?_ |refine Nr fun nb nsp ncap hnb hncap hnb1 hnb2=>?_
    |simp -dsimp -implicitDefEqProofs (disch:=first|exact Kd|fail) only[go_sem,↓reduceIte,seval]
   unfold zv
   refine Upd.now ?_
   exact fun _ hs=>hR _ _ hb1 hs
end Go.Proofs.YtomdbjfdbkejoaaGreatDoor
namespace Go.Proofs.YtomdbjfdbkejoaaGreatDoor
open Go Go.V Go.Proofs
abbrev Rdr:=Bool×List UInt8
def za4 (n:Nat) (s:Rdr):List UInt8×Rdr:=if s.1=true∨s.2.length<n then(List.replicate n 0,(true,s.2)) else(s.2.take n,(s.1,s.2.drop n))
theorem ziP (n:Nat) (s:Rdr):(za4 n s).1.length=n:=by
 unfold za4
 split
 ·exact List.length_replicate
 ·rename_i h
  show(s.2.take n).length=n
  rw[List.length_take];omega
theorem zoh (n:Nat) (s:Rdr):(za4 n s).2.2.length≤s.2.length:=by
 unfold za4
 split
 ·exact Nat.le_refl _
 ·show(s.2.drop n).length≤_
  rw[List.length_drop];omega
def beV (l:List UInt8):Nat:=l.foldl (fun n c=>n * 256+c.toNat) 0
theorem zoi (l:List UInt8) (c:UInt8):beV (l++[c])=beV l * 256+c.toNat:=by unfold beV;rw[List.foldl_append,List.foldl_cons,List.foldl_nil]
theorem ztC (l:List UInt8):beV l<256 ^ l.length:=by
 refine zgI (P:=fun l=>beV l<256 ^ l.length) (by simp [beV]) (fun l c ih=>?_) l
 rw[zoi,List.length_append,List.length_singleton,Nat.pow_succ]
 have:=c.toNat_lt
 omega
def zE (many:Nat) (s:Rdr):Nat×Rdr:=(beV (za4 many s).1,(za4 many s).2)
theorem zqv (many:Nat) (s:Rdr):(zE many s).1<256 ^ many:=by
 have:=ztC (za4 many s).1
 rwa [ziP] at this
theorem zcj (many:Nat) (s:Rdr):(zE many s).2.2.length≤s.2.length:=zoh many s
theorem zvP {n c:Nat} (hn:n<1099511627776) (hc:c<256):zaB .or .i64 ((n:Int) * 256) (c:Nat)=((n * 256+c:Nat):Int):=by
 have e:((n:Int) * 256)=((n * 256 :Nat):Int):=by omega
 rw[e]
 simp only[zaB,BitVec.ofInt_natCast]
 have h1:(BitVec.ofNat IntKind.i64.bits (n * 256)|||BitVec.ofNat IntKind.i64.bits c).toNat=n * 256+c:=by
  show(BitVec.ofNat 64 (n * 256)|||BitVec.ofNat 64 c).toNat=n * 256+c
  rw[BitVec.toNat_or,BitVec.toNat_ofNat,BitVec.toNat_ofNat,Nat.mod_eq_of_lt Ko,Nat.mod_eq_of_lt Ko]
  have:=Nat.two_pow_add_eq_or_of_lt (i:=8) (b:=c) Ko n
  rw[show n * 256=2 ^ 8 * n by omega]
  exact this.symm
 have h2:IntKind.i64.wrap ((n * 256+c:Nat):Int)=((n * 256+c:Nat):Int):=wrap_i64 Ko Ko
 exact(congrArg (fun x:Nat=>IntKind.i64.wrap (x:Int)) h1).trans h2
theorem zl7 {s:Rdr} (hsl:s.2.length≤200000000) {n:Nat} (hn:n≤65536) {bR:Nat} {sv:Value} {G:za} {H:zb} {R:Value→za→zb→Prop} (hs:Sl G zB sv s.2)
  (hR: ∀G' v sv',PLe G G'→Sep G' (zm ((bR,Res.cells [sv', .bool (za4 n s).2.1] [] 58)::H))→Sl G' zB v (za4 n s).1→Sl G' zB sv' (za4 n s).2.2→R v G' ((bR, .cells [sv', .bool (za4 n s).2.1] [] 58)::H)):
  FnT Tryz.prog 58 [.pointer (some ⟨bR,0,none⟩), .int .i64 (n:Nat)] G ((bR, .cells [sv, .bool s.1] [] 58)::H) R:=by
 obtain⟨a,c,rfl,hr,hc⟩:=hs
 obtain⟨bad,l⟩:=s
 simp only at hsl hr hc hR⊢
 refine FnT.sep ?_
 by_cases h:bad=true∨l.length<n
 ·have e:za4 n (bad,l)=(List.replicate n 0,(true,l)):=by unfold za4;rw[if_pos h]
  rw[e] at hR
  rcases h with h|h
  ·subst h
   refine FnT.body tok [0,1,4,5,18] Tryz.func58 rfl Kk Kk (by show _≤41;simp) fun hsep=>?_
   rw[Tryz.results58]
   have hE:=hsep
   try simp only[zzs] at hE
   repeat(obtain⟨hx',hE⟩:=hE)
   repeat' first
    |with_reducible first|refine Nx.go ?_ |refine Bk.go (fun _=>?_) fun _=>?_ |refine Nb fun nb hnb hnb1 hnb2=>?_ |refine Nr fun nb nsp ncap hnb hncap hnb1 hnb2=>?_
    |simp -dsimp -implicitDefEqProofs (disch:=first|exact Kd|fail) only[go_sem,↓reduceIte,seval]
   unfold zv
   refine Upd.go (H':=(nb, .cells (List.replicate n (Value.int .u8 0)) (List.replicate (n - n) (Value.int .u8 0)) 5):: (bR, .cells [.slice a l.length c, .bool true] [] 58)::H) Ks (Upd.shareRow Ka fun G2 hle2 hs2 hr2=>?_)
   exact fun hle hs=>hR G2 _ _ hle2 hs ⟨some ⟨nb,0,none⟩,n,by rw[List.length_replicate],by rw[List.map_replicate];exact hr2,by rw[List.length_replicate];exact Nat.le_refl _⟩ ⟨a,c,rfl,hr.mono hle2,hc⟩
  ·refine FnT.body tok [0,1,4,5,18] Tryz.func58 rfl Kk Kk (by show _≤41;simp) fun hsep=>?_
   rw[Tryz.results58]
   have hE:=hsep
   try simp only[zzs] at hE
   repeat(obtain⟨hx',hE⟩:=hE)
   repeat' first
    |with_reducible first|refine Nx.go ?_ |refine Bk.go (fun _=>?_) fun _=>?_ |refine Nb fun nb hnb hnb1 hnb2=>?_ |refine Nr fun nb nsp ncap hnb hncap hnb1 hnb2=>?_
    |simp -dsimp -implicitDefEqProofs (disch:=first|exact Kd|fail) only[go_sem,↓reduceIte,seval]
   all_goals try(exfalso;omega)
   all_goals
    unfold zv
    refine Upd.go (H':=(nb, .cells (List.replicate n (Value.int .u8 0)) (List.replicate (n - n) (Value.int .u8 0)) 5):: (bR, .cells [.slice a l.length c, .bool true] [] 58)::H) Ks (Upd.shareRow Ka fun G2 hle2 hs2 hr2=>?_)
    exact fun hle hs=>hR G2 _ _ hle2 hs ⟨some ⟨nb,0,none⟩,n,by rw[List.length_replicate],by rw[List.map_replicate];exact hr2,by rw[List.length_replicate];exact Nat.le_refl _⟩ ⟨a,c,rfl,hr.mono hle2,hc⟩
 ·have hb:bad=false:=by cases bad with|false=>rfl|true=>exact absurd (Or.inl rfl) h
  subst hb
  have hnl:n≤l.length:=by omega
  have e:za4 n (false,l)=(l.take n,(false,l.drop n)):=by unfold za4;rw[if_neg h]
  rw[e] at hR
  refine FnT.body tok [0,1,4,5,18] Tryz.func58 rfl Kk Kk (by show _≤41;simp) fun hsep=>?_
  rw[Tryz.results58]
  have hE:=hsep
  try simp only[zzs] at hE
  repeat(obtain⟨hx',hE⟩:=hE)
  repeat' first
   |with_reducible first|refine Nx.go ?_ |refine Bk.go (fun _=>?_) fun _=>?_ |refine Nb fun nb hnb hnb1 hnb2=>?_ |refine Nr fun nb nsp ncap hnb hncap hnb1 hnb2=>?_
   |simp -dsimp -implicitDefEqProofs (disch:=first|exact Kd|fail) only[go_sem,↓reduceIte,seval]
  all_goals try(exfalso;omega)
  refine⟨rfl,?_⟩
  unfold zv
  refine Upd.now ?_
  have h1:Row G (zbH a 0 n 0) ((l.take n).map zB):=by
   have:=(hr.take n).drop (l:=0) (m:=n) (s:=1) (fun e=>by subst e;simp)
   rw[Nat.zero_mul,List.drop_zero,←List.map_take] at this
   exact this
  have h2:Row G (zbH a n c n) ((l.drop n).map zB):=by
   have:=hr.drop (l:=n) (m:=c) (s:=1) (fun e=>by rw[List.length_map];omega)
   rw[Nat.mul_one,←List.map_drop] at this
   exact this
  exact fun hle hs=>hR G _ _ (PLe.refl _) hs ⟨_,n - 0,by rw[List.length_take,Nat.min_eq_left hnl,Nat.sub_zero],h1,by rw[List.length_take];omega⟩ ⟨_,c - n,by rw[List.length_drop],h2,by rw[List.length_drop];omega⟩
theorem zcb {s:Rdr} (hsl:s.2.length≤200000000) {n:Nat} (hn:n≤4) {bR:Nat} {sv:Value} {G:za} {H:zb} {R:Value→za→zb→Prop} (hs:Sl G zB sv s.2)
  (hR: ∀G' sv',PLe G G'→Sep G' (zm ((bR,Res.cells [sv', .bool (zE n s).2.1] [] 58)::H))→Sl G' zB sv' (zE n s).2.2→R (.int .i64 ((zE n s).1 :Nat)) G' ((bR, .cells [sv', .bool (zE n s).2.1] [] 58)::H)):
  FnT Tryz.prog 33 [.pointer (some ⟨bR,0,none⟩), .int .i64 (n:Nat)] G ((bR, .cells [sv, .bool s.1] [] 58)::H) R:=by
 refine FnT.body tok [0,1,4,5,7,10,11,12,13] Tryz.func33 rfl Kk Kk (by show _≤23;simp) fun hsep=>?_
 rw[Tryz.results33]
 have hE:=hsep
 try simp only[zzs] at hE
 repeat(obtain⟨hx',hE⟩:=hE)
 repeat' first
  |with_reducible first|refine Nx.go ?_ |refine Bk.go (fun _=>?_) fun _=>?_ |refine Nb fun nb hnb hnb1 hnb2=>?_ |refine Nr fun nb nsp ncap hnb hncap hnb1 hnb2=>?_
  |simp -dsimp -implicitDefEqProofs (disch:=first|exact Kd|fail) only[go_sem,↓reduceIte,seval]
 refine zl7 hsl Ko hs fun G1 v1 sv1 hle1 hs1 hx hsv1=>?_
 obtain⟨x,hxd⟩: ∃x,x=(za4 n s).1:=⟨_,rfl⟩
 have hxl:x.length=n:=by rw[hxd];exact ziP n s
 rw[←hxd] at hx
 have hnum:(zE n s).1=beV x:=by rw[hxd];rfl
 obtain⟨a,c,rfl,hr,hc⟩:=hx
 have hE:=hs1
 try simp only[zzs] at hE
 repeat(obtain⟨hx',hE⟩:=hE)
 repeat' first
  |with_reducible first|refine Nx.go ?_ |refine Bk.go (fun _=>?_) fun _=>?_ |refine Nb fun nb hnb hnb1 hnb2=>?_ |refine Nr fun nb nsp ncap hnb hncap hnb1 hnb2=>?_
  |simp -dsimp -implicitDefEqProofs (disch:=first|exact Kd|fail) only[go_sem,↓reduceIte,seval]
 refine Tri.loopU tok [0,1,4,5,7,10,11,12,13] Kk [4,5,10,11,12] (fun q G' fr H'=> ∃i:Nat,i+q=x.length∧G'=G1∧H'=(bR, .cells [sv1, .bool (za4 n s).2.1] [] 58)::H∧fr=[(4, .int .i64 0),(5, .int .i64 (beV (x.take i):Nat)),(10, .slice a x.length c),(11, .int .i64 x.length),(12, .int .i64 (i:Nat))]) (x.length) (Upd.now ?_) ?_
 ·exact⟨0,by omega,rfl,rfl,by rw[List.take_zero];rfl⟩
 ·rintro q G2 fr H' hle2 hs2 ⟨i,hiq,rfl,rfl,rfl⟩
  have hE:=hs2
  try simp only[zzs] at hE
  repeat(obtain⟨hx',hE⟩:=hE)
  by_cases hil:i<x.length
  ·have had:Adr a:=hr.adr (by rw[List.length_map];omega)
   have hlt:=ztC (x.take i)
   have hlt2:256 ^ (x.take i).length≤256 ^ 3:=Nat.pow_le_pow_right (by decide) (by rw[List.length_take];omega)
   have hsn:beV (x.take (i+1))=beV (x.take i) * 256+x[i].toNat:=by rw[List.take_succ_eq_append_getElem hil,zoi]
   have hor:=zvP (n:=beV (x.take i)) (c:=x[i].toNat) Ko x[i].toNat_lt
   have hc8:=x[i].toNat_lt
   have hwr:IntKind.i64.wrap ((x[i].toNat:Nat):Int)=(x[i].toNat:Nat):=wrap_i64 Ko Ko
   repeat' first
    |with_reducible first|refine Nx.go ?_ |refine Bk.go (fun _=>?_) fun _=>?_ |refine Nb fun nb hnb hnb1 hnb2=>?_ |refine Nr fun nb nsp ncap hnb hncap hnb1 hnb2=>?_
    |simp -dsimp -implicitDefEqProofs (disch:=first|exact Kd|fail) only[go_sem,↓reduceIte,seval,Row.obj hr,List.getElem_map,zB,hwr,hor]
   exact Upd.now ⟨q - 1,by omega,i+1,by omega,rfl,rfl,by rw[hsn];rfl⟩
  ·obtain rfl:i=x.length:=by omega
   rw[List.take_length,←hnum]
   repeat' first
    |with_reducible first|refine Nx.go ?_ |refine Bk.go (fun _=>?_) fun _=>?_ |refine Nb fun nb hnb hnb1 hnb2=>?_ |refine Nr fun nb nsp ncap hnb hncap hnb1 hnb2=>?_
    |simp -dsimp -implicitDefEqProofs (disch:=first|exact Kd|fail) only[go_sem,↓reduceIte,seval]
   all_goals refine Upd.finL ?_ (hR G2 sv1 hle1 hs1 hsv1) ?_
   any_goals first|exact Ks|skip
   all_goals rfl
end Go.Proofs.YtomdbjfdbkejoaaGreatDoor
namespace Go.Proofs.YtomdbjfdbkejoaaGreatDoor
open Go Go.V Go.Proofs
def zbD (s:List (List UInt8)×Rdr):List (List UInt8)×Rdr:=(s.1++[(za4 (zE 1 s.2).1 (zE 1 s.2).2).1],(za4 (zE 1 s.2).1 (zE 1 s.2).2).2)
def zcq:Nat→List (List UInt8)×Rdr→List (List UInt8)×Rdr
 |0,s=>s
 |k+1,s=>zcq k (zbD s)
def zY (s:Rdr):List (List UInt8)×Rdr:=zcq (zE 1 s).1 ([],(zE 1 s).2)
theorem zjV (s:List (List UInt8)×Rdr):(zbD s).2.2.length≤s.2.2.length:=Nat.le_trans (zoh _ _) (zcj 1 s.2)
theorem zgK (s:Rdr):(zE 1 s).1<256:=by have:=zqv 1 s;omega
theorem zmF: ∀ (k:Nat) (s:List (List UInt8)×Rdr),(zcq k s).2.2.length≤s.2.2.length
 |0,s=>Nat.le_refl _
 |k+1,s=>Nat.le_trans (zmF k (zbD s)) (zjV s)
theorem zli: ∀ (k:Nat) (s:List (List UInt8)×Rdr),(zcq k s).1.length=s.1.length+k
 |0,s=>rfl
 |k+1,s=>by
  show(zcq k (zbD s)).1.length=_
  rw[zli k]
  show(s.1++[_]).length+k=_
  rw[List.length_append,List.length_singleton];omega
theorem ziQ: ∀ (k:Nat) (s:List (List UInt8)×Rdr),(∀x∈s.1,x.length≤255)→ ∀x∈(zcq k s).1,x.length≤255
 |0,s=>fun h=>h
 |k+1,s=>fun h=>ziQ k (zbD s) fun x hx=>by
  have hx:x∈s.1++[(za4 (zE 1 s.2).1 (zE 1 s.2).2).1]:=hx
  rcases List.mem_append.1 hx with hx|hx
  ·exact h x hx
  ·rw[List.mem_singleton.1 hx,ziP]
   have:=zgK s.2
   omega
theorem ztD (s:Rdr):(zY s).2.2.length≤s.2.length:=Nat.le_trans (zmF _ _) (zcj 1 s)
theorem zoj (s:Rdr):(zY s).1.length≤255∧ ∀x∈(zY s).1,x.length≤255:=by
 refine⟨?_,ziQ _ _ fun x hx=>by cases hx⟩
 unfold zY
 rw[zli]
 have:=zgK s
 show 0+_≤_
 omega
theorem ztE {s:Rdr} (hsl:s.2.length≤200000000) {bR:Nat} {sv:Value} {G:za} {H:zb} {R:Value→za→zb→Prop} (hs:Sl G zB sv s.2)
  (hR: ∀G' v sv',PLe G G'→Sep G' (zm ((bR,Res.cells [sv', .bool (zY s).2.1] [] 58)::H))→Sl G' str v (zY s).1→Sl G' zB sv' (zY s).2.2→R v G' ((bR, .cells [sv', .bool (zY s).2.1] [] 58)::H)):
  FnT Tryz.prog 59 [.pointer (some ⟨bR,0,none⟩)] G ((bR, .cells [sv, .bool s.1] [] 58)::H) R:=by
 have hr1: ∀x:Value,List.replicate 1 x=[x]:=fun _=>rfl
 refine FnT.sep ?_
 refine FnT.body tok [0,2,3,5,6,7] Tryz.func59 rfl Kk Kk (by show _≤18;simp) fun hsep=>?_
 rw[Tryz.results59]
 have hE:=hsep
 try simp only[zzs] at hE
 repeat(obtain⟨hx',hE⟩:=hE)
 repeat' first
  |with_reducible first|refine Nx.go ?_ |refine Bk.go (fun _=>?_) fun _=>?_ |refine Nb fun nb hnb hnb1 hnb2=>?_ |refine Nr fun nb nsp ncap hnb hncap hnb1 hnb2=>?_
  |simp -dsimp -implicitDefEqProofs (disch:=first|exact Kd|fail) only[go_sem,↓reduceIte,seval]
 refine zcb hsl (n:=1) Ko hs fun G1 sv1 hle1 hs1 hsv1=>?_
 have hle0:=zcj 1 s
 obtain⟨n,hn⟩: ∃n,n=(zE 1 s).1:=⟨_,rfl⟩
 obtain⟨s1,hs1d⟩: ∃s1,s1=(zE 1 s).2:=⟨_,rfl⟩
 have hfin:zY s=zcq n ([],s1):=by rw[hn,hs1d];rfl
 rw[←hn]
 rw[←hs1d] at hs1 hsv1 hle0⊢
 rw[hfin] at hR
 have hE:=hs1
 try simp only[zzs] at hE
 repeat(obtain⟨hx',hE⟩:=hE)
 repeat' first
  |with_reducible first|refine Nx.go ?_ |refine Bk.go (fun _=>?_) fun _=>?_ |refine Nb fun nb hnb hnb1 hnb2=>?_ |refine Nr fun nb nsp ncap hnb hncap hnb1 hnb2=>?_
  |simp -dsimp -implicitDefEqProofs (disch:=first|exact Kd|fail) only[go_sem,↓reduceIte,seval]
 refine Tri.loopU tok [0,2,3,5,6,7] Kk [0,2,3,5,6] (fun q G' fr H'=> ∃ (i:Nat) (st:List (List UInt8)×Rdr) (v sv':Value) (kb:zb),i+q=n∧PLe G1 G'∧zcq q st=zcq n ([],s1)∧st.2.2.length≤200000000∧st.1.length=i∧Sl G' zB sv' st.2.2∧zS [] 9 1 v i (st.1.map str) kb∧H'=(bR, .cells [sv', .bool st.2.1] [] 58):: (kb++H)∧fr=[(0, .pointer (some ⟨bR,0,none⟩)),(2, .slice none 0 0),(3,v),(5, .int .i64 n),(6, .int .i64 (i:Nat))]) (n) ?_ ?_
 ·exact Upd.now ⟨0,([],s1),_,sv1,[],by omega,PLe.refl _,rfl,Nat.le_trans hle0 hsl,rfl,hsv1, .inl ⟨none,rfl,rfl,rfl,rfl⟩,rfl,rfl⟩
 ·rintro q G2 fr H' hle2 hs2 ⟨i,st,v,sv2,kb,hiq,hle12,hst,hstl,hsi,hsv2,hO,rfl,rfl⟩
  by_cases hin:i<n
  ·obtain⟨q,rfl⟩: ∃p,q=p+1:=⟨q - 1,by omega⟩
   have hno:zcq q (zbD st)=zcq n ([],s1):=hst
   have hn2:=zgK st.2
   have hl3:=zcj 1 st.2
   obtain⟨x,hx0⟩: ∃x,x=(za4 (zE 1 st.2).1 (zE 1 st.2).2).1:=⟨_,rfl⟩
   have hst1:(zbD st).1.map str=st.1.map str++[Value.string ⟨x.toArray⟩]:=by show(st.1++[_]).map str=_;rw[List.map_append,hx0];rfl
   have hst2:(zbD st).1.length=i+1:=by show(st.1++[_]).length=_;rw[List.length_append,hsi];rfl
   have hst3:=zjV st
   have hnb:=zgK s
   rcases hO with ⟨a,rfl,hn0,hx,rfl⟩| ⟨b,cap,sp,rfl,rfl,hx,hc⟩
   ·rw[hx,List.nil_append] at hst1
    have hE:=hs2
    try simp only[zzs] at hE
    repeat(obtain⟨hx',hE⟩:=hE)
    repeat' first
     |with_reducible first|refine Nx.go ?_ |refine Bk.go (fun _=>?_) fun _=>?_ |refine Nb fun nb hnb hnb1 hnb2=>?_ |refine Nr fun nb nsp ncap hnb hncap hnb1 hnb2=>?_
     |simp -dsimp -implicitDefEqProofs (disch:=first|exact Kd|fail) only[go_sem,↓reduceIte,seval]
    refine zcb hstl (n:=1) Ko hsv2 fun G3 sv3 hle3 hs3 hsv3=>?_
    have hE:=hs3
    try simp only[zzs] at hE
    repeat(obtain⟨hx',hE⟩:=hE)
    repeat' first
     |with_reducible first|refine Nx.go ?_ |refine Bk.go (fun _=>?_) fun _=>?_ |refine Nb fun nb hnb hnb1 hnb2=>?_ |refine Nr fun nb nsp ncap hnb hncap hnb1 hnb2=>?_
     |simp -dsimp -implicitDefEqProofs (disch:=first|exact Kd|fail) only[go_sem,↓reduceIte,seval]
    refine zl7 (s:=(zE 1 st.2).2) Ko Ko hsv3 fun G4 v4 sv4 hle4 hs4 hx4 hsv4=>?_
    rw[←hx0] at hx4
    have hE:=hs4
    try simp only[zzs] at hE
    repeat(obtain⟨hx',hE⟩:=hE)
    obtain⟨a4,c4,rfl,hr4,hc4⟩:=hx4
    repeat' first
     |with_reducible first|refine Nx.go ?_ |refine Bk.go (fun _=>?_) fun _=>?_ |refine Nb fun nb hnb hnb1 hnb2=>?_ |refine Nr fun nb nsp ncap hnb hncap hnb1 hnb2=>?_
     |simp -dsimp -implicitDefEqProofs (disch:=first|exact Kd|fail) only[go_sem,↓reduceIte,seval, -List.reduceReplicate,hr1,Row.rdSlAll hr4,List.length_map]
    refine Upd.go (H':=(bR, .cells [sv4, .bool (za4 (zE 1 st.2).1 (zE 1 st.2).2).2.1] [] 58):: ([(nb, .cells [Value.string ⟨x.toArray⟩] nsp 9)]++H)) Ks (Upd.now ⟨q,by omega,i+1,zbD st,_,sv4,_,by omega,hle12.trans (hle3.trans hle4),hno,by omega,hst2,hsv4, .inr ⟨nb,ncap,nsp,rfl,by rw[hst1],by rw[hst1];simp;omega,by simp at hncap⊢;omega⟩,rfl,by simp only[hn0];rfl⟩)
   ·rw[Nat.mul_one] at hx hc
    have hE:=hs2
    try simp only[zzs] at hE
    repeat(obtain⟨hx',hE⟩:=hE)
    repeat' first
     |with_reducible first|refine Nx.go ?_ |refine Bk.go (fun _=>?_) fun _=>?_ |refine Nb fun nb hnb hnb1 hnb2=>?_ |refine Nr fun nb nsp ncap hnb hncap hnb1 hnb2=>?_
     |simp -dsimp -implicitDefEqProofs (disch:=first|exact Kd|fail) only[go_sem,↓reduceIte,seval]
    refine zcb hstl (n:=1) Ko hsv2 fun G3 sv3 hle3 hs3 hsv3=>?_
    have hE:=hs3
    try simp only[zzs] at hE
    repeat(obtain⟨hx',hE⟩:=hE)
    repeat' first
     |with_reducible first|refine Nx.go ?_ |refine Bk.go (fun _=>?_) fun _=>?_ |refine Nb fun nb hnb hnb1 hnb2=>?_ |refine Nr fun nb nsp ncap hnb hncap hnb1 hnb2=>?_
     |simp -dsimp -implicitDefEqProofs (disch:=first|exact Kd|fail) only[go_sem,↓reduceIte,seval]
    refine zl7 (s:=(zE 1 st.2).2) Ko Ko hsv3 fun G4 v4 sv4 hle4 hs4 hx4 hsv4=>?_
    rw[←hx0] at hx4
    have hE:=hs4
    try simp only[zzs] at hE
    repeat(obtain⟨hx',hE⟩:=hE)
    obtain⟨a4,c4,rfl,hr4,hc4⟩:=hx4
    repeat' first
     |with_reducible first|refine Nx.go ?_ |refine Bk.go (fun _=>?_) fun _=>?_ |refine Nb fun nb hnb hnb1 hnb2=>?_ |refine Nr fun nb nsp ncap hnb hncap hnb1 hnb2=>?_
     |simp -dsimp -implicitDefEqProofs (disch:=first|exact Kd|fail) only[go_sem,↓reduceIte,seval, -List.reduceReplicate,hr1,Row.rdSlAll hr4,List.length_map]
    refine Upd.go (H':=(bR, .cells [sv4, .bool (za4 (zE 1 st.2).1 (zE 1 st.2).2).2.1] [] 58):: ([(nb, .cells (st.1.map str++[Value.string ⟨x.toArray⟩]) nsp 9)]++H)) Ks (Upd.now ⟨q,by omega,i+1,zbD st,_,sv4,_,by omega,hle12.trans (hle3.trans hle4),hno,by omega,hst2,hsv4, .inr ⟨nb,ncap,nsp,rfl,by rw[hst1],by rw[List.length_map,hst2];omega,by simp at hncap⊢;omega⟩,rfl,rfl⟩)
  ·obtain rfl:i=n:=by omega
   obtain rfl:q=0:=by omega
   have hst:st=zcq i ([],s1):=hst
   rw[←hst] at hR
   repeat' first
    |with_reducible first|refine Nx.go ?_ |refine Bk.go (fun _=>?_) fun _=>?_ |refine Nb fun nb hnb hnb1 hnb2=>?_ |refine Nr fun nb nsp ncap hnb hncap hnb1 hnb2=>?_
    |simp -dsimp -implicitDefEqProofs (disch:=first|exact Kd|fail) only[go_sem,↓reduceIte,seval]
   unfold zv
   refine Upd.go (H':=kb++((bR, .cells [sv2, .bool st.2.1] [] 58)::H)) Ks ?_
   rcases hO with ⟨a0,rfl,hn0,hx,rfl⟩| ⟨b3,c2,sp,rfl,rfl,hx,hc⟩
   ·have hnil:st.1=[]:=List.eq_nil_of_length_eq_zero Ko
    refine Upd.now ?_
    exact fun hle hs=>hR _ _ sv2 (hle1.trans hle12) hs (by rw[hnil];exact⟨a0,0,rfl,Row.nil _ _,Nat.le_refl _⟩) hsv2
   ·have hE:=hs2
    try simp only[zzs] at hE
    repeat(obtain⟨hx',hE⟩:=hE)
    refine Upd.shareRow Ka fun G3 hle3 hs3 hr3=>?_
    rw[List.length_map] at hx hc
    exact fun hle hs=>hR _ _ sv2 ((hle1.trans hle12).trans hle3) hs ⟨some ⟨b3,0,none⟩,c2,by rw[hsi],hr3,by omega⟩ (hsv2.mono hle3)
end Go.Proofs.YtomdbjfdbkejoaaGreatDoor
namespace Go.Proofs.YtomdbjfdbkejoaaGreatDoor
open Go Go.V Go.Proofs
def upd {α:Type} (f:Nat→α) (i:Nat) (v:α):Nat→α:=fun k=>if k=i then v else f k
theorem zaR {α:Type} (f:Nat→α) (i:Nat) (v:α):upd f i v i=v:=if_pos rfl
theorem zbo {α:Type} (f:Nat→α) {i k:Nat} (v:α) (h:k≠i):upd f i v k=f k:=if_neg h
def mem (ws:Nat→Nat) (i:Nat):Bool:=(ws (i / 64)).testBit (i % 64)
theorem zok (ws:Nat→Nat) (k j:Nat) (h:j<64):mem ws (k * 64+j)=(ws k).testBit j:=by
 unfold mem;rw[show(k * 64+j) / 64=k by omega,show(k * 64+j) % 64=j by omega]
theorem zyU {w j:Nat} (hw:w<18446744073709551616) (hj:j<64):w|||2 ^ j<18446744073709551616:=
 Nat.or_lt_two_pow (n:=64) hw (Nat.pow_lt_pow_right (by decide) hj)
theorem zqw (ws:Nat→Nat) (i x:Nat):mem (upd ws (i / 64) (ws (i / 64)|||2 ^ (i % 64))) x=(mem ws x||decide (x=i)):=by
 unfold mem
 by_cases h:x / 64=i / 64
 ·rw[h,zaR,Nat.testBit_or,Nat.testBit_two_pow]
  congr 1
  rw[decide_eq_decide];omega
 ·rw[zbo _ _ h]
  rw[decide_eq_false (by intro e;subst e;exact h rfl),Bool.or_false]
theorem zxS {w:Nat} (hw:w<18446744073709551616) (j:Nat):decide (zaB .and .u64 ((w:Int) / 2 ^ j) 1=1)=w.testBit j:=by
 have e:((w:Int) / 2 ^ j)=((w / 2 ^ j:Nat):Int):=by simp
 have h2:w / 2 ^ j≤w:=Nat.div_le_self _ _
 rw[e,Nat.testBit_eq_decide_div_mod_eq]
 generalize w / 2 ^ j=q at h2
 rw[zqq Ko Ko (by decide) (by decide),Int.toNat_natCast,show(1 :Int).toNat=1 from rfl,zw7,decide_eq_decide]
 omega
theorem zg7 (k:Nat):((k:Int) / 64).toNat=k / 64:=by omega
theorem zlj {j:Nat} (hj:j<64):2 ^ j<18446744073709551616:=show 2 ^ j<2 ^ 64 from Nat.pow_lt_pow_right (by decide) hj
theorem zqx {j:Nat} (hj:j<64):IntKind.u64.wrap (1 * 2 ^ j)=((2 ^ j:Nat):Int):=by
 have h:=zlj hj
 have e:(1 * 2 ^ j:Int)=((2 ^ j:Nat):Int):=by simp
 rw[e]
 generalize 2 ^ j=q at h
 exact zn0 Ko Ko
theorem zl8 {w y:Nat} (hw:w<18446744073709551616) (hy:y<18446744073709551616):zaB .or .u64 (w:Int) (y:Int)=((w|||y:Nat):Int):=by
 rw[zs1 Ko Ko Ko Ko,Int.toNat_natCast,Int.toNat_natCast]
def zG (n:Nat) (f:Nat→Nat):List Value:=(List.range n).map fun k=>Value.int .u64 (f k)
theorem zap (n:Nat) (f:Nat→Nat):(zG n f).length=n:=by simp [zG]
theorem ztF {n:Nat} {f:Nat→Nat} {sp:List Value} {i:Nat} (h:i<n):(zG n f++sp)[i]? =some (.int .u64 (f i)):=by
 unfold zG;rw[List.getElem?_append_left (by simpa using h),List.getElem?_map,List.getElem?_eq_getElem (by simpa using h)];simp
theorem zg8 {xs:List Value} {o:Nat} {v:Value} (h:o<xs.length):zf xs o [v]=xs.set o v:=by
 unfold zf
 rw[List.set_eq_take_append_cons_drop,if_pos h]
 simp
theorem ztG {n:Nat} {f:Nat→Nat} {i:Nat} (h:i<n) (x:Nat):(zG n f).set i (.int .u64 x)=zG n (upd f i x):=by
 apply List.ext_getElem?
 intro k
 rw[List.getElem?_set]
 by_cases hk:i=k
 ·subst hk
  have:=ztF (f:=upd f i x) (sp:=[]) h
  rw[List.append_nil] at this
  rw[if_pos rfl,zap,if_pos h,this,zaR]
 ·rw[if_neg hk]
  unfold zG
  rw[List.getElem?_map,List.getElem?_map]
  by_cases hkn:k<n
  ·rw[List.getElem?_eq_getElem (by simpa using hkn)]
   simp only[List.getElem_range,Option.map_some]
   rw[zbo _ _ (Ne.symm hk)]
  ·rw[List.getElem?_eq_none (by simpa using hkn)];rfl
theorem zhU {n:Nat} {f:Nat→Nat} {i:Nat} (h:i<n) (x:Nat):zf (zG n f) i [.int .u64 x]=zG n (upd f i x):=by
 rw[zg8 (by rw[zap];exact h),ztG h]
end Go.Proofs.YtomdbjfdbkejoaaGreatDoor
