/- A part of the proof, joined of several texts: the verification layer, contracts of functions, plain law. -/
import Derived.Test.YtomdbjfdbkejoaaGreatDoorU5
import Derived.Test.YtomdbjfdbkejoaaGreatDoorProg
set_option maxHeartbeats 64000000
set_option linter.unusedSimpArgs false
set_option linter.unusedVariables false
set_option linter.unusedSectionVars false
set_option maxRecDepth 20000
open Go.Value renaming int→Yd
open Go.V.Nx renaming go→Zd
open Go.V.Bk renaming go→Ae
open List renaming length_map→Be,replicate→Fe,length_take→Ge,reduceReplicate→He,map_append→Ke,getElem_map→Le,getElem_mem→Me,take_of_length_le→Pe,take_succ_eq_append_getElem→Re,take_zero→Se,take_length→Te,getElem_of_mem→Ue,length_append→Ve,length_replicate→We,getElem?_eq_getElem→Xe,toList_toArray→Ye,nil_append→Af,append_nil→Bf,findIdx?_eq_some_iff_getElem→Cf,eq_nil_of_length_eq_zero→Df,getElem_take→Ef,map_replicate→Ff,drop_of_length_le→Gf,take→Hf,foldl_append→If,getElem?_append_right→Nf,length_drop→Of,foldl_nil→Pf,getElem_cons_zero→Qf,foldl_cons→Rf,range_succ→Sf,take_append_of_le_length→Tf
open Go.V.Upd renaming now→Ce,finL→De,go→Oe,shareRow→Jf
open Go.V.FnT renaming body→Ee
open Go.V.Row renaming obj→Ie
open Go.V.Tri renaming loopU→Je
open Nat renaming le_refl→Qe,mod_eq_of_lt→Kf
open Option renaming map_map→Ze
open Bool renaming eq_iff_iff→Lf
open Classical renaming propDecidable→Mf
namespace Go.Proofs.YtomdbjfdbkejoaaGreatDoor
abbrev kp0:List Nat:=[0,1,4,5,6,7,8,10,12,13,14,26]
abbrev kp1:List Nat:=[0,1,4,5,10,12,13,14,24]
abbrev kp2:List Nat:=[0,1,4,5,9,17]
abbrev kp3:List Nat:=[0,2,3,4,5,6,11,22]
abbrev kp4:List Nat:=[0,2,3,4,5,6,7,8,9,11,12,24]
abbrev kp5:List Nat:=[0,1,2,3]
abbrev kp6:List Nat:=[0,1,2,4,5,6]
abbrev kp7:List Nat:=[0,2,3,29]
abbrev kp8:List Nat:=[0,1,4,5,7,8,9,16]
abbrev kp9:List Nat:=[0,2,3,4,7,8,9,10,11,24]
abbrev zrF:List Nat:=[0,1,2,3,4,5,7,12,13,14,15,42,43,44,45,46,55]
abbrev zlB:List Nat:=[0,2,3,5,6,7,8,9]
abbrev zrG:List Nat:=[0,2,3,4,8]
abbrev zyn:List Nat:=[0,1,2,6,7,8,9,10]
abbrev zvg:List Nat:=[0,1,4,5,18]
abbrev zyo:List Nat:=[0,1,4,5,7,10,11,12,13]
open Go Go.V Go.Proofs
def T:Tys:=fun t=>match t with
 |1|31|33|34|35|36|38|40|41|42|43|44|46|47|49|50|51|52|53|55|56|59|60|61|62|63|64|65|66|67|72|73|75|76|79|80|81|83|85|87|88|90|91|92|93|94|95|96|97|98|102|103|105|111|112|113|114|115|116|118|120|121|122|123|124|125|126|127|128|130|136|137|138|139|140|141|142|143|144|149|150|151|153|154|155|156|157|160|161|162|164|165|166|167|169|170|173|174|175|176|178|179|180|182|187|189|191|192|193|195|196|197|200|201|209=>⟨.func,1,8,[.nilFunc],false⟩
 |2|3|29|171=>⟨.int .i64,1,8,[(.int .i64 0)],false⟩
 |4=>⟨.bool,1,1,[(.bool false)],false⟩
 |5=>⟨.int .u8,1,1,[(.int .u8 0)],false⟩
 |9=>⟨.string,1,16,[(.string ⟨#[]⟩)],false⟩
 |12|86|99|190=>⟨.int .u64,1,8,[(.int .u64 0)],false⟩
 |13=>⟨.struct [(0,9),(1,12)],2,24,[(.string ⟨#[]⟩),(.int .u64 0)],false⟩
 |20=>⟨.iface,1,16,[.nilIface],false⟩
 |21=>⟨.int .i32,1,4,[(.int .i32 0)],false⟩
 |22=>⟨.arr 256 5,256,256,Fe 256 (.int .u8 0),true⟩
 |23=>⟨.slice 24,1,24,[(.slice none 0 0)],false⟩
 |24=>⟨.slice 3,1,24,[(.slice none 0 0)],false⟩
 |25=>⟨.slice 9,1,24,[(.slice none 0 0)],false⟩
 |26|27=>⟨.struct [(0,22),(256,3),(257,23),(258,24),(259,25)],260,336,Fe 256 (.int .u8 0)++[(.int .i64 0),(.slice none 0 0),(.slice none 0 0),(.slice none 0 0)],false⟩
 |28=>⟨.slice 5,1,24,[(.slice none 0 0)],false⟩
 |32=>⟨.int .u32,1,4,[(.int .u32 0)],false⟩
 |48=>⟨.ptr 71,1,8,[(.pointer none)],false⟩
 |57|58=>⟨.struct [(0,28),(1,4)],2,32,[(.slice none 0 0),(.bool false)],false⟩
 |68=>⟨.ptr 108,1,8,[(.pointer none)],false⟩
 |69=>⟨.slice 77,1,24,[(.slice none 0 0)],false⟩
 |70|71=>⟨.struct [(0,27),(260,27),(520,28),(521,68),(522,69)],523,728,Fe 256 (.int .u8 0)++[(.int .i64 0),(.slice none 0 0),(.slice none 0 0),(.slice none 0 0)]++Fe 256 (.int .u8 0)++[(.int .i64 0),(.slice none 0 0),(.slice none 0 0),(.slice none 0 0),(.slice none 0 0),(.pointer none),(.slice none 0 0)],false⟩
 |77=>⟨.arr 2 3,2,16,[(.int .i64 0),(.int .i64 0)],true⟩
 |82=>⟨.slice 101,1,24,[(.slice none 0 0)],false⟩
 |84=>⟨.ptr 58,1,8,[(.pointer none)],false⟩
 |89=>⟨.slice 65,1,24,[(.slice none 0 0)],false⟩
 |100|101=>⟨.arr 4 99,4,32,[(.int .u64 0),(.int .u64 0),(.int .u64 0),(.int .u64 0)],true⟩
 |104=>⟨.arr 2 5,2,2,[(.int .u8 0),(.int .u8 0)],true⟩
 |106=>⟨.slice 110,1,24,[(.slice none 0 0)],false⟩
 |107|108=>⟨.struct [(0,106),(1,3)],2,32,[(.slice none 0 0),(.int .i64 0)],false⟩
 |109|110|158|159=>⟨.struct [(0,3),(1,3),(2,3)],3,24,[(.int .i64 0),(.int .i64 0),(.int .i64 0)],false⟩
 |117=>⟨.arr 256 4,256,256,Fe 256 (.bool false),true⟩
 |129=>⟨.ptr 135,1,8,[(.pointer none)],false⟩
 |131=>⟨.slice 159,1,24,[(.slice none 0 0)],false⟩
 |132=>⟨.slice 23,1,24,[(.slice none 0 0)],false⟩
 |133=>⟨.map 77 3,1,8,[(.map none)],false⟩
 |134|135=>⟨.struct [(0,24),(1,24),(2,24),(3,131),(4,132),(5,69),(6,133),(7,3)],8,160,[(.slice none 0 0),(.slice none 0 0),(.slice none 0 0),(.slice none 0 0),(.slice none 0 0),(.slice none 0 0),(.map none),(.int .i64 0)],false⟩
 |145=>⟨.map 104 5,1,8,[(.map none)],false⟩
 |147=>⟨.ptr 110,1,8,[(.pointer none)],false⟩
 |148=>⟨.map 5 5,1,8,[(.map none)],false⟩
 |152=>⟨.slice 4,1,24,[(.slice none 0 0)],false⟩
 |163=>⟨.slice 152,1,24,[(.slice none 0 0)],false⟩
 |181=>⟨.map 3 3,1,8,[(.map none)],false⟩
 |183=>⟨.ptr 159,1,8,[(.pointer none)],false⟩
 |184=>⟨.map 9 3,1,8,[(.map none)],false⟩
 |185=>⟨.arr 64 5,64,64,Fe 64 (.int .u8 0),true⟩
 |194=>⟨.ptr 3,1,8,[(.pointer none)],false⟩
 |198=>⟨.ptr 190,1,8,[(.pointer none)],false⟩
 |204=>⟨.arr 0 16,0,0,[],false⟩
 |205=>⟨.struct [(0,204)],0,0,[],false⟩
 |210=>⟨.ptr 5,1,8,[(.pointer none)],false⟩
 |_=>⟨.none,0,0,[],false⟩
@[go_sem] def F0:TI:=⟨.func,1,8,[.nilFunc],false⟩
@[go_sem] theorem G0:T 1=F0∧T 31=F0∧T 33=F0∧T 34=F0∧T 35=F0∧T 36=F0∧T 38=F0∧T 40=F0∧T 41=F0∧T 42=F0∧T 43=F0∧T 44=F0∧T 46=F0∧T 47=F0∧T 49=F0∧T 50=F0∧T 51=F0∧T 52=F0∧T 53=F0∧T 55=F0∧T 56=F0∧T 59=F0∧T 60=F0∧T 61=F0∧T 62=F0∧T 63=F0∧T 64=F0∧T 65=F0∧T 66=F0∧T 67=F0∧T 72=F0∧T 73=F0∧T 75=F0∧T 76=F0∧T 79=F0∧T 80=F0∧T 81=F0∧T 83=F0∧T 85=F0∧T 87=F0∧T 88=F0∧T 90=F0∧T 91=F0∧T 92=F0∧T 93=F0∧T 94=F0∧T 95=F0∧T 96=F0∧T 97=F0∧T 98=F0∧T 102=F0∧T 103=F0∧T 105=F0∧T 111=F0∧T 112=F0∧T 113=F0∧T 114=F0∧T 115=F0∧T 116=F0∧T 118=F0∧T 120=F0∧T 121=F0∧T 122=F0∧T 123=F0∧T 124=F0∧T 125=F0∧T 126=F0∧T 127=F0∧T 128=F0∧T 130=F0∧T 136=F0∧T 137=F0∧T 138=F0∧T 139=F0∧T 140=F0∧T 141=F0∧T 142=F0∧T 143=F0∧T 144=F0∧T 149=F0∧T 150=F0∧T 151=F0∧T 153=F0∧T 154=F0∧T 155=F0∧T 156=F0∧T 157=F0∧T 160=F0∧T 161=F0∧T 162=F0∧T 164=F0∧T 165=F0∧T 166=F0∧T 167=F0∧T 169=F0∧T 170=F0∧T 173=F0∧T 174=F0∧T 175=F0∧T 176=F0∧T 178=F0∧T 179=F0∧T 180=F0∧T 182=F0∧T 187=F0∧T 189=F0∧T 191=F0∧T 192=F0∧T 193=F0∧T 195=F0∧T 196=F0∧T 197=F0∧T 200=F0∧T 201=F0∧T 209=F0:=⟨rfl,rfl,rfl,rfl,rfl,rfl,rfl,rfl,rfl,rfl,rfl,rfl,rfl,rfl,rfl,rfl,rfl,rfl,rfl,rfl,rfl,rfl,rfl,rfl,rfl,rfl,rfl,rfl,rfl,rfl,rfl,rfl,rfl,rfl,rfl,rfl,rfl,rfl,rfl,rfl,rfl,rfl,rfl,rfl,rfl,rfl,rfl,rfl,rfl,rfl,rfl,rfl,rfl,rfl,rfl,rfl,rfl,rfl,rfl,rfl,rfl,rfl,rfl,rfl,rfl,rfl,rfl,rfl,rfl,rfl,rfl,rfl,rfl,rfl,rfl,rfl,rfl,rfl,rfl,rfl,rfl,rfl,rfl,rfl,rfl,rfl,rfl,rfl,rfl,rfl,rfl,rfl,rfl,rfl,rfl,rfl,rfl,rfl,rfl,rfl,rfl,rfl,rfl,rfl,rfl,rfl,rfl,rfl,rfl,rfl,rfl,rfl,rfl,rfl,rfl⟩
@[go_sem] def F1:TI:=⟨.int .i64,1,8,[(.int .i64 0)],false⟩
@[go_sem] theorem G1:T 2=F1∧T 3=F1∧T 29=F1∧T 171=F1:=⟨rfl,rfl,rfl,rfl⟩
@[go_sem] def F2:TI:=⟨.int .u64,1,8,[(.int .u64 0)],false⟩
@[go_sem] theorem G2:T 12=F2∧T 86=F2∧T 99=F2∧T 190=F2:=⟨rfl,rfl,rfl,rfl⟩
@[go_sem] def F3:TI:=⟨.struct [(0,3),(1,3),(2,3)],3,24,[(.int .i64 0),(.int .i64 0),(.int .i64 0)],false⟩
@[go_sem] theorem G3:T 109=F3∧T 110=F3∧T 158=F3∧T 159=F3:=⟨rfl,rfl,rfl,rfl⟩
@[go_sem] theorem Gx:T 4=⟨.bool,1,1,[(.bool false)],false⟩∧T 5=⟨.int .u8,1,1,[(.int .u8 0)],false⟩∧T 9=⟨.string,1,16,[(.string ⟨#[]⟩)],false⟩∧T 13=⟨.struct [(0,9),(1,12)],2,24,[(.string ⟨#[]⟩),(.int .u64 0)],false⟩∧T 20=⟨.iface,1,16,[.nilIface],false⟩∧T 21=⟨.int .i32,1,4,[(.int .i32 0)],false⟩∧T 22=⟨.arr 256 5,256,256,Fe 256 (.int .u8 0),true⟩∧T 23=⟨.slice 24,1,24,[(.slice none 0 0)],false⟩∧T 24=⟨.slice 3,1,24,[(.slice none 0 0)],false⟩∧T 25=⟨.slice 9,1,24,[(.slice none 0 0)],false⟩∧T 26=⟨.struct [(0,22),(256,3),(257,23),(258,24),(259,25)],260,336,Fe 256 (.int .u8 0)++[(.int .i64 0),(.slice none 0 0),(.slice none 0 0),(.slice none 0 0)],false⟩∧T 27=⟨.struct [(0,22),(256,3),(257,23),(258,24),(259,25)],260,336,Fe 256 (.int .u8 0)++[(.int .i64 0),(.slice none 0 0),(.slice none 0 0),(.slice none 0 0)],false⟩∧T 28=⟨.slice 5,1,24,[(.slice none 0 0)],false⟩∧T 32=⟨.int .u32,1,4,[(.int .u32 0)],false⟩∧T 48=⟨.ptr 71,1,8,[(.pointer none)],false⟩∧T 57=⟨.struct [(0,28),(1,4)],2,32,[(.slice none 0 0),(.bool false)],false⟩∧T 58=⟨.struct [(0,28),(1,4)],2,32,[(.slice none 0 0),(.bool false)],false⟩∧T 68=⟨.ptr 108,1,8,[(.pointer none)],false⟩∧T 69=⟨.slice 77,1,24,[(.slice none 0 0)],false⟩∧T 70=⟨.struct [(0,27),(260,27),(520,28),(521,68),(522,69)],523,728,Fe 256 (.int .u8 0)++[(.int .i64 0),(.slice none 0 0),(.slice none 0 0),(.slice none 0 0)]++Fe 256 (.int .u8 0)++[(.int .i64 0),(.slice none 0 0),(.slice none 0 0),(.slice none 0 0),(.slice none 0 0),(.pointer none),(.slice none 0 0)],false⟩∧T 71=⟨.struct [(0,27),(260,27),(520,28),(521,68),(522,69)],523,728,Fe 256 (.int .u8 0)++[(.int .i64 0),(.slice none 0 0),(.slice none 0 0),(.slice none 0 0)]++Fe 256 (.int .u8 0)++[(.int .i64 0),(.slice none 0 0),(.slice none 0 0),(.slice none 0 0),(.slice none 0 0),(.pointer none),(.slice none 0 0)],false⟩∧T 77=⟨.arr 2 3,2,16,[(.int .i64 0),(.int .i64 0)],true⟩∧T 82=⟨.slice 101,1,24,[(.slice none 0 0)],false⟩∧T 84=⟨.ptr 58,1,8,[(.pointer none)],false⟩∧T 89=⟨.slice 65,1,24,[(.slice none 0 0)],false⟩∧T 100=⟨.arr 4 99,4,32,[(.int .u64 0),(.int .u64 0),(.int .u64 0),(.int .u64 0)],true⟩∧T 101=⟨.arr 4 99,4,32,[(.int .u64 0),(.int .u64 0),(.int .u64 0),(.int .u64 0)],true⟩∧T 104=⟨.arr 2 5,2,2,[(.int .u8 0),(.int .u8 0)],true⟩∧T 106=⟨.slice 110,1,24,[(.slice none 0 0)],false⟩∧T 107=⟨.struct [(0,106),(1,3)],2,32,[(.slice none 0 0),(.int .i64 0)],false⟩∧T 108=⟨.struct [(0,106),(1,3)],2,32,[(.slice none 0 0),(.int .i64 0)],false⟩∧T 117=⟨.arr 256 4,256,256,Fe 256 (.bool false),true⟩∧T 129=⟨.ptr 135,1,8,[(.pointer none)],false⟩∧T 131=⟨.slice 159,1,24,[(.slice none 0 0)],false⟩∧T 132=⟨.slice 23,1,24,[(.slice none 0 0)],false⟩∧T 133=⟨.map 77 3,1,8,[(.map none)],false⟩∧T 134=⟨.struct [(0,24),(1,24),(2,24),(3,131),(4,132),(5,69),(6,133),(7,3)],8,160,[(.slice none 0 0),(.slice none 0 0),(.slice none 0 0),(.slice none 0 0),(.slice none 0 0),(.slice none 0 0),(.map none),(.int .i64 0)],false⟩∧T 135=⟨.struct [(0,24),(1,24),(2,24),(3,131),(4,132),(5,69),(6,133),(7,3)],8,160,[(.slice none 0 0),(.slice none 0 0),(.slice none 0 0),(.slice none 0 0),(.slice none 0 0),(.slice none 0 0),(.map none),(.int .i64 0)],false⟩∧T 145=⟨.map 104 5,1,8,[(.map none)],false⟩∧T 147=⟨.ptr 110,1,8,[(.pointer none)],false⟩∧T 148=⟨.map 5 5,1,8,[(.map none)],false⟩∧T 152=⟨.slice 4,1,24,[(.slice none 0 0)],false⟩∧T 163=⟨.slice 152,1,24,[(.slice none 0 0)],false⟩∧T 181=⟨.map 3 3,1,8,[(.map none)],false⟩∧T 183=⟨.ptr 159,1,8,[(.pointer none)],false⟩∧T 184=⟨.map 9 3,1,8,[(.map none)],false⟩∧T 185=⟨.arr 64 5,64,64,Fe 64 (.int .u8 0),true⟩∧T 194=⟨.ptr 3,1,8,[(.pointer none)],false⟩∧T 198=⟨.ptr 190,1,8,[(.pointer none)],false⟩∧T 204=⟨.arr 0 16,0,0,[],false⟩∧T 205=⟨.struct [(0,204)],0,0,[],false⟩∧T 210=⟨.ptr 5,1,8,[(.pointer none)],false⟩:=⟨rfl,rfl,rfl,rfl,rfl,rfl,rfl,rfl,rfl,rfl,rfl,rfl,rfl,rfl,rfl,rfl,rfl,rfl,rfl,rfl,rfl,rfl,rfl,rfl,rfl,rfl,rfl,rfl,rfl,rfl,rfl,rfl,rfl,rfl,rfl,rfl,rfl,rfl,rfl,rfl,rfl,rfl,rfl,rfl,rfl,rfl,rfl,rfl,rfl,rfl,rfl,rfl⟩
theorem okH {t:TypeId} {d i z} (h1:Tryz.prog.underlying t=some d) (h3:Tryz.prog.info? t=some i) (h2:(T t).k.fits d:=by first|rfl|exact⟨_,rfl,rfl⟩|exact⟨_,_,_,rfl⟩|exact⟨_,rfl⟩) (h4:i.size=(T t).size∧i.bytes=(T t).bytes∧i.zero=some z∧z.cells.toList=(T t).zero∧z=zdz (T t):=by exact⟨rfl,rfl,rfl,rfl,rfl⟩) (h5:(T t).eq=true→eqB Tryz.prog t d=true:=by first| (intro h;cases h;done)|exact fun _=>by kernel_rfl): ∃d i z,Tryz.prog.underlying t=some d∧(T t).k.fits d∧Tryz.prog.info? t=some i∧i.size=(T t).size∧i.bytes=(T t).bytes∧i.zero=some z∧z.cells.toList=(T t).zero∧z=zdz (T t)∧((T t).eq=true→eqB Tryz.prog t d=true):=⟨d,i,z,h1,h2,h3,h4.1,h4.2.1,h4.2.2.1,h4.2.2.2.1,h4.2.2.2.2,h5⟩
open Tryz in
theorem tok:zT Tryz.prog T:=by
 intro t;by_cases h:(T t).k= .none
 ·exact .inl h
 ·refine .inr ?_;unfold T at h;split at h
  ·exact okH underlying1 type1
  ·exact okH underlying31 type31
  ·exact okH underlying33 type33
  ·exact okH underlying34 type34
  ·exact okH underlying35 type35
  ·exact okH underlying36 type36
  ·exact okH underlying38 type38
  ·exact okH underlying40 type40
  ·exact okH underlying41 type41
  ·exact okH underlying42 type42
  ·exact okH underlying43 type43
  ·exact okH underlying44 type44
  ·exact okH underlying46 type46
  ·exact okH underlying47 type47
  ·exact okH underlying49 type49
  ·exact okH underlying50 type50
  ·exact okH underlying51 type51
  ·exact okH underlying52 type52
  ·exact okH underlying53 type53
  ·exact okH underlying55 type55
  ·exact okH underlying56 type56
  ·exact okH underlying59 type59
  ·exact okH underlying60 type60
  ·exact okH underlying61 type61
  ·exact okH underlying62 type62
  ·exact okH underlying63 type63
  ·exact okH underlying64 type64
  ·exact okH underlying65 type65
  ·exact okH underlying66 type66
  ·exact okH underlying67 type67
  ·exact okH underlying72 type72
  ·exact okH underlying73 type73
  ·exact okH underlying75 type75
  ·exact okH underlying76 type76
  ·exact okH underlying79 type79
  ·exact okH underlying80 type80
  ·exact okH underlying81 type81
  ·exact okH underlying83 type83
  ·exact okH underlying85 type85
  ·exact okH underlying87 type87
  ·exact okH underlying88 type88
  ·exact okH underlying90 type90
  ·exact okH underlying91 type91
  ·exact okH underlying92 type92
  ·exact okH underlying93 type93
  ·exact okH underlying94 type94
  ·exact okH underlying95 type95
  ·exact okH underlying96 type96
  ·exact okH underlying97 type97
  ·exact okH underlying98 type98
  ·exact okH underlying102 type102
  ·exact okH underlying103 type103
  ·exact okH underlying105 type105
  ·exact okH underlying111 type111
  ·exact okH underlying112 type112
  ·exact okH underlying113 type113
  ·exact okH underlying114 type114
  ·exact okH underlying115 type115
  ·exact okH underlying116 type116
  ·exact okH underlying118 type118
  ·exact okH underlying120 type120
  ·exact okH underlying121 type121
  ·exact okH underlying122 type122
  ·exact okH underlying123 type123
  ·exact okH underlying124 type124
  ·exact okH underlying125 type125
  ·exact okH underlying126 type126
  ·exact okH underlying127 type127
  ·exact okH underlying128 type128
  ·exact okH underlying130 type130
  ·exact okH underlying136 type136
  ·exact okH underlying137 type137
  ·exact okH underlying138 type138
  ·exact okH underlying139 type139
  ·exact okH underlying140 type140
  ·exact okH underlying141 type141
  ·exact okH underlying142 type142
  ·exact okH underlying143 type143
  ·exact okH underlying144 type144
  ·exact okH underlying149 type149
  ·exact okH underlying150 type150
  ·exact okH underlying151 type151
  ·exact okH underlying153 type153
  ·exact okH underlying154 type154
  ·exact okH underlying155 type155
  ·exact okH underlying156 type156
  ·exact okH underlying157 type157
  ·exact okH underlying160 type160
  ·exact okH underlying161 type161
  ·exact okH underlying162 type162
  ·exact okH underlying164 type164
  ·exact okH underlying165 type165
  ·exact okH underlying166 type166
  ·exact okH underlying167 type167
  ·exact okH underlying169 type169
  ·exact okH underlying170 type170
  ·exact okH underlying173 type173
  ·exact okH underlying174 type174
  ·exact okH underlying175 type175
  ·exact okH underlying176 type176
  ·exact okH underlying178 type178
  ·exact okH underlying179 type179
  ·exact okH underlying180 type180
  ·exact okH underlying182 type182
  ·exact okH underlying187 type187
  ·exact okH underlying189 type189
  ·exact okH underlying191 type191
  ·exact okH underlying192 type192
  ·exact okH underlying193 type193
  ·exact okH underlying195 type195
  ·exact okH underlying196 type196
  ·exact okH underlying197 type197
  ·exact okH underlying200 type200
  ·exact okH underlying201 type201
  ·exact okH underlying209 type209
  ·exact okH underlying2 type2
  ·exact okH underlying3 type3
  ·exact okH underlying29 type29
  ·exact okH underlying171 type171
  ·exact okH underlying4 type4
  ·exact okH underlying5 type5
  ·exact okH underlying9 type9
  ·exact okH underlying12 type12
  ·exact okH underlying86 type86
  ·exact okH underlying99 type99
  ·exact okH underlying190 type190
  ·exact okH underlying13 type13
  ·exact okH underlying20 type20
  ·exact okH underlying21 type21
  ·exact okH underlying22 type22
  ·exact okH underlying23 type23
  ·exact okH underlying24 type24
  ·exact okH underlying25 type25
  ·exact okH underlying26 type26
  ·exact okH underlying27 type27
  ·exact okH underlying28 type28
  ·exact okH underlying32 type32
  ·exact okH underlying48 type48
  ·exact okH underlying57 type57
  ·exact okH underlying58 type58
  ·exact okH underlying68 type68
  ·exact okH underlying69 type69
  ·exact okH underlying70 type70
  ·exact okH underlying71 type71
  ·exact okH underlying77 type77
  ·exact okH underlying82 type82
  ·exact okH underlying84 type84
  ·exact okH underlying89 type89
  ·exact okH underlying100 type100
  ·exact okH underlying101 type101
  ·exact okH underlying104 type104
  ·exact okH underlying106 type106
  ·exact okH underlying107 type107
  ·exact okH underlying108 type108
  ·exact okH underlying109 type109
  ·exact okH underlying110 type110
  ·exact okH underlying158 type158
  ·exact okH underlying159 type159
  ·exact okH underlying117 type117
  ·exact okH underlying129 type129
  ·exact okH underlying131 type131
  ·exact okH underlying132 type132
  ·exact okH underlying133 type133
  ·exact okH underlying134 type134
  ·exact okH underlying135 type135
  ·exact okH underlying145 type145
  ·exact okH underlying147 type147
  ·exact okH underlying148 type148
  ·exact okH underlying152 type152
  ·exact okH underlying163 type163
  ·exact okH underlying181 type181
  ·exact okH underlying183 type183
  ·exact okH underlying184 type184
  ·exact okH underlying185 type185
  ·exact okH underlying194 type194
  ·exact okH underlying198 type198
  ·exact okH underlying204 type204
  ·exact okH underlying205 type205
  ·exact okH underlying210 type210
  ·exact absurd rfl h
theorem mixed:Tryz.prog.follows .mixedOrders=true:=by kernel_rfl
theorem seatok:SeatOk Tryz.prog:=⟨by kernel_rfl,by kernel_rfl,by kernel_rfl⟩
section bare
variable {α:Type}
def zb3:Nat→List α→List (α×Int)
 |_,[]=>[]
 |i,k::ks=>(k,(i:Int))::zb3 (i+1) ks
theorem zcQ (i:Nat) (ks:List α):(zb3 i ks).length=ks.length:=by
 induction ks generalizing i with
 |nil=>rfl
 |cons k ks ih=>simp [zb3,ih]
end bare
section plain
variable {α:Type} [DecidableEq α]
def place (ks:List α) (k:α):Option Nat:=ks.findIdx? (fun x=>decide (k=x))
theorem zmf (k:α): ∀ (ks:List α) (i:Nat),zb0 k (zb3 i ks)=Option.map (fun n:Nat=>((i+n:Nat):Int)) (place ks k)
 | [],i=>rfl
 |x::ks,i=>by
  simp only[zb3,zb0,place,List.findIdx?_cons];by_cases h:k=x
  ·simp [h]
  ·have ih:=zmf k ks (i+1);unfold place at ih;rw[if_neg h,ih];simp only[h,decide_false,Bool.false_eq_true,if_false,Ze];congr 1;funext n;simp;omega
theorem zcm (k:α) (ks:List α):zb0 k (zb3 0 ks)=Option.map (fun n:Nat=>(n:Int)) (place ks k):=by
 rw[zmf];cases place ks k <;> simp
theorem zdB {k:α} {ks:List α} (h:place ks k=none):k∉ks:=fun hk=>by
 unfold place at h;rw[List.findIdx?_eq_none_iff] at h;have:=h k hk;simp at this
theorem zaa {k:α} {ks:List α} {n:Nat} (h:place ks k=some n):n<ks.length∧ks[n]? =some k:=by
 unfold place at h;rw[Cf] at h;obtain⟨h1,h2,_⟩:=h;exact⟨h1,by rw[Xe h1];simpa using (of_decide_eq_true h2).symm⟩
theorem zaf {k:α} {ks:List α} (h:k∈ks): ∃n,place ks k=some n:=by
 cases hp:place ks k with
 |none=>exact absurd h (zdB hp)
 |some n=>exact⟨n,rfl⟩
theorem zbo {k:α} {ks:List α} (h:k∉ks):place ks k=none:=by
 cases hp:place ks k with
 |none=>rfl
 |some n=>
  obtain⟨h1,h2⟩:=zaa hp;rw[Xe h1,Option.some.injEq] at h2;exact absurd (h2▸Me h1) h
theorem zdh {ks:List α} (I6:ks.Nodup) {n:Nat} (h:n<ks.length):place ks ks[n]=some n:=by
 obtain⟨m,hm⟩:=zaf (Me h);obtain⟨h1,h2⟩:=zaa hm;rw[Xe h1,Option.some.injEq] at h2;rw[hm,(List.getElem_inj I6).1 h2]
theorem zmg {k:α} {ks:List α} (h:k∈ks) (ls:List α):place (ks++ls) k=place ks k:=by
 obtain⟨n,hn⟩:=zaf h;rw[hn];unfold place at hn⊢;rw[List.findIdx?_append,hn];rfl
theorem zfb {k:α} {ks:List α} (h:k∉ks):place (ks++[k]) k=some ks.length:=by
 have hn:=zbo h;unfold place at hn⊢;rw[List.findIdx?_append,hn];simp
theorem zmh (k:α): ∀ (ks:List α) (i:Nat),k∉ks→zcv k ((i+ks.length:Nat):Int) (zb3 i ks)=zb3 i (ks++[k])
 | [],i,_=>by simp [zb3,zcv]
 |x::ks,i,h=>by
  simp only[List.mem_cons,not_or] at h;have ih:=zmh k ks (i+1) h.2;simp only[zb3,zcv,List.cons_append,if_neg h.1,List.length_cons];rw[show i+(ks.length+1)=i+1+ks.length by omega,ih]
theorem zrH (k:α) (ks:List α) (h:k∉ks):zcv k (ks.length:Int) (zb3 0 ks)=zb3 0 (ks++[k]):=by
 have:=zmh k ks 0 h
 rwa [Nat.zero_add] at this
theorem zdi {k:α} {ks:List α} (h:place ks k=none):zcv k (ks.length:Int) (zb3 0 ks)=zb3 0 (ks++[k]):=zrH k ks (zdB h)
theorem zmi (k:α):place [] k=none:=rfl
def zw (ks:List α) (k:α):Int:=match place ks k with|some n=>(n:Int)|none=> -1
theorem zB {ks:List α} {k:α} {n:Nat} (h:place ks k=some n):zw ks k=n:=by unfold zw;rw[h]
theorem zbp {ks:List α} {k:α} (h:place ks k=none):zw ks k= -1:=by unfold zw;rw[h]
theorem zmj {k:α} {ks:List α} (h:k∈ks) (ls:List α):zw (ks++ls) k=zw ks k:=by unfold zw;rw[zmg h]
theorem zgA {ks:List α} {x y:α} (hx:x∈ks) (hy:y∈ks) (h:zw ks x=zw ks y):x=y:=by
 obtain⟨a,ha⟩:=zaf hx;obtain⟨b,hb⟩:=zaf hy;rw[zB ha,zB hb] at h;obtain rfl:a=b:=by omega
 have:=(zaa ha).2.symm.trans (zaa hb).2;exact Option.some.inj this
def zl (l:List α):List α:=l.foldl (fun t k=>if k∈t then t else t++[k]) []
theorem zhJ:zl ([]:List α)=[]:=rfl
theorem zaG (l:List α) (k:α):zl (l++[k])=if k∈zl l then zl l else zl l++[k]:=by unfold zl;rw[If];rfl
theorem zhK {P:List α→Prop} (h0:P []) (h1: ∀l k,P l→P (l++[k])) (l:List α):P l:=by
 have: ∀n,∀l:List α,l.length=n→P l:=fun n=>by
  induction n with
  |zero=>intro l hl;rw[Df hl];exact h0
  |succ n ih=>
   intro l hl;have P3:l≠[]:=fun e=>by rw[e] at hl;cases hl
   rw[←List.dropLast_concat_getLast P3];exact h1 _ _ (ih _ (by simp [hl]))
 exact this _ l rfl
theorem zK {x:α} (l:List α):x∈zl l↔x∈l:=by
 induction l using zhK with
 |h0=>simp [zhJ]
 |h1 l k ih=>
  rw[zaG,List.mem_append,List.mem_singleton];split
  ·rename_i hk;rw[ih];constructor
   ·exact .inl
   ·rintro(h|h)
    ·exact h
    ·subst h;exact ih.1 hk
  ·rw[List.mem_append,ih,List.mem_singleton]
theorem zcR (l:List α):(zl l).Nodup:=by
 induction l using zhK with
 |h0=>exact List.nodup_nil
 |h1 l k ih=>
  rw[zaG];split
  ·exact ih
  ·rename_i hk
   exact List.nodup_append.2 ⟨ih,by simp,fun a ha b hb=>by
    obtain rfl:b=k:=by simpa using hb
    intro e;subst e;exact hk ha⟩
theorem zZ (l:List α):(zl l).length≤l.length:=by
 induction l using zhK with
 |h0=>exact Qe _
 |h1 l k ih=>
  rw[zaG];split <;> simp <;> omega
def zd (l:List α):List Int:=l.map fun k=>zw (zl l) k
theorem zt (l:List α):(zd l).length=l.length:=by simp [zd]
theorem znV:zd ([]:List α)=[]:=rfl
theorem zmk (l:List α) (k:α):zd (l++[k])=zd l++[zw (zl (l++[k])) k]:=by
 unfold zd;rw[Ke,List.map_singleton];congr 1;refine List.map_congr_left fun x hx=>?_;rw[zaG];split
 ·rfl
 ·exact zmj ((zK l).2 hx) _
theorem zcS {l:List α} {k:α} {n:Nat} (h:place (zl l) k=some n):zl (l++[k])=zl l∧zd (l++[k])=zd l++[(n:Int)]:=by
 obtain⟨h1,h2⟩:=zaa h;rw[Xe h1,Option.some.injEq] at h2;have hm:k∈zl l:=h2▸Me h1;have:zl (l++[k])=zl l:=by rw[zaG,if_pos hm]
 exact⟨this,by rw[zmk,this,zB h]⟩
theorem zcw {l:List α} {k:α} (h:place (zl l) k=none):zl (l++[k])=zl l++[k]∧zd (l++[k])=zd l++[((zl l).length:Int)]:=by
 have hm:=zdB h;have:zl (l++[k])=zl l++[k]:=by rw[zaG,if_neg hm]
 exact⟨this,by rw[zmk,this,zB (zfb hm)]⟩
theorem zbK {l:List α} {i:Nat} (h:i<l.length):(zd l)[i]'(by rw[zt];exact h)=zw (zl l) l[i]:=by simp [zd]
theorem zdY {l:List α} {i j:Nat} (hi:i<l.length) (hj:j<l.length):(zd l)[i]'(by rw[zt];exact hi)=(zd l)[j]'(by rw[zt];exact hj)↔l[i]=l[j]:=by
 rw[zbK hi,zbK hj];constructor
 ·exact zgA ((zK l).2 (Me hi)) ((zK l).2 (Me hj))
 ·intro h;rw[h]
theorem za9 {l:List α} {n:Int} (h:n∈zd l):0≤n∧n< (zl l).length:=by
 unfold zd at h;rw[List.mem_map] at h;obtain⟨x,hx,rfl⟩:=h;obtain⟨m,hm⟩:=zaf ((zK l).2 hx);rw[zB hm];have:=(zaa hm).1;omega
end plain
section two
variable {α β:Type} [DecidableEq α] [DecidableEq β]
theorem zaQ {l:List α} {k:Nat} (hk:k<l.length):l[k]∈l.take k↔ ∃j:Nat,∃h:j<k,l[j]'(Nat.lt_trans h hk)=l[k]:=by
 rw[List.mem_iff_getElem];constructor
 ·rintro⟨j,hj,e⟩;rw[Ge] at hj;rw[Ef] at e;exact⟨j,by omega,e⟩
 ·rintro⟨j,hj,e⟩;exact⟨j,by rw[Ge];omega,by rw[Ef];exact e⟩
theorem zdj {l:List α} {m:List β} (X1:l.length=m.length) (h: ∀i j (hi:i<l.length) (hj:j<l.length),l[i]=l[j]↔m[i]'(X1▸hi)=m[j]'(X1▸hj)):zd l=zd m:=by
 have key: ∀k,k≤l.length→zd (l.take k)=zd (m.take k)∧(zl (l.take k)).length=(zl (m.take k)).length:=fun k=>by
  induction k with
  |zero=>intro _;simp [znV,zhJ]
  |succ k ih=>
   intro hk;have hk':k<l.length:=by omega
   have hkm:k<m.length:=by omega
   obtain⟨h1,h2⟩:=ih Ko;rw[Re hk',Re hkm];by_cases Z5:l[k]∈l.take k
   ·obtain⟨j,hj,e⟩:=(zaQ hk').1 Z5;have e2:=(h j k Ko hk').1 e;have hmem2:m[k]∈m.take k:=(zaQ hkm).2 ⟨j,hj,e2⟩;obtain⟨n,hn⟩:=zaf ((zK _).2 Z5);obtain⟨n',hn'⟩:=zaf ((zK _).2 hmem2);rw[(zcS hn).1,(zcS hn).2,(zcS hn').1,(zcS hn').2,h1,h2];refine⟨?_,rfl⟩;have g1:=zbK (l:=l.take k) (i:=j) (by rw[Ge];omega);have g2:=zbK (l:=m.take k) (i:=j) (by rw[Ge];omega);rw[Ef,e,zB hn] at g1;rw[Ef,e2,zB hn'] at g2;have g3:(zd (l.take k))[j]'(by rw[zt,Ge];omega)=(zd (m.take k))[j]'(by rw[zt,Ge];omega):=by simp only[h1]
    rw[g1,g2] at g3;rw[g3]
   ·have hmem2:m[k]∉m.take k:=fun hm=>by
     obtain⟨j,hj,e⟩:=(zaQ hkm).1 hm;exact Z5 ((zaQ hk').2 ⟨j,hj,(h j k Ko hk').2 e⟩)
    have p1:=zbo fun hm=>Z5 ((zK _).1 hm);have p2:=zbo fun hm=>hmem2 ((zK _).1 hm);rw[(zcw p1).1,(zcw p1).2,(zcw p2).1,(zcw p2).2,h1,h2];exact⟨rfl,by simp [h2]⟩
 have:=(key l.length (Qe _)).1
 rwa [Te,X1,Te] at this
end two
theorem hei:zfa T 3 (Yd .i64):=zkL (T:=T) (t:=3) rfl
theorem zlC {l:List Int} {a:Option Addr} {cap b1 i:Nat} (hi:i<l.length) {G:zb} {H:za} {R:Value→zb→za→Prop} (U0:Row G a (l.map (Yd .i64)))
  (Z2:G b1=none) (hf:zq H b1=some (.cells [.slice a l.length cap] [] 24)) (hR:R (.int .i64 l[i]) G H):FnT Tryz.prog 130 [.int .i64 (i:Nat), .pointer (some ⟨b1,0,none⟩)] G H R:=by
 have B3:Adr a:=U0.adr (by rw[Be];omega);refine Ee tok [0,1,3] Tryz.func130 rfl Kk Kk Kn fun M0=>?_;rw[Tryz.results130];have hE:=M0;try simp only[zzs] at hE
 repeat(obtain⟨J0,hE⟩:=hE)
 repeat' first
  |with_reducible first|refine Zd ?_ |refine Ae (fun _=>?_) fun _=>?_
  |simp -dsimp -implicitDefEqProofs (disch:=first|exact Kd|fail) only[go_sem,↓reduceIte,seval,hf,Ie U0,Le]
 all_goals refine De ?_ hR ?_
 any_goals first|exact Ks|skip
 rfl
theorem ztd {l:List Int} (X1:l.length≤2000000) {a:Option Addr} {cap b1:Nat} {G:zb} {H:za} {R:Value→zb→za→Prop} (U0:Row G a (l.map (Yd .i64)))
  (hR: ∀v kb,Sep G (zm (kb++H))→zO [] 3 1 v l.length ((zd l).map (Yd .i64)) kb→R v G (kb++H)):FnT Tryz.prog 129 [.int .i64 l.length, .func (.func 130) #[] #[.pointer (some ⟨b1,0,none⟩)]] G ((b1, .cells [.slice a l.length cap] [] 24)::H) R:=by
 refine FnT.sep ?_;refine Ee tok kp0 Tryz.func129 rfl Kk Kk Kn fun M0=>?_;rw[Tryz.results129];have hE:=M0;try simp only[zzs] at hE
 repeat(obtain⟨J0,hE⟩:=hE)
 repeat' first
  |with_reducible first|refine Zd ?_ |refine Ae (fun _=>?_) fun _=>?_ |refine zaF.mk (fun _ _=>?_) fun _=>?_ |refine Nb fun nb A0 C0 B0=>?_ |refine Nr fun nb D0 E0 A0 I0 C0 B0=>?_
  |simp -dsimp -implicitDefEqProofs (disch:=first|exact Kd|fail) only[go_sem,↓reduceIte,seval]
 revert nb;intro bm hbm hbm1 hbm2;refine Je tok kp0 Kk [0,1,4,5,6,12,13] (fun q G' fr H'=> ∃ (i:Nat) (v:Value) (kb:za),i+q=l.length∧G'=G∧zO [] 3 1 v i ((zd (l.take i)).map (Yd .i64)) kb∧H'=(bm, .map ((zb3 0 (zl (l.take i))).map fun p=>((Yd .i64) p.1,Yd .i64 p.2))):: (b1, .cells [.slice a l.length cap] [] 24):: (kb++H)∧fr=[(0, .int .i64 l.length),(1, .func (.func 130) #[] #[.pointer (some ⟨b1,0,none⟩)]),(4, .slice none 0 0),(5, .map (some bm)),(6,v),(12, .int .i64 l.length),(13, .int .i64 i)]) (l.length) ?_ ?_
 ·exact Ce ⟨0,_,[],by omega,rfl, .inl ⟨none,rfl,rfl,rfl,rfl⟩,rfl,rfl⟩
 ·rintro q G1 fr H' S0 hs ⟨i,v,kb,hi,rfl,hv,rfl,rfl⟩;have C1:(zd (l.take i)).length=i:=by rw[zt,Ge];omega
  have L3:=zZ (l.take i);rw[Ge] at L3;by_cases Y0:i<l.length
  ·have B2:=Re Y0;rcases hp:place (zl (l.take i)) l[i] with _|n
   ·have I4:=zcw hp;have hpe:=zfb (zdB hp);rw[←B2] at I4;rcases hv with ⟨a0,rfl,hn,hx,rfl⟩| ⟨b2,c2,sp,rfl,rfl,hx,hc⟩
    ·have hE:=hs;try simp only[zzs] at hE
     repeat(obtain⟨J0,hE⟩:=hE)
     repeat' first
      |with_reducible first|refine Zd ?_ |refine Ae (fun _=>?_) fun _=>?_ |refine zaF.mk (fun _ _=>?_) fun _=>?_ |refine Nb fun nb A0 C0 B0=>?_ |refine Nr fun nb D0 E0 A0 I0 C0 B0=>?_
      |simp -dsimp -implicitDefEqProofs (disch:=first|exact Kd|fail) only[go_sem,↓reduceIte,seval,zck hei (Yd .i64),zcl hei,zcm,Ze,zcO hei (Yd .i64),zdi,hp,hpe,Be,zcQ]
      |with_reducible refine zlC (cap:=cap) Y0 U0 Ka ?_ ?_
     have T2:(zd (l.take (i+1))).map (Yd .i64)=[Yd .i64 (zl (l.take i)).length]:=by rw[I4.2,Ke,hx];rfl
     rw[←I4.1,←T2];refine Oe (H':=(bm, .map ((zb3 0 (zl (l.take (i+1)))).map fun p=>((Yd .i64) p.1,Yd .i64 p.2))):: (b1, .cells [.slice a l.length cap] [] 24):: ([(nb, .cells ((zd (l.take (i+1))).map (Yd .i64)) D0 3)]++H)) Ks (Ce ⟨q - 1,by omega,i+1, .slice (some ⟨nb,0,none⟩) (i+1) E0,[_],by omega,rfl, .inr ⟨nb,E0,D0,rfl,rfl,by rw[T2];simp [hn],by rw[T2];simp at I0⊢;omega⟩,rfl,by obtain rfl:i=0:=hn;rfl⟩)
    ·have hE:=hs;try simp only[zzs] at hE
     repeat(obtain⟨J0,hE⟩:=hE)
     repeat' first
      |with_reducible first|refine Zd ?_ |refine Ae (fun _=>?_) fun _=>?_ |refine zaF.mk (fun _ _=>?_) fun _=>?_ |refine Nb fun nb A0 C0 B0=>?_ |refine Nr fun nb D0 E0 A0 I0 C0 B0=>?_
      |simp -dsimp -implicitDefEqProofs (disch:=first|exact Kd|fail) only[go_sem,↓reduceIte,seval,zck hei (Yd .i64),zcl hei,zcm,Ze,zcO hei (Yd .i64),zdi,hp,hpe,Be,zcQ]
      |with_reducible refine zlC (cap:=cap) Y0 U0 Ka ?_ ?_
     have T2:(zd (l.take (i+1))).map (Yd .i64)=(zd (l.take i)).map (Yd .i64)++[Yd .i64 (zl (l.take i)).length]:=by rw[I4.2,Ke];rfl
     rw[←I4.1,←T2];refine Oe (H':=(bm, .map ((zb3 0 (zl (l.take (i+1)))).map fun p=>((Yd .i64) p.1,Yd .i64 p.2))):: (b1, .cells [.slice a l.length cap] [] 24):: ([(nb, .cells ((zd (l.take (i+1))).map (Yd .i64)) D0 3)]++H)) Ks (Ce ⟨q - 1,by omega,i+1, .slice (some ⟨nb,0,none⟩) (i+1) E0,[_],by omega,rfl, .inr ⟨nb,E0,D0,rfl,rfl,by rw[T2];simp [C1],by rw[T2];simp [C1] at I0⊢;omega⟩,rfl,rfl⟩)
   ·have I4:=zcS hp;rw[←B2] at I4;have Z8:i≠0:=fun e=>by subst e;rw[Se,zhJ,zmi] at hp;cases hp
    rcases hv with ⟨a0,rfl,hn,hx,rfl⟩| ⟨b2,c2,sp,rfl,rfl,hx,hc⟩
    ·exact absurd hn Z8
    ·have hE:=hs;try simp only[zzs] at hE
     repeat(obtain⟨J0,hE⟩:=hE)
     repeat' first
      |with_reducible first|refine Zd ?_ |refine Ae (fun _=>?_) fun _=>?_ |refine zaF.mk (fun _ _=>?_) fun _=>?_ |refine Nb fun nb A0 C0 B0=>?_ |refine Nr fun nb D0 E0 A0 I0 C0 B0=>?_
      |simp -dsimp -implicitDefEqProofs (disch:=first|exact Kd|fail) only[go_sem,↓reduceIte,seval,zck hei (Yd .i64),zcl hei,zcm,Ze,zcO hei (Yd .i64),zdi,hp,Be,zcQ]
      |with_reducible refine zlC (cap:=cap) Y0 U0 Ka ?_ ?_
     have T2:(zd (l.take (i+1))).map (Yd .i64)=(zd (l.take i)).map (Yd .i64)++[Yd .i64 n]:=by rw[I4.2,Ke];rfl
     rw[←I4.1,←T2];refine Oe (H':=(bm, .map ((zb3 0 (zl (l.take (i+1)))).map fun p=>((Yd .i64) p.1,Yd .i64 p.2))):: (b1, .cells [.slice a l.length cap] [] 24):: ([(nb, .cells ((zd (l.take (i+1))).map (Yd .i64)) D0 3)]++H)) Ks (Ce ⟨q - 1,by omega,i+1, .slice (some ⟨nb,0,none⟩) (i+1) E0,[_],by omega,rfl, .inr ⟨nb,E0,D0,rfl,rfl,by rw[T2];simp [C1],by rw[T2];simp [C1] at I0⊢;omega⟩,rfl,rfl⟩)
  ·obtain rfl:i=l.length:=by omega
   rw[Te] at hv⊢
   repeat' first
    |with_reducible first|refine Zd ?_ |refine Ae (fun _=>?_) fun _=>?_ |refine zaF.mk (fun _ _=>?_) fun _=>?_ |refine Nb fun nb A0 C0 B0=>?_ |refine Nr fun nb D0 E0 A0 I0 C0 B0=>?_
    |simp -dsimp -implicitDefEqProofs (disch:=first|exact Kd|fail) only[go_sem,↓reduceIte,seval]
   unfold zo;refine Upd.leave (H':=kb++H) Ks ?_;exact fun _ hs=>hR _ kb hs hv
theorem zyp {l:List Int} (X1:l.length≤2000000) {a:Option Addr} {cap b1:Nat} {G:zb} {H:za} {R:Value→zb→za→Prop} (U0:Row G a (l.map (Yd .i64)))
  (hR: ∀G' v,PLe G G'→Sep G' (zm H)→Sl G' (Yd .i64) v (zd l)→R v G' H):FnT Tryz.prog 129 [.int .i64 l.length, .func (.func 130) #[] #[.pointer (some ⟨b1,0,none⟩)]] G ((b1, .cells [.slice a l.length cap] [] 24)::H) R:=by
 refine FnT.upd (ztd X1 U0 fun v kb hs hv=>?_);rcases hv with ⟨a0,rfl,hn,hx,rfl⟩| ⟨b2,c2,sp,rfl,rfl,hx,hc⟩
 ·have A9:l=[]:=Df hn;subst A9;exact Ce (hR _ _ (PLe.refl _) hs ⟨a0,0,rfl,Row.nil _ _,Qe _⟩)
 ·refine Jf hs.1.1 fun G2 Q0 R0 V1=>?_;exact hR _ _ Q0 R0 ⟨some ⟨b2,0,none⟩,c2,by rw[zt],V1,by rw[zt];rw[Be,zt] at hx hc;omega⟩
theorem zxp {l:List Int} (X1:l.length≤2000000) {G:zb} {H:za} {R:Value→zb→za→Prop} {v:Value} (hv:Sl G (Yd .i64) v l)
  (hR: ∀v kb,Sep G (zm (kb++H))→zO [] 3 1 v l.length ((zd l).map (Yd .i64)) kb→R v G (kb++H)):FnT Tryz.prog 101 [v] G H R:=by
 obtain⟨a,cap,rfl,U0,D5⟩:=hv;refine Ee tok [0,1,2] Tryz.func101 rfl Kk Kk Kn fun M0=>?_;rw[Tryz.results101];have hE:=M0;try simp only[zzs] at hE
 repeat(obtain⟨J0,hE⟩:=hE)
 repeat' first
  |with_reducible first|refine Zd ?_ |refine Ae (fun _=>?_) fun _=>?_ |refine Nb fun nb A0 C0 B0=>?_
  |simp -dsimp -implicitDefEqProofs (disch:=first|exact Kd|fail) only[go_sem,↓reduceIte,seval]
  |with_reducible refine ztd X1 U0 fun v2 kb2 R0 V5=>?_
 unfold zo;refine Upd.leave (H':=kb2++H) Ks ?_;exact hR v2 kb2 R0 V5
theorem znW {l:List Int} (X1:l.length≤2000000) {G:zb} {H:za} {R:Value→zb→za→Prop} {v:Value} (hv:Sl G (Yd .i64) v l)
  (hR: ∀G' v',PLe G G'→Sep G' (zm H)→Sl G' (Yd .i64) v' (zd l)→R v' G' H):FnT Tryz.prog 101 [v] G H R:=by
 obtain⟨a,cap,rfl,U0,D5⟩:=hv;refine Ee tok [0,1,2] Tryz.func101 rfl Kk Kk Kn fun M0=>?_;rw[Tryz.results101];have hE:=M0;try simp only[zzs] at hE
 repeat(obtain⟨J0,hE⟩:=hE)
 repeat' first
  |with_reducible first|refine Zd ?_ |refine Ae (fun _=>?_) fun _=>?_ |refine Nb fun nb A0 C0 B0=>?_
  |simp -dsimp -implicitDefEqProofs (disch:=first|exact Kd|fail) only[go_sem,↓reduceIte,seval]
  |with_reducible refine zyp X1 U0 fun G2 v2 Q0 R0 V5=>?_
 all_goals refine De ?_ (hR G2 v2 Q0 R0 V5) ?_
 any_goals first|exact Ks|skip
 rfl
theorem zhe (xs ys:List Int) (X1:xs.length≤2000000) {G:zb} {H:za} {R:Value→zb→za→Prop} {v w:Value} (hv:Sl G (Yd .i64) v xs) (hw:Sl G (Yd .i64) w ys) (hR:R (.bool (decide (xs=ys))) G H):FnT Tryz.prog 36 [v,w] G H R:=by
 obtain⟨a,cap,rfl,U0,D5⟩:=hv;obtain⟨a',cap',rfl,Tc,hcap'⟩:=hw;refine Ee tok kp1 Tryz.func36 rfl Kk Kk Kn fun M0=>?_;rw[Tryz.results36];have hE:=M0;try simp only[zzs] at hE
 repeat(obtain⟨J0,hE⟩:=hE)
 repeat' first
  |with_reducible first|refine Zd ?_ |refine Ae (fun _=>?_) fun _=>?_ |refine Nb fun nb A0 C0 B0=>?_
  |simp -dsimp -implicitDefEqProofs (disch:=first|exact Kd|fail) only[go_sem,↓reduceIte,seval]
 ·rename_i P3;have Z4:xs.length=ys.length:=by omega
  refine Je tok kp1 Kk [0,1,4,12,13] (fun n G' l H'=> ∃i:Nat,i+n=xs.length∧(∀j (h:j<xs.length),j<i→xs[j]=ys[j])∧G'=G∧H'=H∧l=[(0, .slice a xs.length cap),(1, .slice a' ys.length cap'),(4, .bool false),(12, .int .i64 xs.length),(13, .int .i64 i)]) (xs.length) (Ce ?_) ?_
  ·exact⟨0,by omega,fun j _ h=>by omega,rfl,rfl,rfl⟩
  ·rintro n G' l H' S0 hs ⟨i,hi,B1,rfl,rfl,rfl⟩;by_cases Y0:i<xs.length
   ·have Uc:i<ys.length:=by omega
    repeat' first
     |with_reducible first|refine Zd ?_ |refine Ae (fun _=>?_) fun _=>?_ |refine Nb fun nb A0 C0 B0=>?_
     |with_reducible refine Tri.drawH tok mixed kp1 6 [3,7] (.op 0 .plain (.op 1 .plain (.op 2 .plain (.op 3 .held (.op 4 .plain (.op 5 .plain (.op 6 .plain (.op 7 .held (.op 8 .plain .nil))))))))) Kk [0,1] ?_
     |simp -dsimp -implicitDefEqProofs (disch:=first|exact Kd|fail) only[go_sem,↓reduceIte,seval,Ie U0,Ie Tc,Le]
    ·rename_i he
     exact Ce ⟨n - 1,by omega,i+1,by omega,fun j h hj=>by
      by_cases e:j=i
      ·subst e;exact he
      ·exact B1 j h Ko,rfl,rfl,rfl⟩
    ·rename_i he;rw[decide_eq_false (fun e=>he (by subst e;rfl))] at hR;all_goals refine De ?_ hR ?_
     any_goals first|exact Ks|skip
     rfl
   ·obtain rfl:i=xs.length:=by omega
    rw[decide_eq_true (List.ext_getElem Z4 fun j h1 h2=>B1 j h1 h1)] at hR
    repeat' first
     |with_reducible first|refine Zd ?_ |refine Ae (fun _=>?_) fun _=>?_ |refine Nb fun nb A0 C0 B0=>?_
     |simp -dsimp -implicitDefEqProofs (disch:=first|exact Kd|fail) only[go_sem,↓reduceIte,seval]
    all_goals refine De ?_ hR ?_
    any_goals first|exact Ks|skip
    rfl
 ·rename_i P3;rw[decide_eq_false (fun e=>P3 (by subst e;rfl))] at hR;all_goals refine De ?_ hR ?_
  any_goals first|exact Ks|skip
  rfl
theorem zlD (l:List Int) (x:Int) (X1:l.length≤2000000) {G:zb} {H:za} {R:Value→zb→za→Prop} {v:Value} (hv:Sl G (Yd .i64) v l) (hR:R (.int .i64 (zw l x)) G H):FnT Tryz.prog 139 [v, .int .i64 x] G H R:=by
 obtain⟨a,cap,rfl,U0,D5⟩:=hv;refine Ee tok kp2 Tryz.func139 rfl Kk Kk Kn fun M0=>?_;rw[Tryz.results139];have hE:=M0;try simp only[zzs] at hE
 repeat(obtain⟨J0,hE⟩:=hE)
 repeat' first
  |with_reducible first|refine Zd ?_ |refine Ae (fun _=>?_) fun _=>?_ |refine Nb fun nb A0 C0 B0=>?_
  |simp -dsimp -implicitDefEqProofs (disch:=first|exact Kd|fail) only[go_sem,↓reduceIte,seval]
 refine Je tok kp2 Kk [0,1,4,5] (fun n G' fr H'=> ∃i:Nat,i+n=l.length∧(∀j (h:j<l.length),j<i→l[j]≠x)∧G'=G∧H'=H∧fr=[(0, .slice a l.length cap),(1, .int .i64 x),(4, .int .i64 0),(5, .int .i64 i)]) (l.length) (Ce ?_) ?_
 ·exact⟨0,by omega,fun j _ h=>by omega,rfl,rfl,rfl⟩
 ·rintro n G' fr H' S0 hs ⟨i,hi,B1,rfl,rfl,rfl⟩;by_cases Y0:i<l.length
  ·have B3:Adr a:=U0.adr (by rw[Be];omega)
   repeat' first
    |with_reducible first|refine Zd ?_ |refine Ae (fun _=>?_) fun _=>?_ |refine Nb fun nb A0 C0 B0=>?_
    |simp -dsimp -implicitDefEqProofs (disch:=first|exact Kd|fail) only[go_sem,↓reduceIte,seval,Ie U0,Le]
   ·rename_i he
    have hp:place l x=some i:=by
     unfold place;rw[Cf];exact⟨Y0,by simp [he],fun j hj=>by have:=B1 j Ko hj;simp;exact fun e=>this e.symm⟩
    rw[zB hp] at hR;all_goals refine De ?_ hR ?_
    any_goals first|exact Ks|skip
    rfl
   ·rename_i he
    exact Ce ⟨n - 1,by omega,i+1,by omega,fun j h hj=>by
     by_cases e:j=i
     ·subst e;exact he
     ·exact B1 j h Ko,rfl,rfl,rfl⟩
  ·obtain rfl:i=l.length:=by omega
   have hp:place l x=none:=zbo fun hm=>by
    obtain⟨j,hj,e⟩:=Ue hm;exact B1 j hj hj e
   rw[zbp hp] at hR
   repeat' first
    |with_reducible first|refine Zd ?_ |refine Ae (fun _=>?_) fun _=>?_ |refine Nb fun nb A0 C0 B0=>?_
    |simp -dsimp -implicitDefEqProofs (disch:=first|exact Kd|fail) only[go_sem,↓reduceIte,seval]
   all_goals refine De ?_ hR ?_
   any_goals first|exact Ks|skip
   rfl
theorem zaU {α:Type} [DecidableEq α] {l:List α} {i:Nat} (hi:i<l.length): ∃p,place l l[i]=some p∧p≤i∧(∃h:p<l.length,l[p]=l[i])∧(p=i↔l[i]∉l.take i):=by
 obtain⟨p,hp⟩:=zaf (Me hi);have hp':=hp;unfold place at hp';rw[Cf] at hp';obtain⟨h1,h2,h3⟩:=hp';have h2:=of_decide_eq_true h2
 have S0:p≤i:=by
  rcases Nat.lt_or_ge i p with h|h
  ·have:=h3 i h;simp at this
  ·exact h
 refine⟨p,hp,S0,⟨h1,h2.symm⟩,?_⟩;constructor
 ·rintro rfl hm;obtain⟨j,hj,e⟩:=(zaQ hi).1 hm;have:=h3 j hj;simp [e] at this
 ·intro hm;rcases Nat.lt_or_ge p i with h|h
  ·exact absurd ((zaQ hi).2 ⟨p,h,h2.symm⟩) hm
  ·omega
theorem zxq {l:List Int} {sp:List Value} {p:Nat} (h:p<l.length):(l.map (Yd .i64)++sp)[p]? =some (.int .i64 l[p]):=by
 rw[List.getElem?_append_left (by simpa using h),List.getElem?_map,Xe h];rfl
theorem zqf {l:List Int} (X1:l.length≤2000000) {G:zb} {H:za} {R:Value→zb→za→Prop} {v:Value} (hv:Sl G (Yd .i64) v l)
  (hR: ∀G' v',PLe G G'→Sep G' (zm H)→Sl G' (Yd .i64) v' (zd l)→R v' G' H):FnT Tryz.prog 114 [v] G H R:=by
 have Q8:=hv;obtain⟨a,cap,rfl,U0,D5⟩:=hv;refine FnT.sep ?_;refine Ee tok kp3 Tryz.func114 rfl Kk Kk Kn fun M0=>?_;rw[Tryz.results114];have hE:=M0;try simp only[zzs] at hE
 repeat(obtain⟨J0,hE⟩:=hE)
 repeat' first
  |with_reducible first|refine Zd ?_ |refine Ae (fun _=>?_) fun _=>?_ |refine Nb fun nb A0 C0 B0=>?_ |refine Nr fun nb D0 E0 A0 I0 C0 B0=>?_
  |simp -dsimp -implicitDefEqProofs (disch:=first|exact Kd|fail) only[go_sem,↓reduceIte,seval]
 refine Je tok kp3 Kk [0,2,3,4,5] (fun q G' fr H'=> ∃ (i b c:Nat) (sp:List Value),i+q=l.length∧i+sp.length=c∧G'=G∧H'=(b, .cells ((zd (l.take i)).map (Yd .i64)) sp 3)::H∧fr=[(0, .slice a l.length cap),(2, .slice none 0 0),(3, .slice (some ⟨b,0,none⟩) i c),(4, .int .i64 (zl (l.take i)).length),(5, .int .i64 i)]) (l.length) ?_ ?_
 ·exact Ce ⟨0,nb,0,[],by omega,rfl,rfl,rfl,rfl⟩
 ·rintro q G1 fr H' S0 hs ⟨i,b,c,sp,hi,hc,rfl,rfl,rfl⟩;have hE:=hs;try simp only[zzs] at hE
  repeat(obtain⟨J0,hE⟩:=hE)
  have C1:(zd (l.take i)).length=i:=by rw[zt,Ge];omega
  have L3:=zZ (l.take i);rw[Ge] at L3;by_cases Y0:i<l.length
  ·have B3:Adr a:=U0.adr (by rw[Be];omega);have B2:=Re Y0;obtain⟨p,hp,hpi,⟨J3,hpe⟩,A5⟩:=zaU Y0;have hff:=zB hp;by_cases W4:p=i
   ·have hn:=zbo fun hm=>(A5.1 W4) ((zK _).1 hm);have I4:=zcw hn;rw[←B2] at I4;have T2:(zd (l.take (i+1))).map (Yd .i64)=(zd (l.take i)).map (Yd .i64)++[Yd .i64 (zl (l.take i)).length]:=by rw[I4.2,Ke];rfl
    repeat' first
     |with_reducible first|refine Zd ?_ |refine Ae (fun _=>?_) fun _=>?_ |refine Nb fun nb A0 C0 B0=>?_ |refine Nr fun nb D0 E0 A0 I0 C0 B0=>?_
     |simp -dsimp -implicitDefEqProofs (disch:=first|exact Kd|fail) only[go_sem,↓reduceIte,seval,Ie U0,Le,hff,W4]
     |with_reducible refine zlD l l[i] X1 Q8 ?_
    rw[←T2];refine Oe (H':=_) Ks (Ce ⟨q - 1,by omega,i+1,nb,E0,D0,by omega,by simp [C1] at I0⊢;omega,rfl,rfl,by rw[I4.1,Ve];rfl⟩)
   ·have Eb:l[i]∈l.take i:=Classical.not_not.1 fun h=>W4 (A5.2 h);obtain⟨n,hn⟩:=zaf ((zK _).2 Eb);have I4:=zcS hn;rw[←B2] at I4;have T2:(zd (l.take (i+1))).map (Yd .i64)=(zd (l.take i)).map (Yd .i64)++[Yd .i64 n]:=by rw[I4.2,Ke];rfl
    have hpp:p< (zd (l.take i)).length:=by omega
    have E6:=zxq (sp:=sp) hpp;rw[zbK (l:=l.take i) (i:=p) (by rw[Ge];omega),Ef,hpe,zB hn] at E6
    repeat' first
     |with_reducible first|refine Zd ?_ |refine Ae (fun _=>?_) fun _=>?_ |refine Nb fun nb A0 C0 B0=>?_ |refine Nr fun nb D0 E0 A0 I0 C0 B0=>?_
     |simp -dsimp -implicitDefEqProofs (disch:=first|exact Kd|fail) only[go_sem,↓reduceIte,seval,Ie U0,Le,hff,E6]
     |with_reducible refine zlD l l[i] X1 Q8 ?_
    rw[←T2];refine Oe (H':=_) Ks (Ce ⟨q - 1,by omega,i+1,nb,E0,D0,by omega,by simp [C1] at I0⊢;omega,rfl,rfl,by rw[I4.1];rfl⟩)
  ·obtain rfl:i=l.length:=by omega
   rw[Te] at C1⊢
   repeat' first
    |with_reducible first|refine Zd ?_ |refine Ae (fun _=>?_) fun _=>?_ |refine Nb fun nb A0 C0 B0=>?_ |refine Nr fun nb D0 E0 A0 I0 C0 B0=>?_
    |simp -dsimp -implicitDefEqProofs (disch:=first|exact Kd|fail) only[go_sem,↓reduceIte,seval]
   unfold zo;refine Oe (H':=(b, .cells ((zd l).map (Yd .i64)) sp 3)::H) Ks (Jf Ka fun G2 Q0 R0 V1=>fun S0 hs=>hR G2 _ Q0 hs ⟨some ⟨b,0,none⟩,c,by rw[zt],V1,by rw[zt];omega⟩)
section plain
variable {α:Type} [DecidableEq α]
theorem zvh {l:List α} {i p:Nat} (hi:i<l.length) (h1: ∃h:p<l.length,l[p]=l[i]) (h2: ∀j (h:j<l.length),j<p→l[j]≠l[i]):place l l[i]=some p:=by
 obtain⟨hp,e⟩:=h1;unfold place;rw[Cf];exact⟨hp,by simp [e],fun j hj=>by have:=h2 j Ko hj;simp;exact fun e=>this e.symm⟩
end plain
theorem zj0 {d:Nat} {t e n:Nat} {k:IntKind} (ht:(T t).k= .arr n e) (he:(T e).k= .int k) (hs:(T e).size=1) {xs ys:List Int} (hx:xs.length=n) (hy:ys.length=n):
  eqT T (d+2) t (.agg (xs.map (Yd k)).toArray) (.agg (ys.map (Yd k)).toArray)=some (decide (xs=ys)):=by
 have:=zhw (T:=T) (d:=d) he hs xs ys [] [] Ko rfl;simp only[List.length_nil,Af] at this;unfold eqT;simp only[ht,he,TK.known,if_true,←hx,Ye];exact this
abbrev u8L (l:List Int):List Value:=l.map (Yd .u8)
abbrev zb4 (l:List Int):Value:= .agg (u8L l).toArray
theorem zte {l:List Int} {i:Nat} (h:i<l.length) (sp:List Value):(u8L l++sp)[i]? =some (.int .u8 l[i]):=by
 rw[List.getElem?_append_left (by simpa using h),List.getElem?_map,Xe h];rfl
theorem he8:zfa T 5 (Yd .u8):=zkL (T:=T) (t:=5) rfl
theorem znX {l:List Int} {b1 i:Nat} (hl:l.length=256) (hi:i<l.length) {G:zb} {H:za} {R:Value→zb→za→Prop}
  (Z2:G b1=none) (hf:zq H b1=some (.cells (u8L l) [] 22)) (hR:R (.int .u8 l[i]) G H):FnT Tryz.prog 86 [.int .i64 (i:Nat), .pointer (some ⟨b1,0,none⟩)] G H R:=by
 have E6:=zte hi [];rw[Bf] at E6;refine Ee tok [0,1,3] Tryz.func86 rfl Kk Kk Kn fun M0=>?_;rw[Tryz.results86];have hE:=M0;try simp only[zzs] at hE
 repeat(obtain⟨J0,hE⟩:=hE)
 repeat' first
  |with_reducible first|refine Zd ?_ |refine Ae (fun _=>?_) fun _=>?_
  |simp -dsimp -implicitDefEqProofs (disch:=first|exact Kd|fail) only[go_sem,↓reduceIte,seval, -He,hf,E6,Bf]
 all_goals refine De ?_ hR ?_
 any_goals first|exact Ks|skip
 rfl
theorem zea {n:Nat} (h:n<256):IntKind.u8.wrap (n:Int)=n:=by
 simp only[IntKind.wrap,IntKind.bits,IntKind.signed];simp;omega
def zcC (l:List Int) (i:Nat):List Int:=zd (l.take i)++Fe (256 - i) 0
theorem ziG {l:List Int} (hl:l.length=256) {i:Nat} (hi:i≤256):(zcC l i).length=256:=by
 unfold zcC;rw[Ve,zt,Ge,We];omega
theorem zml {l:List Int} (hl:l.length=256) {i:Nat} (hi:i<256) {n:Int} (h:zd (l.take (i+1))=zd (l.take i)++[n]):zf (u8L (zcC l i)) i [.int .u8 n]=u8L (zcC l (i+1)):=by
 have hn:(zd (l.take i)).length=i:=by rw[zt,Ge];omega
 unfold zf zcC u8L;rw[h,Ke,Ke,Ke,Ff,Ff,show 256 - i=(256 - (i+1))+1 by omega,List.replicate_succ];rw[Tf (by rw[Be];omega),Pe (by rw[Be];omega)];rw[List.drop_append,Gf (by rw[Be];simp;omega)];simp [hn]
theorem zkQ (l:List Int):Fe 256 (Yd .u8 0)=u8L (zcC l 0):=by
 unfold zcC u8L;rw[Se,znV,Af,Ff]
theorem ztf {l:List Int} (hl:l.length=256):zcC l 256=zd l:=by
 unfold zcC;rw[←hl,Te];simp
theorem zyq {l:List Int} (hl:l.length=256) {b1:Nat} {G:zb} {H:za} {R:Value→zb→za→Prop} (Z2:G b1=none) (hf:zq H b1=some (.cells (u8L l) [] 22))
  (hR:R (.tuple #[zb4 (zd l), .int .i64 (zl l).length]) G H):FnT Tryz.prog 85 [.func (.func 86) #[] #[.pointer (some ⟨b1,0,none⟩)]] G H R:=by
 refine Ee tok kp4 Tryz.func85 rfl Kk Kk Kn fun M0=>?_;rw[Tryz.results85];have hE:=M0;try simp only[zzs] at hE
 repeat(obtain⟨J0,hE⟩:=hE)
 repeat' first
  |with_reducible first|refine Zd ?_ |refine Ae (fun _=>?_) fun _=>?_ |refine zaF.mk (fun _ _=>?_) fun _=>?_ |refine Nb fun nb A0 C0 B0=>?_ |refine Nr fun nb D0 E0 A0 I0 C0 B0=>?_
  |simp -dsimp -implicitDefEqProofs (disch:=first|exact Kd|fail) only[go_sem,↓reduceIte,seval, -He]
 rename_i b2 Ec J8 A8 b4 hb40 Fc Wb;revert nb;intro bm hbm hbm1 hbm2;have n2:=zU.neFind A8 hf;have n4:=zU.neFind Wb.2 hf;have nm:=zU.neFind hbm2.2.2 hf;rw[zkQ l];refine Je tok kp4 Kk [0,2,3,4,5,11] (fun q G' fr H'=> ∃ (i:Nat),i+q=256∧G'=G∧H'=(bm, .map ((zb3 0 (zl (l.take i))).map fun p=>((Yd .u8) p.1,Yd .u8 p.2))):: (b4, .cells (u8L (zcC l i)) [] 22):: (b2, .cells (u8L (zcC l 0)) [] 22)::H∧fr=[(0, .func (.func 86) #[] #[.pointer (some ⟨b1,0,none⟩)]),(2, .pointer (some ⟨b2,0,none⟩)),(3, .int .i64 0),(4, .pointer (some ⟨b4,0,none⟩)),(5, .map (some bm)),(11, .int .i64 i)]) (256) ?_ ?_
 ·exact Ce ⟨0,by omega,rfl,rfl,rfl⟩
 ·rintro q G1 fr H' S0 hs ⟨i,hi,rfl,rfl,rfl⟩;have hE:=hs;try simp only[zzs] at hE
  repeat(obtain⟨J0,hE⟩:=hE)
  have L3:=zZ (l.take i);rw[Ge] at L3;have h8:(zcC l i).length=256:=ziG hl Ko;by_cases Y0:i<256
  ·have Vc:i<l.length:=by omega
   have B2:=Re Vc;have hw:=zea (n:=(zl (l.take i)).length) Ko;rcases hp:place (zl (l.take i)) l[i] with _|n
   ·have I4:=zcw hp;rw[←B2] at I4;have M3:=zml hl Y0 I4.2
    repeat' first
     |with_reducible first|refine Zd ?_ |refine Ae (fun _=>?_) fun _=>?_ |refine zaF.mk (fun _ _=>?_) fun _=>?_ |refine Nb fun nb A0 C0 B0=>?_ |refine Nr fun nb D0 E0 A0 I0 C0 B0=>?_
     |simp -dsimp -implicitDefEqProofs (disch:=first|exact Kd|fail) only[go_sem,↓reduceIte,seval, -He,zck he8 (Yd .u8),zcl he8,zcm,Ze,zcO he8 (Yd .u8),zdi,hp,Be,zcQ,hw,M3]
     |with_reducible refine znX hl Vc Ka ?_ ?_
     |exact hf
    rw[←I4.1];exact Ce ⟨q - 1,by omega,i+1,by omega,rfl,rfl,rfl⟩
   ·have I4:=zcS hp;rw[←B2] at I4;have M3:=zml hl Y0 I4.2
    repeat' first
     |with_reducible first|refine Zd ?_ |refine Ae (fun _=>?_) fun _=>?_ |refine zaF.mk (fun _ _=>?_) fun _=>?_ |refine Nb fun nb A0 C0 B0=>?_ |refine Nr fun nb D0 E0 A0 I0 C0 B0=>?_
     |simp -dsimp -implicitDefEqProofs (disch:=first|exact Kd|fail) only[go_sem,↓reduceIte,seval, -He,zck he8 (Yd .u8),zcl he8,zcm,Ze,zcO he8 (Yd .u8),zdi,hp,Be,zcQ,M3]
     |with_reducible refine znX hl Vc Ka ?_ ?_
     |exact hf
    exact Ce ⟨q - 1,by omega,i+1,by omega,rfl,by rw[I4.1],rfl⟩
  ·obtain rfl:i=256:=by omega
   have C1:(zd l).length=256:=by rw[zt,hl]
   have Fb:Hf 256 (u8L (zd l))=u8L (zd l):=Pe (by rw[Be,C1];omega);have h80:(zcC l 0).length=256:=ziG hl Ko
   have Kb:zf (u8L (zcC l 0)) 0 (u8L (zd l))=u8L (zd l):=by
    unfold zf;rw[Se,Af,Gf (by simp [C1,h80]),Bf]
   have h256:Hf 256 l=l:=Pe Ko;rw[ztf hl,h256]
   repeat' first
    |with_reducible first|refine Zd ?_ |refine Ae (fun _=>?_) fun _=>?_ |refine zaF.mk (fun _ _=>?_) fun _=>?_ |refine Nb fun nb A0 C0 B0=>?_ |refine Nr fun nb D0 E0 A0 I0 C0 B0=>?_
    |simp -dsimp -implicitDefEqProofs (disch:=first|exact Kd|fail) only[go_sem,↓reduceIte,seval, -He,Fb,Be,C1,h80,Kb,zcQ]
   all_goals refine De ?_ hR ?_
   any_goals first|exact Ks|skip
   rfl
theorem zlE {l:List Int} (hl:l.length=256) {G:zb} {H:za} {R:Value→zb→za→Prop}
  (hR:R (.tuple #[zb4 (zd l), .int .i64 (zl l).length]) G H):FnT Tryz.prog 53 [zb4 l] G H R:=by
 have C1:(zd l).length=256:=by rw[zt,hl]
 have h80:(zcC l 0).length=256:=ziG hl Ko
 have Kb:zf (u8L (zcC l 0)) 0 (u8L (zd l))=u8L (zd l):=by
  unfold zf;rw[Se,Af,Gf (by simp [C1,h80]),Bf]
 have Fb:Hf 256 (u8L (zd l))=u8L (zd l):=Pe (by rw[Be,C1];omega);refine Ee tok kp5 Tryz.func53 rfl Kk Kk Kn fun M0=>?_;rw[Tryz.results53];have hE:=M0;try simp only[zzs] at hE
 repeat(obtain⟨J0,hE⟩:=hE)
 repeat' first
  |with_reducible first|refine Zd ?_ |refine Ae (fun _=>?_) fun _=>?_ |refine Nb fun nb A0 C0 B0=>?_
  |simp -dsimp -implicitDefEqProofs (disch:=first|exact Kd|fail) only[go_sem,↓reduceIte,seval, -He,Ye,Be,hl,zkQ l,Kb,h80,C1,Fb]
  |with_reducible refine zyq hl Ka ?_ ?_
 all_goals refine De ?_ hR ?_
 any_goals first|exact Ks|skip
 rfl
theorem zvi {l:List Int} (hl:l.length=256) (w:Int) {G:zb} {H:za} {R:Value→zb→za→Prop}
  (hR:R (.bool (decide (zd l=l)&&decide (((zl l).length:Int)=w))) G H):FnT Tryz.prog 26 [zb4 l, .int .i64 w] G H R:=by
 have C1:(zd l).length=256:=by rw[zt,hl]
 have Kb:zf (Fe 256 (Yd .u8 0)) 0 (u8L (zd l))=u8L (zd l):=by
  unfold zf;rw[Se,Af,Gf (by rw[We,Be,C1];exact Qe _),Bf]
 have Fb:Hf 256 (u8L (zd l))=u8L (zd l):=Pe (by rw[Be,C1];omega);have Wc:Hf 256 (u8L l)=u8L l:=Pe (by rw[Be,hl];omega);have heq:eqT T 9 22 (zb4 (zd l)) (zb4 l)=some (decide (zd l=l)):=zj0 (d:=7) (t:=22) (e:=5) (n:=256) (k:= .u8) rfl rfl rfl C1 hl;refine Ee tok kp6 Tryz.func26 rfl Kk Kk Kn fun M0=>?_;rw[Tryz.results26];have hE:=M0;try simp only[zzs] at hE
 repeat(obtain⟨J0,hE⟩:=hE)
 repeat' first
  |with_reducible first|refine Zd ?_ |refine Ae (fun _=>?_) fun _=>?_ |refine Nb fun nb A0 C0 B0=>?_
  |simp -dsimp -implicitDefEqProofs (disch:=first|exact Kd|fail) only[go_sem,↓reduceIte,seval, -He,Ye,Be,hl,C1,Fb,Wc,Kb,heq,We]
  |with_reducible refine zlE hl ?_
 ·rename_i he;rw[decide_eq_true he,Bool.true_and] at hR;all_goals refine De ?_ hR ?_
  any_goals first|exact Ks|skip
  rfl
 ·rename_i he;rw[decide_eq_false he,Bool.false_and] at hR;all_goals refine De ?_ hR ?_
  any_goals first|exact Ks|skip
  rfl
def zfI (n:Nat):Bool:=decide (97≤n∧n≤122)||decide (65≤n∧n≤90)||decide (n=95)
def zf2 (n:Nat) (first:Bool):Bool:=if 48≤n∧n≤57 then !first else zfI n
theorem ztg: ∀c:Fin 256,zfI c.val=(decide (c.val=95)||(decide (97≤c.val|||32)&&decide (c.val|||32≤122))):=by decide+kernel
theorem zyr: ∀c:Fin 256,∀b:Bool,zf2 c.val b=(zfI c.val||(!b&&decide (48≤c.val)&&decide (c.val≤57))):=by decide+kernel
theorem zxr {x y:Nat} (hx:x<256) (hy:y<256):zay .or .u8 (x:Int) (y:Int)=((x|||y:Nat):Int):=by
 simp only[zay,BitVec.ofInt_natCast]
 have:(BitVec.ofNat IntKind.u8.bits x|||BitVec.ofNat IntKind.u8.bits y).toNat=x|||y:=by
  show(BitVec.ofNat 8 x|||BitVec.ofNat 8 y).toNat=x|||y;rw[BitVec.toNat_or,BitVec.toNat_ofNat,BitVec.toNat_ofNat,Kf Ko,Kf Ko]
 rw[this];have h2:x|||y<256:=show x|||y<2 ^ 8 from Nat.or_lt_two_pow Ko Ko;exact zea h2
theorem znY (n:Nat) (hn:n<256) {G:zb} {H:za} {R:Value→zb→za→Prop} (hR:R (.bool (zfI n)) G H):FnT Tryz.prog 122 [.int .u8 (n:Nat)] G H R:=by
 have ho:=zxr hn (y:=32) Ko;have hl:=ztg ⟨n,hn⟩;simp only[] at hl;generalize n|||32=m at ho hl;have ho':zay .or .u8 (n:Int) 32=(m:Int):=ho;rw[hl] at hR;refine Ee tok [0,2] Tryz.func122 rfl Kk Kk Kn fun M0=>?_;rw[Tryz.results122];have hE:=M0;try simp only[zzs] at hE
 repeat(obtain⟨J0,hE⟩:=hE)
 repeat' first
  |with_reducible first|refine Zd ?_ |refine Ae (fun _=>?_) fun _=>?_
  |simp -dsimp -implicitDefEqProofs (disch:=first|exact Kd|fail) only[go_sem,↓reduceIte,seval,ho']
 all_goals refine De ?_ hR ?_
 any_goals first|exact Ks|skip
 all_goals (simp only[Value.bool.injEq];rw[Lf];simp;omega)
def okS (s:List UInt8):Prop:= ∀i (h:i<s.length),zf2 s[i].toNat (decide (i=0))=true
noncomputable def zcD (s:List UInt8):Bool:= @decide (1≤s.length∧s.length≤32∧okS s) (Mf _)
theorem zfc {s:List UInt8}:zcD s=true↔1≤s.length∧s.length≤32∧okS s:=by unfold zcD;exact @decide_eq_true_iff _ (Mf _)
theorem zj1 {s:List UInt8} (h: ¬(1≤s.length∧s.length≤32∧okS s)):zcD s=false:=by
 cases hb:zcD s with
 |false=>rfl
 |true=>exact absurd (zfc.1 hb) h
theorem zzG (s:List UInt8) (X1:s.length≤2000000) {G:zb} {H:za} {R:Value→zb→za→Prop} (hR: ∀n:Nat,n≤s.length→(n=s.length↔okS s)→R (.int .i64 n) G H):FnT Tryz.prog 87 [str s] G H R:=by
  refine Ee tok kp7 Tryz.func87 rfl Kk Kk Kn fun M0=>?_;rw[Tryz.results87];have hE:=M0;try simp only[zzs] at hE
  repeat(obtain⟨J0,hE⟩:=hE)
  repeat' first
    |with_reducible first|refine Zd ?_ |refine Ae (fun _=>?_) fun _=>?_ |refine Nb fun nb A0 C0 B0=>?_
    |simp -dsimp -implicitDefEqProofs (disch:=first|exact Kd|fail) only[go_sem,↓reduceIte,seval]
  refine Je tok kp7 Kk [0,2,3] (fun q G' fr H'=> ∃i:Nat,i+q=s.length∧(∀j (h:j<s.length),j<i→zf2 s[j].toNat (decide (j=0))=true)∧G'=G∧H'=H∧fr=[(0,str s),(2, .int .i64 0),(3, .int .i64 i)]) (s.length) (Ce ?_) ?_
  · exact⟨0,by omega,fun j _ h=>by omega,rfl,rfl,rfl⟩
  · rintro q G' fr H' S0 hs ⟨i,hi,B1,rfl,rfl,rfl⟩;by_cases Y0:i<s.length
    · have hb:s[i].toNat<256:=s[i].toNat_lt;have hmay:=zyr ⟨s[i].toNat,hb⟩ (decide (i=0));simp only[] at hmay;cases hL:zfI s[i].toNat with
      |true=>
        have hm:zf2 s[i].toNat (decide (i=0))=true:=by rw[hmay,hL];rfl
        repeat' first
          |with_reducible first|refine Zd ?_ |refine Ae (fun _=>?_) fun _=>?_ |refine Nb fun nb A0 C0 B0=>?_
          |simp -dsimp -implicitDefEqProofs (disch:=first|exact Kd|fail) only[go_sem,↓reduceIte,seval,hL]
          |with_reducible refine znY _ hb ?_
        exact Ce ⟨q - 1, by omega, i + 1, by omega, fun j h hj => by
            by_cases e:j=i
            · subst e;exact hm
            · exact B1 j h Ko,rfl,rfl,rfl⟩
      |false=>
        rw[hL,Bool.false_or] at hmay;have hmp:zf2 s[i].toNat (decide (i=0))=true↔(i≠0∧48≤s[i].toNat)∧s[i].toNat≤57:=by rw[hmay];simp
        repeat' first
          |with_reducible first|refine Zd ?_ |refine Ae (fun _=>?_) fun _=>?_ |refine Nb fun nb A0 C0 B0=>?_
          |simp -dsimp -implicitDefEqProofs (disch:=first|exact Kd|fail) only[go_sem,↓reduceIte,seval,hL]
          |with_reducible refine znY _ hb ?_
        all_goals first
          | (have hm:zf2 s[i].toNat (decide (i=0))=true:=hmp.2 Ko
             exact Ce ⟨q - 1,by omega,i+1,by omega,fun j h hj=>by
            by_cases e:j=i
            · subst e;exact hm
            · exact B1 j h Ko,rfl,rfl,rfl⟩)
          | (have hm : ¬ zf2 s[i].toNat (decide (i = 0)) = true := fun h => by
               have:=hmp.1 h;omega
             exact De Ks (hR i Ko ⟨fun e=>by omega,fun K0=>absurd (K0 i Y0) hm⟩) rfl)
    · obtain rfl:i=s.length:=by omega
      repeat' first
        |with_reducible first|refine Zd ?_ |refine Ae (fun _=>?_) fun _=>?_ |refine Nb fun nb A0 C0 B0=>?_
        |simp -dsimp -implicitDefEqProofs (disch:=first|exact Kd|fail) only[go_sem,↓reduceIte,seval]
      all_goals refine De ?_ (hR s.length (Qe _) ⟨fun _ j h=>B1 j h h,fun _=>rfl⟩) ?_
      any_goals first|exact Ks|skip
      rfl
theorem zys (s:List UInt8) (X1:s.length≤2000000) {G:zb} {H:za} {R:Value→zb→za→Prop} (hR:R (.bool (zcD s)) G H):FnT Tryz.prog 54 [str s] G H R:=by
  by_cases h1:1≤s.length
  · have M1:s≠[]:=fun e=>by subst e;simp at h1
    by_cases h2:s.length≤32
    · refine Ee tok [0,2] Tryz.func54 rfl Kk Kk Kn fun M0=>?_;rw[Tryz.results54];have hE:=M0;try simp only[zzs] at hE
      repeat(obtain⟨J0,hE⟩:=hE)
      repeat' first
        |with_reducible first|refine Zd ?_ |refine Ae (fun _=>?_) fun _=>?_
        |simp -dsimp -implicitDefEqProofs (disch:=first|exact Kd|fail) only[go_sem,↓reduceIte,seval]
        |with_reducible refine zzG s X1 fun n hn K0=>?_
      all_goals first
        |exact absurd Ka M1
        | (refine De Ks hR ?_
           simp only[Value.bool.injEq];rw[Lf,zfc,decide_eq_true_eq,←K0];omega)
        | (exfalso;omega)
    · rw[zj1 fun h=>h2 h.2.1] at hR;refine Ee tok [0,2] Tryz.func54 rfl Kk Kk Kn fun M0=>?_;rw[Tryz.results54];have hE:=M0;try simp only[zzs] at hE
      repeat(obtain⟨J0,hE⟩:=hE)
      repeat' first
        |with_reducible first|refine Zd ?_ |refine Ae (fun _=>?_) fun _=>?_
        |simp -dsimp -implicitDefEqProofs (disch:=first|exact Kd|fail) only[go_sem,↓reduceIte,seval]
      all_goals try(exfalso;omega)
      all_goals refine De ?_ hR ?_
      any_goals first|exact Ks|skip
      all_goals rfl
  · rw[zj1 fun h=>h1 h.1] at hR;obtain rfl:s=[]:=Df Ko;refine Ee tok [0,2] Tryz.func54 rfl Kk Kk Kn fun M0=>?_;rw[Tryz.results54];have hE:=M0;try simp only[zzs] at hE
    repeat(obtain⟨J0,hE⟩:=hE)
    repeat' first
      |with_reducible first|refine Zd ?_ |refine Ae (fun _=>?_) fun _=>?_
      |simp -dsimp -implicitDefEqProofs (disch:=first|exact Kd|fail) only[go_sem,↓reduceIte,seval]
    all_goals try(rename_i B1;exact absurd rfl B1)
    all_goals refine De ?_ hR ?_
    any_goals first|exact Ks|skip
    all_goals rfl
theorem zqg (l:List (List UInt8)) (x:List UInt8) (X1:l.length≤2000000) {G:zb} {H:za} {R:Value→zb→za→Prop} {v:Value} (hv:Sl G str v l) (hR:R (.int .i64 (zw l x)) G H):FnT Tryz.prog 88 [v,str x] G H R:=by
 obtain⟨a,cap,rfl,U0,D5⟩:=hv;refine Ee tok kp8 Tryz.func88 rfl Kk Kk Kn fun M0=>?_;rw[Tryz.results88];have hE:=M0;try simp only[zzs] at hE
 repeat(obtain⟨J0,hE⟩:=hE)
 repeat' first
  |with_reducible first|refine Zd ?_ |refine Ae (fun _=>?_) fun _=>?_ |refine Nb fun nb A0 C0 B0=>?_
  |simp -dsimp -implicitDefEqProofs (disch:=first|exact Kd|fail) only[go_sem,↓reduceIte,seval]
 refine Je tok kp8 Kk [0,1,4,7,8] (fun n G' fr H'=> ∃i:Nat,i+n=l.length∧(∀j (h:j<l.length),j<i→l[j]≠x)∧G'=G∧H'=H∧fr=[(0, .slice a l.length cap),(1,str x),(4, .int .i64 0),(7, .int .i64 l.length),(8, .int .i64 i)]) (l.length) (Ce ?_) ?_
 ·exact⟨0,by omega,fun j _ h=>by omega,rfl,rfl,rfl⟩
 ·rintro n G' fr H' S0 hs ⟨i,hi,B1,rfl,rfl,rfl⟩;by_cases Y0:i<l.length
  ·have B3:Adr a:=U0.adr (by rw[Be];omega)
   repeat' first
    |with_reducible first|refine Zd ?_ |refine Ae (fun _=>?_) fun _=>?_ |refine Nb fun nb A0 C0 B0=>?_
    |simp -dsimp -implicitDefEqProofs (disch:=first|exact Kd|fail) only[go_sem,↓reduceIte,seval,Ie U0,Le]
   ·rename_i he
    have hp:place l x=some i:=by
     unfold place;rw[Cf];exact⟨Y0,by simp [he],fun j hj=>by have:=B1 j Ko hj;simp;exact fun e=>this e.symm⟩
    rw[zB hp] at hR;all_goals refine De ?_ hR ?_
    any_goals first|exact Ks|skip
    rfl
   ·rename_i he
    exact Ce ⟨n - 1,by omega,i+1,by omega,fun j h hj=>by
     by_cases e:j=i
     ·subst e;exact fun e=>he e.symm
     ·exact B1 j h Ko,rfl,rfl,rfl⟩
  ·obtain rfl:i=l.length:=by omega
   have hp:place l x=none:=zbo fun hm=>by
    obtain⟨j,hj,e⟩:=Ue hm;exact B1 j hj hj e
   rw[zbp hp] at hR
   repeat' first
    |with_reducible first|refine Zd ?_ |refine Ae (fun _=>?_) fun _=>?_ |refine Nb fun nb A0 C0 B0=>?_
    |simp -dsimp -implicitDefEqProofs (disch:=first|exact Kd|fail) only[go_sem,↓reduceIte,seval]
   all_goals refine De ?_ hR ?_
   any_goals first|exact Ks|skip
   rfl
theorem zhL (l:List (List UInt8)) (x:List UInt8) (X1:l.length≤2000000) {G:zb} {H:za} {R:Value→zb→za→Prop} {v:Value} (hv:Sl G str v l) (hR:R (.bool (decide (x∈l))) G H):FnT Tryz.prog 55 [v,str x] G H R:=by
 have Q8:=hv;obtain⟨a,cap,rfl,U0,D5⟩:=hv;refine Ee tok [0,1,4] Tryz.func55 rfl Kk Kk Kn fun M0=>?_;rw[Tryz.results55];have hE:=M0;try simp only[zzs] at hE
 repeat(obtain⟨J0,hE⟩:=hE)
 repeat' first
  |with_reducible first|refine Zd ?_ |refine Ae (fun _=>?_) fun _=>?_
  |simp -dsimp -implicitDefEqProofs (disch:=first|exact Kd|fail) only[go_sem,↓reduceIte,seval]
  |with_reducible refine zqg l x X1 Q8 ?_
 all_goals refine De ?_ hR ?_
 any_goals first|exact Ks|skip
 simp only[Value.bool.injEq];rw[Lf,decide_eq_true_eq,decide_eq_true_eq];constructor
 ·intro h;cases hp:place l x with
  |none=>rw[zbp hp] at h;omega
  |some n=>
   obtain⟨h1,h2⟩:=zaa hp;rw[Xe h1,Option.some.injEq] at h2;exact h2▸Me h1
 ·intro h;obtain⟨n,hn⟩:=zaf h;rw[zB hn];omega
def zaR (l:List (List UInt8)):Prop:=l.length≤64∧ ∀i (h:i<l.length),zcD l[i]=true∧l[i]∉l.take i
noncomputable def zaz (p:Prop):Bool:= @decide p (Mf p)
theorem zcn {p:Prop}:zaz p=true↔p:=by unfold zaz;exact @decide_eq_true_iff p (Mf p)
theorem zA {p:Prop} (h:p):zaz p=true:=zcn.2 h
theorem zu {p:Prop} (h: ¬p):zaz p=false:=by
 cases hb:zaz p with
 |false=>rfl
 |true=>exact absurd (zcn.1 hb) h
theorem zxs (l:List (List UInt8)) (X1:l.length≤2000000) (hstr: ∀s∈l,s.length≤2000000) {G:zb} {H:za} {R:Value→zb→za→Prop} {v:Value} (hv:Sl G str v l) (hR:R (.bool (zaz (zaR l))) G H):FnT Tryz.prog 27 [v] G H R:=by
 obtain⟨a,cap,rfl,U0,D5⟩:=hv;by_cases h64:l.length≤64
 ·refine Ee tok kp9 Tryz.func27 rfl Kk Kk Kn fun M0=>?_;rw[Tryz.results27];have hE:=M0;try simp only[zzs] at hE
  repeat(obtain⟨J0,hE⟩:=hE)
  repeat' first
   |with_reducible first|refine Zd ?_ |refine Ae (fun _=>?_) fun _=>?_ |refine Nb fun nb A0 C0 B0=>?_
   |simp -dsimp -implicitDefEqProofs (disch:=first|exact Kd|fail) only[go_sem,↓reduceIte,seval]
  refine Je tok kp9 Kk [0,2,8,9,10] (fun n G' fr H'=> ∃i:Nat,i+n=l.length∧(∀j (h:j<l.length),j<i→zcD l[j]=true∧l[j]∉l.take j)∧G'=G∧H'=H∧fr=[(0, .slice a l.length cap),(2, .bool false),(8, .slice a l.length cap),(9, .int .i64 l.length),(10, .int .i64 i)]) (l.length) (Ce ?_) ?_
  ·exact⟨0,by omega,fun j _ h=>by omega,rfl,rfl,rfl⟩
  ·rintro n G' fr H' S0 hs ⟨i,hi,B1,rfl,rfl,rfl⟩;by_cases Y0:i<l.length
   ·have B3:Adr a:=U0.adr (by rw[Be];omega)
    have L6:Sl G' str (.slice (zbn a 0 cap 0) (i - 0) (cap - 0)) (l.take i):=⟨_,_,by rw[Ge,Nat.min_eq_left Ko];rfl,by
     have h1:=(Row.drop U0 (l:=0) (m:=cap) (s:=1) (fun e=>by rw[Be];omega)).take i;rw[List.map_take];exact h1,by rw[Ge];omega⟩
    have hsi:=hstr l[i] (Me Y0)
    repeat' first
     |with_reducible first|refine Zd ?_ |refine Ae (fun _=>?_) fun _=>?_ |refine Nb fun nb A0 C0 B0=>?_
     |simp -dsimp -implicitDefEqProofs (disch:=first|exact Kd|fail) only[go_sem,↓reduceIte,seval,Ie U0,Le]
     |with_reducible refine zys l[i] hsi ?_
     |with_reducible refine zhL (l.take i) l[i] (by rw[Ge];omega) L6 ?_
    ·rename_i hct;rw[zu fun h=>(h.2 i Y0).2 hct] at hR;all_goals refine De ?_ hR ?_
     any_goals first|exact Ks|skip
     rfl
    ·rename_i B5 hct
     exact Ce ⟨n - 1,by omega,i+1,by omega,fun j h hj=>by
      by_cases e:j=i
      ·subst e;exact⟨B5,hct⟩
      ·exact B1 j h Ko,rfl,rfl,rfl⟩
    ·rename_i B5;rw[zu fun h=>by have:=(h.2 i Y0).1;rw[B5] at this;cases this] at hR;all_goals refine De ?_ hR ?_
     any_goals first|exact Ks|skip
     rfl
   ·obtain rfl:i=l.length:=by omega
    rw[zA ⟨h64,fun i h=>B1 i h h⟩] at hR
    repeat' first
     |with_reducible first|refine Zd ?_ |refine Ae (fun _=>?_) fun _=>?_ |refine Nb fun nb A0 C0 B0=>?_
     |simp -dsimp -implicitDefEqProofs (disch:=first|exact Kd|fail) only[go_sem,↓reduceIte,seval]
    all_goals refine De ?_ hR ?_
    any_goals first|exact Ks|skip
    rfl
 ·rw[zu fun h=>h64 h.1] at hR;refine Ee tok kp9 Tryz.func27 rfl Kk Kk Kn fun M0=>?_;rw[Tryz.results27];have hE:=M0;try simp only[zzs] at hE
  repeat(obtain⟨J0,hE⟩:=hE)
  repeat' first
   |with_reducible first|refine Zd ?_ |refine Ae (fun _=>?_) fun _=>?_ |refine Nb fun nb A0 C0 B0=>?_
   |simp -dsimp -implicitDefEqProofs (disch:=first|exact Kd|fail) only[go_sem,↓reduceIte,seval]
  all_goals try(exfalso;omega)
  all_goals refine De ?_ hR ?_
  any_goals first|exact Ks|skip
  rfl
structure DfaT where
 of:List Int
 width:Int
 next:List (List Int)
 label:List Int
 names:List (List UInt8)
def SlS (G:zb) (v:Value) (xss:List (List Int)):Prop:= ∃a cap vs,v= .slice a xss.length cap∧Row G a vs∧vs.length=xss.length∧xss.length≤cap∧ ∀i (h:i<xss.length) (h2:i<vs.length),∃b c,vs[i]= .slice b xss[i].length c∧Row G b (xss[i].map (Yd .i64))∧xss[i].length≤c
theorem SlS.mono {G G':zb} (S0:PLe G G') {v:Value} {xss:List (List Int)} (h:SlS G v xss):SlS G' v xss:=by
 obtain⟨a,cap,vs,h1,h2,h3,h4,h5⟩:=h;refine⟨a,cap,vs,h1,h2.mono S0,h3,h4,fun i h h'=>?_⟩;obtain⟨b,c,e1,e2,e3⟩:=h5 i h h';exact⟨b,c,e1,e2.mono S0,e3⟩
def zc (d:DfaT) (vn vl vs:Value):List Value:=u8L d.of++[.int .i64 d.width,vn,vl,vs]
def IsD (G:zb) (d:DfaT) (v:Value):Prop:=d.of.length=256∧(∀x∈d.of,0≤x∧x≤255)∧ ∃vn vl vs,v= .agg (zc d vn vl vs).toArray∧SlS G vn d.next∧Sl G (Yd .i64) vl d.label∧Sl G str vs d.names
theorem IsD.mono {G G':zb} (S0:PLe G G') {d:DfaT} {v:Value} (h:IsD G d v):IsD G' d v:=by
 obtain⟨h1,h2,vn,vl,vs,h3,h4,h5,h6⟩:=h;exact⟨h1,h2,vn,vl,vs,h3,h4.mono S0,h5.mono S0,h6.mono S0⟩
def zr (d:DfaT):Prop:=d.next.length≤2000000∧(∀r∈d.next,r.length≤2000000)∧d.label.length≤2000000∧d.names.length≤2000000∧ ∀s∈d.names,s.length≤2000000
theorem zN {d:DfaT} (h:d.of.length=256) (vn vl vs:Value):(zc d vn vl vs).length=260:=by unfold zc;rw[Ve,Be,h];rfl
theorem zj2 {d:DfaT} (h:d.of.length=256) (vn vl vs:Value):(zc d vn vl vs)[256]? =some (.int .i64 d.width):=by unfold zc;rw[Nf (by rw[Be,h];omega),Be,h];rfl
theorem zcx {d:DfaT} (h:d.of.length=256) (vn vl vs:Value):(zc d vn vl vs)[257]? =some vn:=by unfold zc;rw[Nf (by rw[Be,h];omega),Be,h];rfl
theorem zbz {d:DfaT} (h:d.of.length=256) (vn vl vs:Value):(zc d vn vl vs)[258]? =some vl:=by unfold zc;rw[Nf (by rw[Be,h];omega),Be,h];rfl
theorem znZ {d:DfaT} (h:d.of.length=256) (vn vl vs:Value):(zc d vn vl vs)[259]? =some vs:=by unfold zc;rw[Nf (by rw[Be,h];omega),Be,h];rfl
theorem zth {d:DfaT} (h:d.of.length=256) (vn vl vs:Value):(zc d vn vl vs).take 256=u8L d.of:=by unfold zc;rw[Tf (by rw[Be,h];omega),Pe (by rw[Be,h];omega)]
theorem zbQ {d:DfaT} (h:d.of.length=256) (vn vl vs:Value):(zc d vn vl vs).take 260=zc d vn vl vs:=Pe (by rw[zN h];omega)
open Go Go.V Go.Proofs Go.ChangeShapes Go.WideShapes Go.RowKit
section
variable {H:Type} {enc:TypeId×Value→H} {W:World} {held:Bool} {sp:Nat→Bool}
theorem zqh {l:List (DataW H)} {i:Nat} (h:i<l.length):zaw l[i]≤bulkVs l:=by
 induction l generalizing i with
 |nil=>cases h
 |cons d l ih=>
  cases i with
  |zero=>simp only[Qf,bulkVs];omega
  |succ i=>
   have:=ih (i:=i) (by simpa using h);simp only[List.getElem_cons_succ,bulkVs];omega
theorem zn0 {n:Nat} {cs:List Value} {x:DataW H×List MemPlace} (h:DataW.trod enc Tryz.prog W 0 sp held n 24 cs=some x):
  ∃ (a:Option Addr) (cap:Nat) (xs:List Int),cs=[.slice a xs.length cap]∧Row (fun b=>W.heap[b]?) a (xs.map (Yd .i64))∧xs.length≤cap∧xs.length+1≤zaw x.1:=by
 obtain⟨d1,hd1,hf1⟩:=tok.und (t:=24) (k:= .slice 3) rfl (by simp);simp only[TK.fits] at hf1;subst hf1
 obtain⟨a,cap,ds,xs,h1,h2,h3,h4,h5,h6⟩:=ziC hd1 (m:=1) Kk Ko (fun n:Int=>[Yd .i64 n]) (fun d _=>1≤zaw d) (fun n cs y hl hy=>by
  obtain⟨z,e,_,_,hb⟩:=zlz tok (t:=3) (k:= .i64) rfl hy;exact⟨z,e,by omega⟩) h
 refine⟨a,cap,xs,h1,by rw[List.map_eq_flatMap];exact h3,h2,?_⟩
 have:=zhG ds fun d hd=>by
  obtain⟨i,hi,rfl⟩:=Ue hd;exact h5 i hi Ko
 omega
theorem zvj {n:Nat} {cs:List Value} {x:DataW H×List MemPlace} (h:DataW.trod enc Tryz.prog W 0 sp held n 25 cs=some x):
  ∃ (a:Option Addr) (cap:Nat) (xs:List (List UInt8)),cs=[.slice a xs.length cap]∧Row (fun b=>W.heap[b]?) a (xs.map str)∧xs.length≤cap∧xs.length+1≤zaw x.1∧ ∀s∈xs,s.length≤zaw x.1:=by
 obtain⟨d1,hd1,hf1⟩:=tok.und (t:=25) (k:= .slice 9) rfl (by simp);simp only[TK.fits] at hf1;subst hf1
 obtain⟨a,cap,ds,xs,h1,h2,h3,h4,h5,h6⟩:=ziC hd1 (m:=1) Kk Ko (fun s:List UInt8=>[str s]) (fun d s=>s.length+1≤zaw d) (fun n cs y hl hy=>by
  obtain⟨s,e,hb⟩:=zxk tok (t:=9) rfl hy;exact⟨s,e,by omega⟩) h
 refine⟨a,cap,xs,h1,by rw[List.map_eq_flatMap];exact h3,h2,?_,fun s hs=>?_⟩
 ·have:=zhG ds fun d hd=>by
   obtain⟨i,hi,rfl⟩:=Ue hd;have:=h5 i hi Ko;omega
  omega
 ·obtain⟨i,hi,rfl⟩:=Ue hs;have h7:=h5 i Ko hi;have h8:=zqh (l:=ds) (i:=i) Ko;omega
theorem zvk {n:Nat} {cs:List Value} {x:DataW H×List MemPlace} (h:DataW.trod enc Tryz.prog W 0 sp held n 23 cs=some x):
  ∃ (v:Value) (xss:List (List Int)),cs=[v]∧SlS (fun b=>W.heap[b]?) v xss∧xss.length+1≤zaw x.1∧ ∀r∈xss,r.length≤zaw x.1:=by
 obtain⟨d1,hd1,hf1⟩:=tok.und (t:=23) (k:= .slice 24) rfl (by simp);simp only[TK.fits] at hf1;subst hf1
 obtain⟨a,cap,rows,ds,spare,xs,h1,h2,h3,h4,h5,h6,h7⟩:=znT hd1 (m:=1) Kk Ko (fun cs d (r:List Int)=> ∃b c,cs=[.slice b r.length c]∧Row (fun b=>W.heap[b]?) b (r.map (Yd .i64))∧r.length≤c∧r.length+1≤zaw d) (fun n cs y hl hy=>by
  obtain⟨b,c,r,e,g1,g2,g3⟩:=zn0 hy;exact⟨r,b,c,e,g1,g2,g3⟩) h
 have B9:rows.flatten.length=rows.length:=by
  have: ∀l:List (List Value),(∀i (h:i<l.length),l[i].length=1)→l.flatten.length=l.length:=fun l=>by
   induction l with
   |nil=>intro _;rfl
   |cons r l ih=>
    intro hh;have h0:=hh 0 (by simp);have:=ih fun i hi=>by have:=hh (i+1) (by simp;omega);simpa using this
    simp only[List.flatten_cons,Ve,List.length_cons,Qf] at h0⊢;omega
  exact this rows fun i hi=>(h6 i hi Ko Ko).1
 have hfg: ∀i (h:i<rows.length),rows[i]=[rows.flatten[i]'Ko]:=by
  have: ∀l:List (List Value),(∀i (h:i<l.length),l[i].length=1)→ ∀i (h:i<l.length) (h2:i<l.flatten.length),l[i]=[l.flatten[i]]:=fun l=>by
   induction l with
   |nil=>intro _ i h;cases h
   |cons r l ih=>
    intro hh i hi h2;have h0:=hh 0 (by simp);simp only[Qf] at h0
    match r,h0 with
    | [v],_=>
     cases i with
     |zero=>simp
     |succ i=>
      have:=ih (fun i hi=>by have:=hh (i+1) (by simp;omega);simpa using this) i (by simpa using hi) (by simpa using h2);simpa using this
  exact fun i h=>this rows (fun i hi=>(h6 i hi Ko Ko).1) i h _
 refine⟨_,xs,h1,⟨a,cap,rows.flatten,rfl,h3,by omega,h2,fun i hi Da=>?_⟩,?_,fun r hr=>?_⟩
 ·obtain⟨_,b,c,e,g1,g2,_⟩:=h6 i Ko Ko hi;rw[hfg i Ko] at e;exact⟨b,c,by simpa using e,g1,g2⟩
 ·have:=zhG ds fun d hd=>by
   obtain⟨i,hi,rfl⟩:=Ue hd;obtain⟨_,b,c,e,g1,g2,g3⟩:=h6 i Ko hi Ko;omega
  omega
 ·obtain⟨i,hi,rfl⟩:=Ue hr;obtain⟨_,b,c,e,g1,g2,g3⟩:=h6 i Ko Ko hi;have:=zqh (l:=ds) (i:=i) Ko;omega
theorem zxt {n:Nat} {cs:List Value} (hl:cs.length=256) {x:DataW H×List MemPlace} (h:DataW.trod enc Tryz.prog W 0 sp held n 22 cs=some x):
  ∃xs:List Int,cs=xs.map (Yd .u8)∧ ∀x∈xs,0≤x∧x≤255:=by
 have key: ∀k,k≤256→ ∃xs:List Int,cs.take k=xs.map (Yd .u8)∧ ∀x∈xs,0≤x∧x≤255:=fun k=>by
  induction k with
  |zero=>intro _;exact⟨[],by simp,fun x hx=>by cases hx⟩
  |succ k ih=>
   intro hk;obtain⟨xs,h1,h2⟩:=ih Ko;obtain⟨q,y,hy,_⟩:=zxl tok (t:=22) (e:=5) (m:=256) rfl h (i:=k) Ko;rw[show Tryz.prog.cellsOf 5=1 by kernel_rfl] at hy;obtain⟨z,e,w0,w1,_⟩:=zlz tok (t:=5) (k:= .u8) rfl hy;have K2:k<cs.length:=by omega
   rw[Nat.mul_one,List.drop_eq_getElem_cons K2] at e;simp only[List.take_succ_cons,Se,List.cons.injEq,and_true] at e;refine⟨xs++[z],by rw[Re K2,h1,Ke,e];rfl,fun x hx=>?_⟩;rcases List.mem_append.1 hx with hx|hx
   ·exact h2 x hx
   ·rw[List.mem_singleton.1 hx];exact⟨w0,w1⟩
 obtain⟨xs,h1,h2⟩:=key 256 (Qe _);rw[Pe Ko] at h1;exact⟨xs,h1,h2⟩
set_option maxRecDepth 8000 in
theorem zyt {r:Reach} {b0:Nat} {v:Value} {dt:DataW H} {ps:List MemPlace}
  (P5:Value.okWide Tryz.prog W r b0 27 v) (h:DataW.Trod enc Tryz.prog W 0 sp held 27 v dt ps): ∃d:DfaT,IsD (fun b=>W.heap[b]?) d v∧(zaw dt≤1048576→zr d):=by
 obtain⟨d1,hd1,f,rfl,hf1⟩:=tok.und (t:=27) (k:= .struct [(0,22),(256,3),(257,23),(258,24),(259,25)]) rfl (by simp);obtain⟨C,rfl,hC⟩:=okWide_struct hd1 P5;rw[show Tryz.prog.cellsOf 27=260 by kernel_rfl] at hC;obtain⟨fuel,hf⟩:=h;have hC2:C.toList.length=260:=by simpa using hC
 have hf':DataW.trod enc Tryz.prog W 0 sp held fuel 27 C.toList=some (dt,ps):=hf;obtain⟨m0,y0,g0,w0⟩:=zfZ tok (t:=27) (fs:=[(0,22),(256,3),(257,23),(258,24),(259,25)]) rfl (i:=0) rfl hf';obtain⟨m1,y1,g1,w1⟩:=zfZ tok (t:=27) (fs:=[(0,22),(256,3),(257,23),(258,24),(259,25)]) rfl (i:=1) rfl hf';obtain⟨m2,y2,g2,w2⟩:=zfZ tok (t:=27) (fs:=[(0,22),(256,3),(257,23),(258,24),(259,25)]) rfl (i:=2) rfl hf';obtain⟨m3,y3,g3,w3⟩:=zfZ tok (t:=27) (fs:=[(0,22),(256,3),(257,23),(258,24),(259,25)]) rfl (i:=3) rfl hf';obtain⟨m4,y4,g4,w4⟩:=zfZ tok (t:=27) (fs:=[(0,22),(256,3),(257,23),(258,24),(259,25)]) rfl (i:=4) rfl hf';rw[show Tryz.prog.cellsOf 22=256 by kernel_rfl] at g0;rw[show Tryz.prog.cellsOf 3=1 by kernel_rfl] at g1;rw[show Tryz.prog.cellsOf 23=1 by kernel_rfl] at g2;rw[show Tryz.prog.cellsOf 24=1 by kernel_rfl] at g3;rw[show Tryz.prog.cellsOf 25=1 by kernel_rfl] at g4;obtain⟨of,e0,hb0⟩:=zxt (by rw[Ge,Of,hC2];omega) g0;obtain⟨w,e1,_⟩:=zlz tok (t:=3) (k:= .i64) rfl g1;obtain⟨vn,next,e2,hn,hn1,Q4⟩:=zvk g2;obtain⟨al,cl,label,e3,hl,D4,Z0⟩:=zn0 g3;obtain⟨ay,cy,names,e4,hy,hy1,hy2,hy3⟩:=zvj g4;rw[List.drop_zero] at e0
 have R5:of.length=256:=by
  have:=congrArg List.length e0;rw[Ge,hC2,Be] at this;omega
 have split1: ∀ {k:Nat} {z:Value},k<260→(C.toList.drop k).take 1=[z]→C.toList.drop k=z::C.toList.drop (k+1):=fun{k z} hk e=>by
  rw[List.drop_eq_getElem_cons Ko] at e⊢;simp only[List.take_succ_cons,Se,List.cons.injEq,and_true] at e;rw[e]
 have hCe:C.toList=zc ⟨of,w,next,label,names⟩ vn (.slice al label.length cl) (.slice ay names.length cy):=by
  rw[←List.take_append_drop 256 C.toList,e0,split1 Ko e1,split1 Ko e2,split1 Ko e3,split1 Ko e4,Gf Ko];rfl
 refine⟨⟨of,w,next,label,names⟩,⟨R5,hb0,vn,_,_,?_,hn,⟨al,cl,rfl,hl,D4⟩,⟨ay,cy,rfl,hy,hy1⟩⟩,fun N9=>?_⟩
 ·rw[←hCe]
 ·simp only[] at w0 w1 w2 w3 w4;refine⟨by show next.length≤_;omega,fun r hr=>by have:=Q4 r hr;omega,by show label.length≤_;omega,by show names.length≤_;omega,fun s hs=>by have:=hy3 s hs;omega⟩
end
def zrI (d:DfaT) (s:Nat):Prop:= ∀ (h:s<d.next.length) (h2:s<d.label.length),(d.next[s].length:Int)=d.width∧0≤d.label[s]∧d.label[s]≤d.names.length∧ ∀t∈d.next[s],0≤t∧t<d.label.length
def ziH (d:DfaT):Prop:= ∀s,zrI d s
theorem zyu {d:DfaT} (P0:zr d) (C1:d.next.length=d.label.length) {G:zb} {H:za} {R:Value→zb→za→Prop} {v:Value} (hv:IsD G d v) (hR:R (.bool (zaz (ziH d))) G H):FnT Tryz.prog 28 [v] G H R:=by
  obtain⟨A6,hofb,vn,vl,vs,rfl,⟨an,cn,rs,rfl,M6,I2,hcn,M7⟩,⟨al,cl,rfl,hrl',V2⟩,⟨ay,cs,rfl,hrs',hcs⟩⟩:=hv;obtain⟨U3,M2,V3,A4,M4⟩:=P0;obtain⟨C,hC⟩: ∃C,C=zc d (.slice an d.next.length cn) (.slice al d.label.length cl) (.slice ay d.names.length cs):=⟨_,rfl⟩;have N0:C.length=260:=by rw[hC];exact zN A6 _ _ _
  have D1:C[256]? =some (.int .i64 d.width):=by rw[hC];exact zj2 A6 _ _ _
  have J1:C[257]? =some (.slice an d.next.length cn):=by rw[hC];exact zcx A6 _ _ _
  have X0:C[258]? =some (.slice al d.label.length cl):=by rw[hC];exact zbz A6 _ _ _
  have S2:C[259]? =some (.slice ay d.names.length cs):=by rw[hC];exact znZ A6 _ _ _
  rw[←hC];refine Ee tok zrF Tryz.func28 rfl Kk Kk Kn fun M0=>?_;rw[Tryz.results28];have hE:=M0;try simp only[zzs] at hE
  repeat(obtain⟨J0,hE⟩:=hE)
  repeat' first
    |with_reducible first|refine Zd ?_ |refine Ae (fun _=>?_) fun _=>?_ |refine Nb fun nb A0 C0 B0=>?_
    |simp -dsimp -implicitDefEqProofs (disch:=first|exact Kd|fail) only[go_sem,↓reduceIte,seval, -He,Ye,N0,D1,J1,X0,S2]
  refine Je tok zrF Kk [1,2,3,12,13,14] (fun q G' fr H'=> ∃s:Nat,s+q=d.next.length∧(∀j,j<s→zrI d j)∧G'=G∧H'=(nb, .cells C [] 27)::H∧fr=[(1, .pointer (some ⟨nb,0,none⟩)),(2, .bool false),(3, .int .i64 d.label.length),(12, .slice an d.next.length cn),(13, .int .i64 d.next.length),(14, .int .i64 s)]) (d.next.length) ?_ ?_
  · exact Ce ⟨0,by omega,fun j h=>by omega,rfl,rfl,rfl⟩
  · rintro q G1 fr H' S0 hs ⟨s,hi,B1,rfl,rfl,rfl⟩;have hE:=hs;try simp only[zzs] at hE
    repeat(obtain⟨J0,hE⟩:=hE)
    by_cases D3:s<d.next.length
    · have hsv:s<rs.length:=by omega
      have hsL:s<d.label.length:=by omega
      obtain⟨b,c,e1,e2,e3⟩:=M7 s D3 hsv;have hrm:=M2 _ (Me D3);have B3:Adr an:=M6.adr Ko;have V6:Adr al:=hrl'.adr (by rw[Be];omega)
      repeat' first
        |with_reducible first|refine Zd ?_ |refine Ae (fun _=>?_) fun _=>?_ |refine Nb fun nb A0 C0 B0=>?_
        |with_reducible refine Tri.drawM tok mixed zrF 5 [3,7,10,15,18,20] (.op 0 .plain (.op 1 .plain (.op 2 .plain (.op 3 .held (.op 4 .plain (.op 5 .plain (.op 6 .plain (.op 7 .held (.op 8 .plain (.op 9 .plain (.op 10 .held (.op 11 .plain (.op 12 .plain (.op 13 .plain (.op 14 .plain (.op 15 .held (.op 16 .plain (.op 17 .plain (.op 18 .held (.op 19 .plain (.op 20 .held (.op 21 .plain (.op 22 .plain (.op 23 .plain .nil)))))))))))))))))))))))) Kk _ (List.Sublist.refl _) ?_
        |simp -dsimp -implicitDefEqProofs (disch:=first|exact Kd|fail) only[go_sem,↓reduceIte,seval, -He,Ye,N0,D1,J1,X0,S2,Ie M6,e1,Ie hrl',Le]
      all_goals try(
        rw[zu (p:=ziH d) fun h=>by
          obtain⟨r1,r2,r3,r4⟩:=h s D3 hsL;omega] at hR
        exact De Ks hR rfl)
      obtain⟨row,U0⟩: ∃row,row=d.next[s]:=⟨_,rfl⟩;have hrw:(row.length:Int)=d.width∧0≤d.label[s]∧d.label[s]≤d.names.length:=by rw[U0];omega
      rw[←U0] at e2 e3 hrm⊢;refine Je tok zrF Kk [1,2,3,12,13,14,43,44,45] (fun q2 G' fr H'=> ∃k:Nat,k+q2=row.length∧(∀j (h:j<row.length),j<k→0≤row[j]∧row[j] <d.label.length)∧G'=G1∧H'=(nb, .cells C [] 27)::H∧fr=[(1, .pointer (some ⟨nb,0,none⟩)),(2, .bool false),(3, .int .i64 d.label.length),(12, .slice an d.next.length cn),(13, .int .i64 d.next.length),(14, .int .i64 s),(43, .slice b row.length c),(44, .int .i64 row.length),(45, .int .i64 k)]) (row.length) ?_ ?_
      · exact Ce ⟨0,by omega,fun j _ h=>by omega,rfl,rfl,rfl⟩
      · rintro q2 G2 fr H' Q0 R0 ⟨k,hk,Xb,rfl,rfl,rfl⟩;by_cases Q2:k<row.length
        · have Xa:Adr b:=e2.adr (by rw[Be];omega)
          repeat' first
            |with_reducible first|refine Zd ?_ |refine Ae (fun _=>?_) fun _=>?_ |refine Nb fun nb A0 C0 B0=>?_
            |simp -dsimp -implicitDefEqProofs (disch:=first|exact Kd|fail) only[go_sem,↓reduceIte,seval, -He,Ie e2,Le]
          all_goals first
            | (rw [zu (p := ziH d) fun h => by
                obtain⟨r1,r2,r3,r4⟩:=h s D3 hsL;have:=r4 row[k] (by rw[←U0];exact Me Q2);omega] at hR
               exact De Ks hR rfl)
            | exact Ce ⟨q2 - 1, by omega, k + 1, by omega, fun j h hj => by
                by_cases e:j=k
                · subst e;omega
                · exact Xb j h Ko,rfl,rfl,rfl⟩
        · obtain rfl:k=row.length:=by omega
          repeat' first
            |with_reducible first|refine Zd ?_ |refine Ae (fun _=>?_) fun _=>?_ |refine Nb fun nb A0 C0 B0=>?_
            |simp -dsimp -implicitDefEqProofs (disch:=first|exact Kd|fail) only[go_sem,↓reduceIte,seval, -He]
          exact Ce ⟨q - 1,by omega,s+1,by omega,fun j hj=>by
            by_cases e:j=s
            · subst e
              exact fun h1 h2=>⟨by rw[←U0];omega,by omega,by omega,fun t ht=>by
                rw[←U0] at ht;obtain⟨j,hj,rfl⟩:=Ue ht;exact Xb j hj hj⟩
            · exact B1 j Ko,rfl,rfl,rfl⟩
    · obtain rfl:s=d.next.length:=by omega
      rw[zA (p:=ziH d) fun s=>by
        rcases Nat.lt_or_ge s d.next.length with h|h
        · exact B1 s h
        · exact fun h2=>by omega] at hR
      repeat' first
        |with_reducible first|refine Zd ?_ |refine Ae (fun _=>?_) fun _=>?_ |refine Nb fun nb A0 C0 B0=>?_
        |simp -dsimp -implicitDefEqProofs (disch:=first|exact Kd|fail) only[go_sem,↓reduceIte,seval, -He]
      all_goals refine De ?_ hR ?_
      any_goals first|exact Ks|skip
      rfl
def zg (d:DfaT):Prop:=1≤d.label.length∧d.label.length≤65536∧d.next.length=d.label.length∧zd d.of=d.of∧((zl d.of).length:Int)=d.width∧zaR d.names∧ziH d
structure OpenD (G:zb) (d:DfaT) (C:List Value) (an al ay:Option Addr) (cn cl cs:Nat) (rs:List Value):Prop where
 len:C.length=260
 w:C[256]? =some (.int .i64 d.width)
 n:C[257]? =some (.slice an d.next.length cn)
 l:C[258]? =some (.slice al d.label.length cl)
 s:C[259]? =some (.slice ay d.names.length cs)
 of:C.take 256=u8L d.of
 all:C.take 260=C
 is:IsD G d (.agg C.toArray)
 ofl:d.of.length=256
 ofb: ∀x∈d.of,0≤x∧x≤255
 rn:Row G an rs
 rnl:rs.length=d.next.length
 rnc:d.next.length≤cn
 rs: ∀i (h:i<d.next.length) (h2:i<rs.length),∃b c,rs[i]= .slice b d.next[i].length c∧Row G b (d.next[i].map (Yd .i64))∧d.next[i].length≤c
 rl:Row G al (d.label.map (Yd .i64))
 rlc:d.label.length≤cl
 ry:Row G ay (d.names.map str)
 ryc:d.names.length≤cs
theorem IsD.opened {G:zb} {d:DfaT} {v:Value} (h:IsD G d v): ∃C an al ay cn cl cs rs,v= .agg (List.toArray C)∧OpenD G d C an al ay cn cl cs rs:=by
 have h0:=h;obtain⟨A6,hofb,vn,vl,vs,rfl,⟨an,cn,rs,rfl,M6,I2,hcn,M7⟩,⟨al,cl,rfl,hrl',V2⟩,⟨ay,cs,rfl,hrs',hcs⟩⟩:=h;exact⟨_,an,al,ay,cn,cl,cs,rs,rfl,zN A6 _ _ _,zj2 A6 _ _ _,zcx A6 _ _ _,zbz A6 _ _ _,znZ A6 _ _ _,zth A6 _ _ _,zbQ A6 _ _ _,h0,A6,hofb,M6,I2,hcn,M7,hrl',V2,hrs',hcs⟩
theorem OpenD.mono {G G':zb} (S0:PLe G G') {d:DfaT} {C:List Value} {an al ay:Option Addr} {cn cl cs:Nat} {rs:List Value} (h:OpenD G d C an al ay cn cl cs rs):OpenD G' d C an al ay cn cl cs rs:=
 ⟨h.len,h.w,h.n,h.l,h.s,h.of,h.all,h.is.mono S0,h.ofl,h.ofb,h.rn.mono S0,h.rnl,h.rnc,fun i h1 h2=>by
  obtain⟨b,c,e1,e2,e3⟩:=h.rs i h1 h2;exact⟨b,c,e1,e2.mono S0,e3⟩,h.rl.mono S0,h.rlc,h.ry.mono S0,h.ryc⟩
theorem OpenD.label {G:zb} {d:DfaT} {C:List Value} {an al ay:Option Addr} {cn cl cs:Nat} {rs:List Value} (h:OpenD G d C an al ay cn cl cs rs):Sl G (Yd .i64) (.slice al d.label.length cl) d.label:=⟨al,cl,rfl,h.rl,h.rlc⟩
theorem OpenD.names {G:zb} {d:DfaT} {C:List Value} {an al ay:Option Addr} {cn cl cs:Nat} {rs:List Value} (h:OpenD G d C an al ay cn cl cs rs):Sl G str (.slice ay d.names.length cs) d.names:=⟨ay,cs,rfl,h.ry,h.ryc⟩
theorem zaJ {d:DfaT} (P0:zr d) {G:zb} {H:za} {R:Value→zb→za→Prop} {v:Value} (hv:IsD G d v) (hR:R (.bool (zaz (zg d))) G H):FnT Tryz.prog 15 [v] G H R:=by
 obtain⟨C,an,al,ay,cn,cl,cs,rs,rfl,O⟩:=hv.opened;obtain⟨U3,M2,V3,A4,M4⟩:=id P0;have N0:=O.len;have D1:=O.w;have J1:=O.n;have X0:=O.l;have S2:=O.s;have E4:=O.of;have T0:=O.all;by_cases h1:1≤d.label.length∧d.label.length≤65536∧d.next.length=d.label.length
 ·obtain⟨h1a,h1b,h1c⟩:=h1;refine Ee tok kp5 Tryz.func15 rfl Kk Kk Kn fun M0=>?_;rw[Tryz.results15];have hE:=M0;try simp only[zzs] at hE
  repeat(obtain⟨J0,hE⟩:=hE)
  repeat' first
   |with_reducible first|refine Zd ?_ |refine Ae (fun _=>?_) fun _=>?_ |refine Nb fun nb A0 C0 B0=>?_
   |simp -dsimp -implicitDefEqProofs (disch:=first|exact Kd|fail) only[go_sem,↓reduceIte,seval, -He,Ye,N0,D1,J1,X0,S2,E4,T0]
   |with_reducible refine zvi O.ofl d.width ?_
   |with_reducible refine zxs d.names A4 M4 O.names ?_
   |with_reducible refine zyu P0 h1c O.is ?_
  ·rename_i hp hq;refine De Ks hR ?_;rw[Bool.and_eq_true,decide_eq_true_eq,decide_eq_true_eq] at hp;simp only[Value.bool.injEq];rw[Lf,zcn,zcn];exact⟨fun h=>⟨h1a,h1b,h1c,hp.1,hp.2,zcn.1 hq,h⟩,fun h=>h.2.2.2.2.2.2⟩
  ·rename_i hp hq;rw[zu fun h=>by rw[zA h.2.2.2.2.2.1] at hq;cases hq] at hR;all_goals refine De ?_ hR ?_
   any_goals first|exact Ks|skip
   rfl
  ·rename_i hp;rw[zu fun h=>by rw[decide_eq_true h.2.2.2.1,decide_eq_true h.2.2.2.2.1] at hp;cases hp] at hR;all_goals refine De ?_ hR ?_
   any_goals first|exact Ks|skip
   rfl
 ·rw[zu fun h=>h1 ⟨h.1,h.2.1,h.2.2.1⟩] at hR;refine Ee tok kp5 Tryz.func15 rfl Kk Kk Kn fun M0=>?_;rw[Tryz.results15];have hE:=M0;try simp only[zzs] at hE
  repeat(obtain⟨J0,hE⟩:=hE)
  repeat' first
   |with_reducible first|refine Zd ?_ |refine Ae (fun _=>?_) fun _=>?_ |refine Nb fun nb A0 C0 B0=>?_
   |simp -dsimp -implicitDefEqProofs (disch:=first|exact Kd|fail) only[go_sem,↓reduceIte,seval, -He,Ye,N0,D1,J1,X0,S2,E4,T0]
  all_goals try(exfalso;omega)
  all_goals refine De ?_ hR ?_
  any_goals first|exact Ks|skip
  all_goals rfl
def zkR (h:Nat) (c:UInt8):Nat:=(h ^^^ c.toNat) * 16777619 % 4294967296
def zbv (b:List UInt8):Nat:=b.foldl zkR 2166136261
theorem zgB (b:List UInt8) {i:Nat} (h:i<b.length):zbv (b.take (i+1))=zkR (zbv (b.take i)) b[i]:=by
 unfold zbv;rw[Re h,If,Rf,Pf]
theorem zvl (h:Nat) (c:UInt8):zkR h c<4294967296:=Nat.mod_lt _ (by decide)
theorem zeb (b:List UInt8):zbv b<4294967296:=by
 refine zhK (P:=fun b=>zbv b<4294967296) ?_ (fun l k _=>?_) b
 ·simp only[zbv,Pf];omega
 ·unfold zbv;rw[If,Rf,Pf];exact zvl _ _
theorem zfA {h:Nat} (hh:h<4294967296) (c:UInt8):IntKind.u32.wrap (zay .xor .u32 (h:Nat) (IntKind.u32.wrap (c.toNat:Nat)) * 16777619)=(zkR h c:Nat):=by
 have hc:=c.toNat_lt;have e1:IntKind.u32.wrap ((c.toNat:Nat):Int)=(c.toNat:Nat):=zeE (k:= .u32) rfl (by show _<4294967296;omega);rw[e1,znJ (k:= .u32) rfl Ko (by show _< (4294967296 :Int);omega) Ko (by show _< (4294967296 :Int);omega),Int.toNat_natCast,Int.toNat_natCast];unfold zkR;generalize h ^^^ c.toNat=x;simp only[IntKind.wrap,IntKind.signed,Bool.false_and,Bool.false_eq_true,if_false,IntKind.bits];omega
theorem zjh (n:Nat):Yd .u8 (IntKind.u8.wrap (n:Int))=zp (UInt8.ofNat n):=by
 unfold zp;rw[UInt8.toNat_ofNat'];simp only[IntKind.wrap,IntKind.bits,IntKind.signed];simp
def beB (many n:Nat):List UInt8:=(List.range many).map fun i=>UInt8.ofNat (n / 2 ^ (8 * (many - 1 - i)))
theorem zX (many n:Nat):(beB many n).length=many:=by simp [beB]
def Buf (v:Value) (kb:za) (l:List UInt8):Prop:=zO [] 5 1 v l.length (l.map zp) kb
theorem zn1 {b:List UInt8} (O9:b.length≤200000000) {G:zb} {H:za} {R:Value→zb→za→Prop} {v:Value} (hv:Sl G zp v b) (hR:R (.int .u32 (zbv b:Nat)) G H):FnT Tryz.prog 7 [v] G H R:=by
 obtain⟨a,cap,rfl,U0,D5⟩:=hv;refine Ee tok zlB Tryz.func7 rfl Kk Kk Kn fun M0=>?_;rw[Tryz.results7];have hE:=M0;try simp only[zzs] at hE
 repeat(obtain⟨J0,hE⟩:=hE)
 repeat' first
  |with_reducible first|refine Zd ?_ |refine Ae (fun _=>?_) fun _=>?_ |refine Nb fun nb A0 C0 B0=>?_ |refine Nr fun nb D0 E0 A0 I0 C0 B0=>?_
  |simp -dsimp -implicitDefEqProofs (disch:=first|exact Kd|fail) only[go_sem,↓reduceIte,seval]
 refine Je tok zlB Kk [0,2,3,6,7,8] (fun q G' fr H'=> ∃i:Nat,i+q=b.length∧G'=G∧H'=H∧fr=[(0, .slice a b.length cap),(2, .int .u32 0),(3, .int .u32 (zbv (b.take i):Nat)),(6, .slice a b.length cap),(7, .int .i64 b.length),(8, .int .i64 (i:Nat))]) (b.length) (Ce ?_) ?_
 ·exact⟨0,by omega,rfl,rfl,rfl⟩
 ·rintro q G1 fr H' S0 V0 ⟨i,Q5,rfl,rfl,rfl⟩;by_cases Y0:i<b.length
  ·have B3:Adr a:=U0.adr (by rw[Be];omega);have N1:=zgB b Y0;have J2:=zeb (b.take i)
   repeat' first
    |with_reducible first|refine Zd ?_ |refine Ae (fun _=>?_) fun _=>?_ |refine Nb fun nb A0 C0 B0=>?_ |refine Nr fun nb D0 E0 A0 I0 C0 B0=>?_
    |simp -dsimp -implicitDefEqProofs (disch:=first|exact Kd|fail) only[go_sem,↓reduceIte,seval,Ie U0,Le,zp,zfA J2]
   exact Ce ⟨q - 1,by omega,i+1,by omega,rfl,rfl,by rw[N1];rfl⟩
  ·obtain rfl:i=b.length:=by omega
   rw[Te]
   repeat' first
    |with_reducible first|refine Zd ?_ |refine Ae (fun _=>?_) fun _=>?_ |refine Nb fun nb A0 C0 B0=>?_ |refine Nr fun nb D0 E0 A0 I0 C0 B0=>?_
    |simp -dsimp -implicitDefEqProofs (disch:=first|exact Kd|fail) only[go_sem,↓reduceIte,seval]
   all_goals refine De ?_ hR ?_
   any_goals first|exact Ks|skip
   all_goals rfl
theorem zyv {b:List UInt8} (O9:b.length≤200000000) {G:zb} {H:za} {R:Value→zb→za→Prop} {v:Value} (hv:Sl G zp v b) (hR:R (.int .u32 (zbv b:Nat)) G H):FnT Tryz.prog 8 [v] G H R:=by
 obtain⟨a,cap,rfl,U0,D5⟩:=hv;refine Ee tok zrG Tryz.func8 rfl Kk Kk Kn fun M0=>?_;rw[Tryz.results8];have hE:=M0;try simp only[zzs] at hE
 repeat(obtain⟨J0,hE⟩:=hE)
 repeat' first
  |with_reducible first|refine Zd ?_ |refine Ae (fun _=>?_) fun _=>?_ |refine Nb fun nb A0 C0 B0=>?_ |refine Nr fun nb D0 E0 A0 I0 C0 B0=>?_
  |simp -dsimp -implicitDefEqProofs (disch:=first|exact Kd|fail) only[go_sem,↓reduceIte,seval]
 refine Je tok zrG Kk [0,2,3,4] (fun q G' fr H'=> ∃i:Nat,i+q=b.length∧G'=G∧H'=H∧fr=[(0, .slice a b.length cap),(2, .int .u32 0),(3, .int .u32 (zbv (b.take i):Nat)),(4, .int .i64 (i:Nat))]) (b.length) (Ce ?_) ?_
 ·exact⟨0,by omega,rfl,rfl,rfl⟩
 ·rintro q G1 fr H' S0 V0 ⟨i,Q5,rfl,rfl,rfl⟩;by_cases Y0:i<b.length
  ·have B3:Adr a:=U0.adr (by rw[Be];omega);have N1:=zgB b Y0;have J2:=zeb (b.take i)
   repeat' first
    |with_reducible first|refine Zd ?_ |refine Ae (fun _=>?_) fun _=>?_ |refine Nb fun nb A0 C0 B0=>?_ |refine Nr fun nb D0 E0 A0 I0 C0 B0=>?_
    |simp -dsimp -implicitDefEqProofs (disch:=first|exact Kd|fail) only[go_sem,↓reduceIte,seval,Ie U0,Le,zp,zfA J2]
   exact Ce ⟨q - 1,by omega,i+1,by omega,rfl,rfl,by rw[N1];rfl⟩
  ·obtain rfl:i=b.length:=by omega
   rw[Te]
   repeat' first
    |with_reducible first|refine Zd ?_ |refine Ae (fun _=>?_) fun _=>?_ |refine Nb fun nb A0 C0 B0=>?_ |refine Nr fun nb D0 E0 A0 I0 C0 B0=>?_
    |simp -dsimp -implicitDefEqProofs (disch:=first|exact Kd|fail) only[go_sem,↓reduceIte,seval]
   all_goals refine De ?_ hR ?_
   any_goals first|exact Ks|skip
   all_goals rfl
theorem zkS {l:List UInt8} (hl:l.length≤200000000) {n:Nat} (hn:n<4294967296) {v:Value} {kb:za} (hb:Buf v kb l) {G:zb} {H:za} {R:Value→zb→za→Prop} (hR: ∀v' kb',Buf v' kb' (l++[UInt8.ofNat (n / 256),UInt8.ofNat (n % 256)])→Sep G (zm (kb'++H))→R v' G (kb'++H)):FnT Tryz.prog 30 [v, .int .i64 (n:Nat)] G (kb++H) R:=by
 have V1: ∀x:Value,Fe 2 x=[x,x]:=fun _=>rfl;have e1:Yd .u8 (IntKind.u8.wrap ((n:Int) / 256))=zp (UInt8.ofNat (n / 256)):=by rw[←zjh];rfl
 have e2:Yd .u8 ((n:Int) % 256)=zp (UInt8.ofNat (n % 256)):=by
  rw[←zjh,show((n % 256 :Nat):Int)=(n:Int) % 256 from rfl];congr 1;simp only[IntKind.wrap,IntKind.bits,IntKind.signed];simp
 obtain⟨z1,hz1⟩: ∃z,IntKind.u8.wrap ((n:Int) / 256)=z:=⟨_,rfl⟩;obtain⟨z2,W6⟩: ∃z,(n:Int) % 256=z:=⟨_,rfl⟩;have hm:(l++[UInt8.ofNat (n / 256),UInt8.ofNat (n % 256)]).map zp=l.map zp++[Yd .u8 z1,Yd .u8 z2]:=by rw[Ke,←hz1,←W6,e1,e2];rfl
 refine FnT.sep ?_;rcases hb with ⟨a,rfl,Z8,hx,rfl⟩| ⟨b,cap,sp,rfl,rfl,hx,hc⟩
 ·have h0:l=[]:=Df Z8;subst h0;refine Ee tok [0,1,4] Tryz.func30 rfl Kk Kk Kn fun M0=>?_;rw[Tryz.results30];have hE:=M0;try simp only[zzs] at hE
  repeat(obtain⟨J0,hE⟩:=hE)
  repeat' first
   |with_reducible first|refine Zd ?_ |refine Ae (fun _=>?_) fun _=>?_ |refine Nb fun nb A0 C0 B0=>?_ |refine Nr fun nb D0 E0 A0 I0 C0 B0=>?_
   |simp -dsimp -implicitDefEqProofs (disch:=first|exact Kd|fail) only[go_sem,↓reduceIte,seval, -He,V1,hz1,W6]
  unfold zo;refine Upd.leave (H':=[(nb, .cells [Yd .u8 z1,Yd .u8 z2] D0 5)]++H) Ks ?_;exact fun _ hs=>hR _ _ (.inr ⟨nb,E0,D0,rfl,by rw[hm];rfl,rfl,by simp at I0⊢;omega⟩) hs
 ·rw[Be] at hx hc;refine Ee tok [0,1,4] Tryz.func30 rfl Kk Kk Kn fun M0=>?_;rw[Tryz.results30];have hE:=M0;try simp only[zzs] at hE
  repeat(obtain⟨J0,hE⟩:=hE)
  repeat' first
   |with_reducible first|refine Zd ?_ |refine Ae (fun _=>?_) fun _=>?_ |refine Nb fun nb A0 C0 B0=>?_ |refine Nr fun nb D0 E0 A0 I0 C0 B0=>?_
   |simp -dsimp -implicitDefEqProofs (disch:=first|exact Kd|fail) only[go_sem,↓reduceIte,seval, -He,V1,hz1,W6]
  unfold zo;refine Upd.leave (H':=[(nb, .cells (l.map zp++[Yd .u8 z1,Yd .u8 z2]) D0 5)]++H) Ks ?_;exact fun _ hs=>hR _ _ (.inr ⟨nb,E0,D0,by rw[Ve];rfl,by rw[hm],by simp,by simp at I0⊢;omega⟩) hs
theorem zxu {many n i:Nat} (h:i<many):(beB many n)[i]'(by rw[zX];exact h)=UInt8.ofNat (n / 2 ^ (8 * (many - 1 - i))):=by simp [beB]
theorem zfJ (n:Nat):beB 1 n=[UInt8.ofNat n]:=by simp [beB,Sf]
theorem zji (n:Nat):beB 2 n=[UInt8.ofNat (n / 256),UInt8.ofNat n]:=by simp [beB,Sf]
theorem zn2 (n:Nat):beB 4 n=[UInt8.ofNat (n / 16777216),UInt8.ofNat (n / 65536),UInt8.ofNat (n / 256),UInt8.ofNat n]:=by simp [beB,Sf]
theorem zeZ {l:List UInt8} (hl:l.length≤200000000) {n many:Nat} (hn:n<4294967296) (hm:many≤4) {v:Value} {kb:za} (hb:Buf v kb l) {G:zb} {H:za} {R:Value→zb→za→Prop} (hR: ∀v' kb',Buf v' kb' (l++beB many n)→Sep G (zm (kb'++H))→R v' G (kb'++H)):FnT Tryz.prog 29 [v, .int .i64 (n:Nat), .int .i64 (many:Nat)] G (kb++H) R:=by
 have O9:=zX many n;have U1: ∀x:Value,Fe 1 x=[x]:=fun _=>rfl;refine FnT.sep ?_;refine Ee tok zyn Tryz.func29 rfl Kk Kk Kn fun M0=>?_;rw[Tryz.results29];have hE:=M0;try simp only[zzs] at hE
 repeat(obtain⟨J0,hE⟩:=hE)
 repeat' first
  |with_reducible first|refine Zd ?_ |refine Ae (fun _=>?_) fun _=>?_ |refine Nb fun nb A0 C0 B0=>?_ |refine Nr fun nb D0 E0 A0 I0 C0 B0=>?_
  |simp -dsimp -implicitDefEqProofs (disch:=first|exact Kd|fail) only[go_sem,↓reduceIte,seval]
 refine Je tok zyn Kk [0,1,2,6,8,9] (fun q G' fr H'=> ∃ (i:Nat) (v:Value) (kb:za),i+q=many∧G'=G∧Buf v kb (l++(beB many n).take i)∧H'=kb++H∧fr=[(0,v),(1, .int .i64 (n:Nat)),(2, .int .i64 (many:Nat)),(6, .slice none 0 0),(8, .int .i64 (many:Nat)),(9, .int .i64 (i:Nat))]) (many) ?_ ?_
 ·exact Ce ⟨0,v,kb,by omega,rfl,by rw[Se,Bf];exact hb,rfl,rfl⟩
 ·rintro q G1 fr H' S0 V0 ⟨i,v1,kb1,Q5,rfl,R3,rfl,rfl⟩;by_cases him:i<many
  ·obtain⟨j,hj⟩: ∃j,many=i+1+j:=⟨many - (i+1),by omega⟩;have L6:((many:Nat):Int) - 1 - (i:Nat)=(j:Nat):=by omega
   have E6:=zxu (n:=n) him;have B2:(beB many n).take (i+1)=(beB many n).take i++[(beB many n)[i]'Ko]:=Re Ko;rw[E6,show many - 1 - i=j by omega] at B2;obtain⟨p,hp⟩: ∃p,p=l++(beB many n).take i:=⟨_,rfl⟩;have J3:p.length=l.length+i:=by rw[hp,Ve,Ge];omega
   have P9:l++(beB many n).take (i+1)=p++[UInt8.ofNat (n / 2 ^ (8 * j))]:=by rw[B2,hp,List.append_assoc]
   rw[←hp] at R3;obtain⟨z,hz⟩: ∃z,IntKind.u8.wrap ((n:Int) / 2 ^ (8 * (j:Int)).toNat)=z:=⟨_,rfl⟩
   have hzb:Yd .u8 z=zp (UInt8.ofNat (n / 2 ^ (8 * j))):=by
    rw[←zjh,←hz,show(8 * (j:Int)).toNat=8 * j by omega];congr 2;try simp
   rcases R3 with ⟨a,rfl,Z8,hx,rfl⟩| ⟨b,cap,sp,rfl,rfl,hx,hc⟩
   ·have h0:p=[]:=Df Z8;rw[h0,Af] at P9
    repeat' first
     |with_reducible first|refine Zd ?_ |refine Ae (fun _=>?_) fun _=>?_ |refine Nb fun nb A0 C0 B0=>?_ |refine Nr fun nb D0 E0 A0 I0 C0 B0=>?_
     |simp -dsimp -implicitDefEqProofs (disch:=first|exact Kd|fail) only[go_sem,↓reduceIte,seval, -He,L6,U1,hz]
    refine Oe (H':=[(nb, .cells [Yd .u8 z] D0 5)]++H) Ks (Ce ⟨q - 1,by omega,i+1,_,_,by omega,rfl,?_,rfl,rfl⟩);rw[P9];exact .inr ⟨nb,E0,D0,rfl,by rw[hzb];rfl,rfl,by simp at I0⊢;omega⟩
   ·rw[Be] at hx hc
    repeat' first
     |with_reducible first|refine Zd ?_ |refine Ae (fun _=>?_) fun _=>?_ |refine Nb fun nb A0 C0 B0=>?_ |refine Nr fun nb D0 E0 A0 I0 C0 B0=>?_
     |simp -dsimp -implicitDefEqProofs (disch:=first|exact Kd|fail) only[go_sem,↓reduceIte,seval, -He,L6,U1,hz]
    refine Oe (H':=[(nb, .cells (p.map zp++[Yd .u8 z]) D0 5)]++H) Ks (Ce ⟨q - 1,by omega,i+1,_,_,by omega,rfl,?_,rfl,rfl⟩);rw[P9];exact .inr ⟨nb,E0,D0,by rw[Ve];rfl,by rw[Ke,hzb];rfl,by simp,by simp at I0⊢;omega⟩
  ·obtain rfl:i=many:=by omega
   have R4:(beB i n).take i=beB i n:=Pe Ko;rw[R4] at R3
   repeat' first
    |with_reducible first|refine Zd ?_ |refine Ae (fun _=>?_) fun _=>?_ |refine Nb fun nb A0 C0 B0=>?_ |refine Nr fun nb D0 E0 A0 I0 C0 B0=>?_
    |simp -dsimp -implicitDefEqProofs (disch:=first|exact Kd|fail) only[go_sem,↓reduceIte,seval]
   unfold zo;refine Ce ?_;exact fun _ hs=>hR _ _ R3 hs
abbrev Rdr:=Bool×List UInt8
def zba (n:Nat) (s:Rdr):List UInt8×Rdr:=if s.1=true∨s.2.length<n then(Fe n 0,(true,s.2)) else(s.2.take n,(s.1,s.2.drop n))
theorem ziI (n:Nat) (s:Rdr):(zba n s).1.length=n:=by
 unfold zba;split
 ·exact We
 ·rename_i h;show(s.2.take n).length=n;rw[Ge];omega
theorem zn3 (n:Nat) (s:Rdr):(zba n s).2.2.length≤s.2.length:=by
 unfold zba;split
 ·exact Qe _
 ·show(s.2.drop n).length≤_;rw[Of];omega
def beV (l:List UInt8):Nat:=l.foldl (fun n c=>n * 256+c.toNat) 0
theorem zn4 (l:List UInt8) (c:UInt8):beV (l++[c])=beV l * 256+c.toNat:=by unfold beV;rw[If,Rf,Pf]
theorem zti (l:List UInt8):beV l<256 ^ l.length:=by
 refine zhK (P:=fun l=>beV l<256 ^ l.length) (by simp [beV]) (fun l c ih=>?_) l;rw[zn4,Ve,List.length_singleton,Nat.pow_succ];have:=c.toNat_lt;omega
def zD (many:Nat) (s:Rdr):Nat×Rdr:=(beV (zba many s).1,(zba many s).2)
theorem zqi (many:Nat) (s:Rdr):(zD many s).1<256 ^ many:=by
 have:=zti (zba many s).1
 rwa [ziI] at this
theorem zcd (many:Nat) (s:Rdr):(zD many s).2.2.length≤s.2.length:=zn3 many s
theorem zvm {n c:Nat} (hn:n<1099511627776) (hc:c<256):zay .or .i64 ((n:Int) * 256) (c:Nat)=((n * 256+c:Nat):Int):=by
 have e:((n:Int) * 256)=((n * 256 :Nat):Int):=by omega
 rw[e];simp only[zay,BitVec.ofInt_natCast]
 have h1:(BitVec.ofNat IntKind.i64.bits (n * 256)|||BitVec.ofNat IntKind.i64.bits c).toNat=n * 256+c:=by
  show(BitVec.ofNat 64 (n * 256)|||BitVec.ofNat 64 c).toNat=n * 256+c;rw[BitVec.toNat_or,BitVec.toNat_ofNat,BitVec.toNat_ofNat,Kf Ko,Kf Ko];have:=Nat.two_pow_add_eq_or_of_lt (i:=8) (b:=c) Ko n;rw[show n * 256=2 ^ 8 * n by omega];exact this.symm
 have h2:IntKind.i64.wrap ((n * 256+c:Nat):Int)=((n * 256+c:Nat):Int):=wrap_i64 Ko Ko;exact(congrArg (fun x:Nat=>IntKind.i64.wrap (x:Int)) h1).trans h2
theorem zlF {s:Rdr} (D3:s.2.length≤200000000) {n:Nat} (hn:n≤65536) {bR:Nat} {sv:Value} {G:zb} {H:za} {R:Value→zb→za→Prop} (hs:Sl G zp sv s.2)
  (hR: ∀G' v sv',PLe G G'→Sep G' (zm ((bR,Res.cells [sv', .bool (zba n s).2.1] [] 58)::H))→Sl G' zp v (zba n s).1→Sl G' zp sv' (zba n s).2.2→R v G' ((bR, .cells [sv', .bool (zba n s).2.1] [] 58)::H)):
  FnT Tryz.prog 58 [.pointer (some ⟨bR,0,none⟩), .int .i64 (n:Nat)] G ((bR, .cells [sv, .bool s.1] [] 58)::H) R:=by
 obtain⟨a,c,rfl,hr,hc⟩:=hs;obtain⟨bad,l⟩:=s;simp only at D3 hr hc hR⊢;refine FnT.sep ?_;by_cases h:bad=true∨l.length<n
 ·have e:zba n (bad,l)=(Fe n 0,(true,l)):=by unfold zba;rw[if_pos h]
  rw[e] at hR;rcases h with h|h
  ·subst h;refine Ee tok zvg Tryz.func58 rfl Kk Kk Kn fun M0=>?_;rw[Tryz.results58];have hE:=M0;try simp only[zzs] at hE
   repeat(obtain⟨J0,hE⟩:=hE)
   repeat' first
    |with_reducible first|refine Zd ?_ |refine Ae (fun _=>?_) fun _=>?_ |refine Nb fun nb A0 C0 B0=>?_ |refine Nr fun nb D0 E0 A0 I0 C0 B0=>?_
    |simp -dsimp -implicitDefEqProofs (disch:=first|exact Kd|fail) only[go_sem,↓reduceIte,seval]
   unfold zo;refine Oe (H':=(nb, .cells (Fe n (Yd .u8 0)) (Fe (n - n) (Yd .u8 0)) 5):: (bR, .cells [.slice a l.length c, .bool true] [] 58)::H) Ks (Jf Ka fun G2 Q0 R0 V1=>?_);exact fun S0 hs=>hR G2 _ _ Q0 hs ⟨some ⟨nb,0,none⟩,n,by rw[We],by rw[Ff];exact V1,by rw[We];exact Qe _⟩ ⟨a,c,rfl,hr.mono Q0,hc⟩
  ·refine Ee tok zvg Tryz.func58 rfl Kk Kk Kn fun M0=>?_;rw[Tryz.results58];have hE:=M0;try simp only[zzs] at hE
   repeat(obtain⟨J0,hE⟩:=hE)
   repeat' first
    |with_reducible first|refine Zd ?_ |refine Ae (fun _=>?_) fun _=>?_ |refine Nb fun nb A0 C0 B0=>?_ |refine Nr fun nb D0 E0 A0 I0 C0 B0=>?_
    |simp -dsimp -implicitDefEqProofs (disch:=first|exact Kd|fail) only[go_sem,↓reduceIte,seval]
   all_goals try(exfalso;omega)
   all_goals
    unfold zo;refine Oe (H':=(nb, .cells (Fe n (Yd .u8 0)) (Fe (n - n) (Yd .u8 0)) 5):: (bR, .cells [.slice a l.length c, .bool true] [] 58)::H) Ks (Jf Ka fun G2 Q0 R0 V1=>?_);exact fun S0 hs=>hR G2 _ _ Q0 hs ⟨some ⟨nb,0,none⟩,n,by rw[We],by rw[Ff];exact V1,by rw[We];exact Qe _⟩ ⟨a,c,rfl,hr.mono Q0,hc⟩
 ·have hb:bad=false:=by cases bad with|false=>rfl|true=>exact absurd (Or.inl rfl) h
  subst hb;have C1:n≤l.length:=by omega
  have e:zba n (false,l)=(l.take n,(false,l.drop n)):=by unfold zba;rw[if_neg h]
  rw[e] at hR;refine Ee tok zvg Tryz.func58 rfl Kk Kk Kn fun M0=>?_;rw[Tryz.results58];have hE:=M0;try simp only[zzs] at hE
  repeat(obtain⟨J0,hE⟩:=hE)
  repeat' first
   |with_reducible first|refine Zd ?_ |refine Ae (fun _=>?_) fun _=>?_ |refine Nb fun nb A0 C0 B0=>?_ |refine Nr fun nb D0 E0 A0 I0 C0 B0=>?_
   |simp -dsimp -implicitDefEqProofs (disch:=first|exact Kd|fail) only[go_sem,↓reduceIte,seval]
  all_goals try(exfalso;omega)
  refine⟨rfl,?_⟩;unfold zo;refine Ce ?_
  have h1:Row G (zbn a 0 n 0) ((l.take n).map zp):=by
   have:=(hr.take n).drop (l:=0) (m:=n) (s:=1) (fun e=>by subst e;simp);rw[Nat.zero_mul,List.drop_zero,←List.map_take] at this;exact this
  have h2:Row G (zbn a n c n) ((l.drop n).map zp):=by
   have:=hr.drop (l:=n) (m:=c) (s:=1) (fun e=>by rw[Be];omega);rw[Nat.mul_one,←List.map_drop] at this;exact this
  exact fun S0 hs=>hR G _ _ (PLe.refl _) hs ⟨_,n - 0,by rw[Ge,Nat.min_eq_left C1,Nat.sub_zero],h1,by rw[Ge];omega⟩ ⟨_,c - n,by rw[Of],h2,by rw[Of];omega⟩
theorem zb5 {s:Rdr} (D3:s.2.length≤200000000) {n:Nat} (hn:n≤4) {bR:Nat} {sv:Value} {G:zb} {H:za} {R:Value→zb→za→Prop} (hs:Sl G zp sv s.2)
  (hR: ∀G' sv',PLe G G'→Sep G' (zm ((bR,Res.cells [sv', .bool (zD n s).2.1] [] 58)::H))→Sl G' zp sv' (zD n s).2.2→R (.int .i64 ((zD n s).1 :Nat)) G' ((bR, .cells [sv', .bool (zD n s).2.1] [] 58)::H)):
  FnT Tryz.prog 33 [.pointer (some ⟨bR,0,none⟩), .int .i64 (n:Nat)] G ((bR, .cells [sv, .bool s.1] [] 58)::H) R:=by
 refine Ee tok zyo Tryz.func33 rfl Kk Kk Kn fun M0=>?_;rw[Tryz.results33];have hE:=M0;try simp only[zzs] at hE
 repeat(obtain⟨J0,hE⟩:=hE)
 repeat' first
  |with_reducible first|refine Zd ?_ |refine Ae (fun _=>?_) fun _=>?_ |refine Nb fun nb A0 C0 B0=>?_ |refine Nr fun nb D0 E0 A0 I0 C0 B0=>?_
  |simp -dsimp -implicitDefEqProofs (disch:=first|exact Kd|fail) only[go_sem,↓reduceIte,seval]
 refine zlF D3 Ko hs fun G1 v1 sv1 N2 V0 hx Yb=>?_;obtain⟨x,hxd⟩: ∃x,x=(zba n s).1:=⟨_,rfl⟩;have hxl:x.length=n:=by rw[hxd];exact ziI n s
 rw[←hxd] at hx;have hnum:(zD n s).1=beV x:=by rw[hxd];rfl
 obtain⟨a,c,rfl,hr,hc⟩:=hx;have hE:=V0;try simp only[zzs] at hE
 repeat(obtain⟨J0,hE⟩:=hE)
 repeat' first
  |with_reducible first|refine Zd ?_ |refine Ae (fun _=>?_) fun _=>?_ |refine Nb fun nb A0 C0 B0=>?_ |refine Nr fun nb D0 E0 A0 I0 C0 B0=>?_
  |simp -dsimp -implicitDefEqProofs (disch:=first|exact Kd|fail) only[go_sem,↓reduceIte,seval]
 refine Je tok zyo Kk [4,5,10,11,12] (fun q G' fr H'=> ∃i:Nat,i+q=x.length∧G'=G1∧H'=(bR, .cells [sv1, .bool (zba n s).2.1] [] 58)::H∧fr=[(4, .int .i64 0),(5, .int .i64 (beV (x.take i):Nat)),(10, .slice a x.length c),(11, .int .i64 x.length),(12, .int .i64 (i:Nat))]) (x.length) (Ce ?_) ?_
 ·exact⟨0,by omega,rfl,rfl,by rw[Se];rfl⟩
 ·rintro q G2 fr H' Q0 R0 ⟨i,Q5,rfl,rfl,rfl⟩;have hE:=R0;try simp only[zzs] at hE
  repeat(obtain⟨J0,hE⟩:=hE)
  by_cases Y0:i<x.length
  ·have B3:Adr a:=hr.adr (by rw[Be];omega);have J2:=zti (x.take i);have hlt2:256 ^ (x.take i).length≤256 ^ 3:=Nat.pow_le_pow_right (by decide) (by rw[Ge];omega);have I1:beV (x.take (i+1))=beV (x.take i) * 256+x[i].toNat:=by rw[Re Y0,zn4]
   have hor:=zvm (n:=beV (x.take i)) (c:=x[i].toNat) Ko x[i].toNat_lt;have Ea:=x[i].toNat_lt;have R8:IntKind.i64.wrap ((x[i].toNat:Nat):Int)=(x[i].toNat:Nat):=wrap_i64 Ko Ko
   repeat' first
    |with_reducible first|refine Zd ?_ |refine Ae (fun _=>?_) fun _=>?_ |refine Nb fun nb A0 C0 B0=>?_ |refine Nr fun nb D0 E0 A0 I0 C0 B0=>?_
    |simp -dsimp -implicitDefEqProofs (disch:=first|exact Kd|fail) only[go_sem,↓reduceIte,seval,Ie hr,Le,zp,R8,hor]
   exact Ce ⟨q - 1,by omega,i+1,by omega,rfl,rfl,by rw[I1];rfl⟩
  ·obtain rfl:i=x.length:=by omega
   rw[Te,←hnum]
   repeat' first
    |with_reducible first|refine Zd ?_ |refine Ae (fun _=>?_) fun _=>?_ |refine Nb fun nb A0 C0 B0=>?_ |refine Nr fun nb D0 E0 A0 I0 C0 B0=>?_
    |simp -dsimp -implicitDefEqProofs (disch:=first|exact Kd|fail) only[go_sem,↓reduceIte,seval]
   all_goals refine De ?_ (hR G2 sv1 N2 V0 Yb) ?_
   any_goals first|exact Ks|skip
   all_goals rfl
end Go.Proofs.YtomdbjfdbkejoaaGreatDoor
